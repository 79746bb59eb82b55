/- Part 5 of the proof that is ended in the last text: small logic, what the functions compute, walks, plain laws. -/
import Derived.Test.YtifhjkbiiekamaaDoorVl4
import Derived.Maps.RangeRun
import Derived.Recover
import Derived.KernelRfl
import Derived.Test.YtifhjkbiiekamaaDoorRows
import Derived.Lib.LaidTab
import Derived.ChangeSame
open Array renaming getD_eq_getD_getElem?->dP,getElem?_eq_none->hI,getElem?_setIfInBounds->eb,getElem?_toList->g0
open Bool renaming and_eq_true->bL,and_self->ld,eq_iff_iff->iN,false_eq_true->ie,not_eq_true'->gI,not_false->ko,not_true->gZ,true_and->lc
open List renaming append_assoc->iV,cons.injEq->hN,cons_append->iO,drop_eq_getElem_cons->hO,drop_of_length_le->ig,drop_zero->kl,exists_of_findSome?_eq_some->ee,ext_getElem?->jF,findSome?_append->kq,findSome?_cons->iL,findSome?_eq_none_iff->fQ,flatMap_cons->iw,getElem?_cons_zero->dX,getElem?_eq_getElem->bu,getElem?_eq_none->gV,getElem?_eq_some_iff->bb,getElem?_map->j4,getElem?_take->hG,length_append->fD,length_cons->df,length_map->iY,length_nil->gw,length_reverse->jJ,length_take->gf,map_cons->fA,mem_append->de,mem_cons->dc,mem_map->jP,mem_map_of_mem->kK,mem_of_getElem?->cU,mem_singleton->fG,nodup_append->ft,nodup_cons->jr,not_mem_nil->hx,range->fC,set_getElem_self->lv,take_add_one->j7,take_length->kg,take_of_length_le->hM
open Nat renaming beq->bT,ble->hX,blt->eM,eq_of_beq_eq_true->aZ,le_of_ble_eq_true->bW,le_refl->da,lt_or_ge->gE,zero_le->hh
open Option renaming bind->fs,bind_some->ae,getD_none->iT,getD_some->ia,map->fe,map_none->iu,map_some->fU,some.inj->eR,some.injEq->aK
open Prod renaming mk.injEq->cY
noncomputable section
namespace Go.Proofs.YtifhjkbiiekamaaDoor
open Go Go.RowKit aA ad a8
set_option maxRecDepth 100000
@[reducible] def M0{α:Type}(x:List UInt8×List UInt8×List ad.Field×List ad.Method×α):ad.ap:=⟨x.1,x.2.1,x.2.2.1,x.2.2.2.1⟩
@[reducible] def Fl{α:Type}(x:Int×List UInt8×α):ad.Kind:=⟨x.1,x.2.1⟩
@[reducible] def tp{α:Type}(x:List ad.ap×List Int×List (List ad.Field)×List (List (List UInt8))×List (List ad.Target)×α):ad.c4:=⟨x.1,x.2.1,x.2.2.1,x.2.2.2.1,x.2.2.2.2.1⟩
@[reducible] def Fm{α:Type}(x:List UInt8×Bool×List ad.Kind×Int×List UInt8×Int×Int×List UInt8×List ad.Handler×α):ad.Method:=⟨x.1,x.2.1,x.2.2.1,⟨x.2.2.2.1,x.2.2.2.2.1⟩,x.2.2.2.2.2.1,x.2.2.2.2.2.2.1,x.2.2.2.2.2.2.2.1,x.2.2.2.2.2.2.2.2.1⟩
@[reducible] def xu:bx:=.c 43 [.s,.b,.l 40,mw,.s,mw,mw,.s,.l 107]
@[reducible] def Lt:cG:=.a [.s,.b,.l 40,mw,.s,mw,mw,.s,.l 107]
@[reducible] def aoc:cG:=.a [.l 3,mw,mw,mw,mw,.l 3,mw]
@[reducible] def Lu:bx:=.c 29 [.l 37,.l 3,.l 34,.l 77,.l 78]
@[reducible] def ED:cG:=.a [.l 37,.l 3,.l 34,.l 77,.l 78]
@[reducible] def T7:bx:=.c 29 [.l 37,.l 3,.R 4,.R 5,.R 6]
@[reducible] def aob:bx:=.c 29 [.l 37,.R 2,.R 3,.R 4,.R 5]
@[reducible] def mR:bx:=.c 37 [.s,.s,.l 94,.l 43]
@[reducible] def T5:bx:=.c 37 [.s,.s,.R 2,.R 3]
@[reducible] def iE:bx:=.c 74 [.l 37,.M 1,.R 2]
@[reducible] def dD:bx:=.c 74 [.l 37,.M 1,.l 3]
@[reducible] def T6:bx:=.c 74 [.l 37,.M 2,.l 3]
def Yw(F:Nat):bs bd:=⟨yf F,λ _=>Y7 F,rY⟩
def H_(k:Nat)(mG:List UInt8)(a:Int)(al:Int):=dK ((mG.length:Int)=al/\True) (bF (uI mG k a))
theorem LL(k:Nat)(mG:List UInt8)(a:Int):bF (uI mG k a)=H_ k mG a (mG.length:Int):=(ek ⟨rfl,trivial⟩).symm
def W'(F:Nat):bs bd:=(Yw F).dL 65 0 F ⟨[0,6,7,8],[.p (.s),.p (.l 5),l7,l7],[],
 [⟨⟨.nm,[0],[.p (.s)],[]⟩,Unit,λ d r=>((d.1.1,()),())⟩,
  ⟨⟨.rt,[2],[me],[]⟩,Bool,λ d r=>((r,()),())⟩],
 λ k d=>H_ k d.1.2.1 d.1.2.2.2.1 d.1.2.2.1⟩ (c0.dT (λ d=>ej) λ k aN aO q h=>by
 obtain⟨(c:List UInt8),(v1:List UInt8),(e:Int),(a:Int),_⟩:=aN
 obtain⟨b,_⟩:=en h
 dsimp only at b
 obtain⟨rfl,_⟩:=b
 conv=>rhs;change fe (α:=Unit⊕Bool) _ (H_ (k+1) v1 a (v1.length:Int));rw[<-LL (k+1) v1 a];simp only[uI,b8,LL];simp only[dB]
 kernel_rfl)
def Xl(F:Nat):bs bd:=(W' F).rt 65 ⟨[.p (.s)],[],[me],[],Bool,λ d=>kW F d.1.1,λ d r=>((r,()),())⟩ λ aN aO=>by
 obtain⟨(a:List UInt8),_⟩:=aN;conv=>rhs;simp only[kW,b8,LL]
 kernel_rfl
def Xw(F:Nat):bs bd:=(Xl F).rt 87 ⟨[l7],[],[me],[],Bool,λ d=>DP d.1.1,λ d r=>((r,()),())⟩ λ aN aO=>by
 conv=>rhs;simp only[DP,b8]
 kernel_rfl
def XH(F:Nat):bs bd:=(Xw F).rt 66 ⟨[.a [mw,.s]],[],[me],[],Bool,λ d=>qh F (Fl d.1.1),λ d r=>((r,()),())⟩ λ aN aO=>by
 conv=>rhs;simp only[qh,b8]
 kernel_rfl
def XS(F:Nat):bs bd:=(XH F).rt 88 ⟨[l7,l7,l7],[],[me],[],Bool,λ d=>j9 d.1.1 d.1.2.1 d.1.2.2.1,λ d r=>((r,()),())⟩ λ aN aO=>by
 conv=>rhs;simp only[j9,b8]
 kernel_rfl
def H'(F:Nat)(k:Nat)(a:ad.Method)(b:Int)(c:Int)(ch:List ad.Kind):=dK ((a.b9.length:Int)=c/\(a.b9:List ad.Kind)=ch/\True) (bF (sb F a k b))
theorem LM(F:Nat)(k:Nat)(a:ad.Method)(b:Int):bF (sb F a k b)=H' F k a b (a.b9.length:Int) a.b9:=(ek ⟨rfl,rfl,trivial⟩).symm
def X3(F:Nat):bs bd:=(XS F).dL 67 1 F ⟨[1,41,42,43],[.p (.B 0),.p (.l 40),l7,l7],[xu],
 [⟨⟨.nm,[1],[.p (.B 0)],[xu]⟩,Unit,λ d r=>(((),()),(d.2.1,()))⟩,
  ⟨⟨.rt,[2],[l7],[.d]⟩,Int,λ d r=>((r,()),((),()))⟩],
 λ k d=>H' F k (⟨d.2.1.1,d.2.1.2.1,d.1.2.1,(Fl d.2.1.2.2.2),d.2.1.2.2.2.2.2.1,d.2.1.2.2.2.2.2.2.1,d.2.1.2.2.2.2.2.2.2.1,d.2.1.2.2.2.2.2.2.2.2.1⟩:ad.Method) d.1.2.2.2.1 d.1.2.2.1 d.2.1.2.2.1⟩ (c0.dT (λ d=>ej) λ k aN aO q h=>by
 obtain⟨_,(c:List ad.Kind),(v1:Int),(e:Int),_⟩:=aN
 obtain⟨⟨(f:List UInt8),(g:Bool),(o:List ad.Kind),(i:Int),(j:List UInt8),(l:Int),(m:Int),(a:List UInt8),(b:List ad.Handler),_⟩,_⟩:=aO
 obtain⟨n,_⟩:=en h
 dsimp only at n
 obtain⟨rfl,rfl,_⟩:=n
 conv=>rhs;change fe (α:=Unit⊕Int) _ (H' F (k+1) (⟨f,g,c,(⟨i,j⟩:ad.Kind),l,m,a,b⟩:ad.Method) e (c.length:Int) (c));rw[<-LM F (k+1) (⟨f,g,c,(⟨i,j⟩:ad.Kind),l,m,a,b⟩:ad.Method) e];simp only[sb,b8,LM];simp only[dB]
 kernel_rfl)
def Dk(F:Nat)(k:Nat)(a:ad.Method)(b:Int)(c:Int):=dK ((a.cj.length:Int)=c/\True) (bF (nC F a k b))
theorem EV(F:Nat)(k:Nat)(a:ad.Method)(b:Int):bF (nC F a k b)=Dk F k (⟨[],false,[],(⟨0,[]⟩:ad.Kind),0,0,[],a.cj⟩:ad.Method) b (a.cj.length:Int):=(show bF (nC F a k b)=bF (nC F (⟨[],false,[],(⟨0,[]⟩:ad.Kind),0,0,[],a.cj⟩:ad.Method) k b) by kernel_rfl).trans (ek ⟨rfl,trivial⟩).symm
theorem aiM(F:Nat)(k:Nat)(a:ad.Method)(b:Int):bF (uM F a k b)=Dk F k (⟨[],false,[],(⟨0,[]⟩:ad.Kind),0,0,[],a.cj⟩:ad.Method) b (a.cj.length:Int):=(show bF (uM F a k b)=bF (nC F a k b) by kernel_rfl).trans (EV F k a b)
def Yb(F:Nat):bs bd:=(X3 F).dL 67 3 F ⟨[62,63,64],[.p (.l 107),l7,l7],[],
 [⟨⟨.nm,[],[],[]⟩,Unit,λ d r=>((),())⟩,
  ⟨⟨.rt,[2],[l7],[]⟩,Int,λ d r=>((r,()),())⟩],
 λ k d=>Dk F k (⟨[],false,[],(⟨0,[]⟩:ad.Kind),0,0,[],d.1.1⟩:ad.Method) d.1.2.2.1 d.1.2.1⟩ (c0.dT (λ d=>ej) λ k aN aO q h=>by
 obtain⟨(a:List ad.Handler),(v1:Int),(b:Int),_⟩:=aN
 obtain⟨c,_⟩:=en h
 dsimp only at c
 obtain⟨rfl,_⟩:=c
 conv=>rhs;change fe (α:=Unit⊕Int) _ (Dk F (k+1) (⟨[],false,[],(⟨0,[]⟩:ad.Kind),0,0,[],a⟩:ad.Method) b (a.length:Int));rw[<-EV F (k+1) (⟨[],false,[],(⟨0,[]⟩:ad.Kind),0,0,[],a⟩:ad.Method) b];simp only[nC,b8,EV];simp only[dB]
 kernel_rfl)
def Yn(F:Nat):bs bd:=(Yb F).rt 67 ⟨[Lt],[],[l7],[],Int,λ d=>uL F (Fm d.1.1),λ d r=>((r,()),())⟩ λ aN aO=>by
 obtain⟨⟨(a:List UInt8),(v1:Bool),(b:List ad.Kind),(c:Int),(e:List UInt8),(f:Int),(g:Int),(h:List UInt8),(i:List ad.Handler),_⟩,_⟩:=aN;conv=>rhs;simp only[uL,b8,LM,EV,aiM]
 kernel_rfl
def Di(F:Nat)(k:Nat)(c_:ad.ap)(a:Int)(b:Int)(ch:List ad.Field):=dK ((c_.Fields.length:Int)=b/\(c_.Fields:List ad.Field)=ch/\True) (bF (qg F c_ k a))
theorem ET(F:Nat)(k:Nat)(c_:ad.ap)(a:Int):bF (qg F c_ k a)=Di F k c_ a (c_.Fields.length:Int) c_.Fields:=(ek ⟨rfl,rfl,trivial⟩).symm
theorem aiK(F:Nat)(k:Nat)(c_:ad.ap)(a:Int):bF (uJ F c_ k a)=Di F k c_ a (c_.Fields.length:Int) c_.Fields:=(show bF (uJ F c_ k a)=bF (qg F c_ k a) by kernel_rfl).trans (ET F k c_ a)
def Yv(F:Nat):bs bd:=(Yn F).dL 43 1 F ⟨[1,36,37,38],[.p (.B 0),.p (.l 94),l7,l7],[mR],
 [⟨⟨.nm,[1],[.p (.B 0)],[mR]⟩,Unit,λ d r=>(((),()),(d.2.1,()))⟩,
  ⟨⟨.rt,[2],[l7],[.d]⟩,Int,λ d r=>((r,()),((),()))⟩],
 λ k d=>Di F k (⟨d.2.1.1,d.2.1.2.1,d.1.2.1,d.2.1.2.2.2.1⟩:ad.ap) d.1.2.2.2.1 d.1.2.2.1 d.2.1.2.2.1⟩ (c0.dT (λ d=>ej) λ k aN aO q h=>by
 obtain⟨_,(a:List ad.Field),(v1:Int),(b:Int),_⟩:=aN
 obtain⟨⟨(c:List UInt8),(e:List UInt8),(i:List ad.Field),(f:List ad.Method),_⟩,_⟩:=aO
 obtain⟨g,_⟩:=en h
 dsimp only at g
 obtain⟨rfl,rfl,_⟩:=g
 conv=>rhs;change fe (α:=Unit⊕Int) _ (Di F (k+1) (⟨c,e,a,f⟩:ad.ap) b (a.length:Int) (a));rw[<-ET F (k+1) (⟨c,e,a,f⟩:ad.ap) b];simp only[qg,b8,ET];simp only[dB]
 kernel_rfl)
def Dj(F:Nat)(k:Nat)(c_:ad.ap)(a:Int)(b:Int):=dK ((c_.a1.length:Int)=b/\True) (bF (nB F c_ k a))
theorem EU(F:Nat)(k:Nat)(c_:ad.ap)(a:Int):bF (nB F c_ k a)=Dj F k (⟨[],[],[],c_.a1⟩:ad.ap) a (c_.a1.length:Int):=(show bF (nB F c_ k a)=bF (nB F (⟨[],[],[],c_.a1⟩:ad.ap) k a) by kernel_rfl).trans (ek ⟨rfl,trivial⟩).symm
theorem aiL(F:Nat)(k:Nat)(c_:ad.ap)(a:Int):bF (uK F c_ k a)=Dj F k (⟨[],[],[],c_.a1⟩:ad.ap) a (c_.a1.length:Int):=(show bF (uK F c_ k a)=bF (nB F c_ k a) by kernel_rfl).trans (EU F k c_ a)
def Xa(F:Nat):bs bd:=(Yv F).dL 43 4 F ⟨[54,55,56],[.p (.l 43),l7,l7],[],
 [⟨⟨.nm,[],[],[]⟩,Unit,λ d r=>((),())⟩,
  ⟨⟨.rt,[2],[l7],[]⟩,Int,λ d r=>((r,()),())⟩],
 λ k d=>Dj F k (⟨[],[],[],d.1.1⟩:ad.ap) d.1.2.2.1 d.1.2.1⟩ (c0.dT (λ d=>ej) λ k aN aO q h=>by
 obtain⟨(a:List ad.Method),(v1:Int),(b:Int),_⟩:=aN
 obtain⟨c,_⟩:=en h
 dsimp only at c
 obtain⟨rfl,_⟩:=c
 conv=>rhs;change fe (α:=Unit⊕Int) _ (Dj F (k+1) (⟨[],[],[],a⟩:ad.ap) b (a.length:Int));rw[<-EU F (k+1) (⟨[],[],[],a⟩:ad.ap) b];simp only[nB,b8,EU];simp only[dB]
 kernel_rfl)
def Xb(F:Nat):bs bd:=(Xa F).rt 43 ⟨[.a [.s,.s,.l 94,.l 43]],[],[l7],[],Int,λ d=>Ad F (M0 d.1.1),λ d r=>((r,()),())⟩ λ aN aO=>by
 obtain⟨⟨(a:List UInt8),(v1:List UInt8),(b:List ad.Field),(c:List ad.Method),_⟩,_⟩:=aN;conv=>rhs;simp only[Ad,b8,ET,aiK,EU,aiL]
 kernel_rfl
def H9(F:Nat)(k:Nat)(a:List ad.ap)(b:Int)(c:Int):=dK ((a.length:Int)=c/\True) (bF (sa F a k b))
theorem LK(F:Nat)(k:Nat)(a:List ad.ap)(b:Int):bF (sa F a k b)=H9 F k a b (a.length:Int):=(ek ⟨rfl,trivial⟩).symm
def Xc(F:Nat):bs bd:=(Xb F).dL 20 0 F ⟨[9,10,11],[.p (.l 37),l7,l7],[],
 [⟨⟨.nm,[],[],[]⟩,Unit,λ d r=>((),())⟩,
  ⟨⟨.rt,[2],[l7],[]⟩,Int,λ d r=>((r,()),())⟩],
 λ k d=>H9 F k d.1.1 d.1.2.2.1 d.1.2.1⟩ (c0.dT (λ d=>ej) λ k aN aO q h=>by
 obtain⟨(a:List ad.ap),(v1:Int),(b:Int),_⟩:=aN
 obtain⟨c,_⟩:=en h
 dsimp only at c
 obtain⟨rfl,_⟩:=c
 conv=>rhs;change fe (α:=Unit⊕Int) _ (H9 F (k+1) a b (a.length:Int));rw[<-LK F (k+1) a b];simp only[sa,b8,LK];simp only[dB]
 kernel_rfl)
def Xd(F:Nat):bs bd:=(Xc F).rt 20 ⟨[.p (.l 37)],[],[l7],[],Int,λ d=>Ac F d.1.1,λ d r=>((r,()),())⟩ λ aN aO=>by
 obtain⟨(a:List ad.ap),_⟩:=aN;conv=>rhs;simp only[Ac,b8,LK]
 kernel_rfl
def Xf(F:Nat):bs bd:=(Xd F).dL 21 2 F ⟨[3,5,8,9,10,23,24,25],[.p (.R 0),.p (.B 1),.p (.l 37),l7,l7,.p (.R 3),l7,l7],[.r 37 false,T5,.r 94 true,.r 43 true],
 [⟨⟨.nm,[3,5,8,9,10],[.p (.R 0),.p (.B 1),.p (.l 37),l7,l7],[.r 37 false,T5,.r 94 true,.r 43 true]⟩,List ad.Method,λ d r=>(((),(),d.1.2.2.1,d.1.2.2.2.1,d.1.2.2.2.2.1,()),(d.2.1,(d.2.2.1.1,d.2.2.1.2.1,(),(),()),d.2.2.2.1,r,()))⟩],
 λ k d=>oX k d.2.2.2.2.1 d.1.2.2.2.2.2.2.1 d.1.2.2.2.2.2.2.2.1⟩ (c0.dT (λ d=>rfl) λ k aN aO q h=>by
 obtain⟨_,_,(a:List ad.ap),(v1:Int),(b:Int),_,(c:Int),(e:Int),_⟩:=aN
 obtain⟨(f:List ad.ap),⟨(g:List UInt8),(i:List UInt8),_,_,_⟩,(j:List ad.Field),(l:List ad.Method),_⟩:=aO
 conv=>rhs;simp only[oX,b8,MP,MQ];simp only[dB]
 kernel_rfl)
def Ix(F:Nat)(k:Nat)(a:List ad.ap)(b:List ad.ap)(c:Int)(d:Int):=dK ((a.length:Int)=d/\True) (nM F a k b c)
theorem L7(F:Nat)(k:Nat)(a:List ad.ap)(b:List ad.ap)(c:Int):nM F a k b c=Ix F k a b c (a.length:Int):=(ek ⟨rfl,trivial⟩).symm
def Xg(F:Nat):bs bd:=(Xf F).dL 21 0 F ⟨[3,8,9,10],[.p (.R 0),.p (.l 37),l7,l7],[.r 37 false],
 [⟨⟨.nm,[3],[.p (.R 0)],[.r 37 false]⟩,List ad.ap,λ d r=>(((),()),(r,()))⟩],
 λ k d=>Ix F k d.1.2.1 d.2.1 d.1.2.2.2.1 d.1.2.2.1⟩ (c0.dT (λ d=>ej) λ k aN aO q h=>by
 obtain⟨_,(a:List ad.ap),(v1:Int),(b:Int),_⟩:=aN
 obtain⟨(c:List ad.ap),_⟩:=aO
 obtain⟨e,_⟩:=en h
 dsimp only at e
 obtain⟨rfl,_⟩:=e
 conv=>rhs;change fe (α:=List ad.ap) _ (Ix F (k+1) a c b (a.length:Int));rw[<-L7 F (k+1) a c b];simp only[nM,b8,L7,MO,MR];simp only[dB]
 kernel_rfl)
def Xh(F:Nat):bs bd:=(Xg F).rt 21 ⟨[.p (.l 37)],[],[.p (.l 37)],[],List ad.ap,λ d=>Av F d.1.1,λ d r=>((r,()),())⟩ λ aN aO=>by
 obtain⟨(a:List ad.ap),_⟩:=aN;conv=>rhs;simp only[Av,b8,L7]
 kernel_rfl
def Il(k:Nat)(a:ad.a4)(b:List ((List UInt8)×Int))(c:Int)(d:Int)(aL:List ad.ap):=dK ((a.l.length:Int)=d/\(a.l:List ad.ap)=aL/\True) (bF (lJ a k b c))
theorem LX(k:Nat)(a:ad.a4)(b:List ((List UInt8)×Int))(c:Int):bF (lJ a k b c)=Il k (⟨a.l,[],a.cL⟩:ad.a4) b c (a.l.length:Int) a.l:=(show bF (lJ a k b c)=bF (lJ (⟨a.l,[],a.cL⟩:ad.a4) k b c) by kernel_rfl).trans (ek ⟨rfl,rfl,trivial⟩).symm
def Xi(F:Nat):bs bd:=(Xh F).dL 22 0 F ⟨[0,14,15,16],[.p (.B 0),.p (.l 37),l7,l7],[iE,.m 9 3,.r 3 true],
 [⟨⟨.nm,[0],[.p (.B 0)],[iE,.m 9 3,.r 3 true]⟩,List ((List UInt8)×Int),λ d r=>(((),()),((d.2.1.1,(),(),()),r,d.2.2.2.1,()))⟩,
  ⟨⟨.rt,[2],[l7],[iE,.m 9 3,.r 3 true]⟩,Int×ad.a4,λ d r=>((r.1,()),((d.2.1.1,(),(),()),r.2.bC,d.2.2.2.1,()))⟩],
 λ k d=>Il k (⟨d.1.2.1,[],d.2.2.2.1⟩:ad.a4) d.2.2.1 d.1.2.2.2.1 d.1.2.2.1 d.2.1.1⟩ (c0.dT (λ d=>ej) λ k aN aO q h=>by
 obtain⟨_,(a:List ad.ap),(v1:Int),(b:Int),_⟩:=aN
 obtain⟨⟨(g:List ad.ap),_,_,_⟩,(c:List ((List UInt8)×Int)),(e:List Int),_⟩:=aO
 obtain⟨f,_⟩:=en h
 dsimp only at f
 obtain⟨rfl,rfl,_⟩:=f
 conv=>rhs;change fe (α:=(List ((List UInt8)×Int))⊕(Int×ad.a4)) _ (Il (k+1) (⟨a,[],e⟩:ad.a4) c b (a.length:Int) (a));rw[<-LX (k+1) (⟨a,[],e⟩:ad.a4) c b];simp only[lJ,b8,LX];simp only[dB]
 kernel_rfl)
def Xj(F:Nat):bs bd:=(Xi F).rt 22 ⟨[.p (.B 0)],[iE,.m 9 3,.r 3 true],[l7],[iE,.m 9 3,.r 3 true],Int×ad.a4,λ d=>xb F (⟨d.2.1.1,d.2.2.1,d.2.2.2.1⟩:ad.a4),λ d r=>((r.1,()),((d.2.1.1,(),(),()),r.2.bC,d.2.2.2.1,()))⟩ λ aN aO=>by
 obtain⟨_,_⟩:=aN;obtain⟨⟨(a:List ad.ap),_,_,_⟩,(v1:List ((List UInt8)×Int)),(b:List Int),_⟩:=aO;conv=>rhs;simp only[xb,b8,LX]
 kernel_rfl
def Ib(k:Nat)(a:ad.a4)(b:Int)(c:Int)(aL:List ad.ap):=dK ((a.l.length:Int)=c/\(a.l:List ad.ap)=aL/\True) (bF (qF a k b))
theorem LO(k:Nat)(a:ad.a4)(b:Int):bF (qF a k b)=Ib k a b (a.l.length:Int) a.l:=(ek ⟨rfl,rfl,trivial⟩).symm
def Xk(F:Nat):bs bd:=(Xj F).dL 23 0 F ⟨[0,14,15,16],[.p (.B 0),.p (.l 37),l7,l7],[iE,.m 9 3,.r 3 true],
 [⟨⟨.nm,[0],[.p (.B 0)],[iE,.m 9 3,.r 3 true]⟩,Unit,λ d r=>(((),()),((d.2.1.1,(),(),()),d.2.2.1,d.2.2.2.1,()))⟩,
  ⟨⟨.rt,[2],[l7],[iE,.m 9 3,.r 3 true]⟩,Int×ad.a4,λ d r=>((r.1,()),((d.2.1.1,(),(),()),d.2.2.1,r.2.cL,()))⟩],
 λ k d=>Ib k (⟨d.1.2.1,d.2.2.1,d.2.2.2.1⟩:ad.a4) d.1.2.2.2.1 d.1.2.2.1 d.2.1.1⟩ (c0.dT (λ d=>ej) λ k aN aO q h=>by
 obtain⟨_,(a:List ad.ap),(v1:Int),(b:Int),_⟩:=aN
 obtain⟨⟨(g:List ad.ap),_,_,_⟩,(c:List ((List UInt8)×Int)),(e:List Int),_⟩:=aO
 obtain⟨f,_⟩:=en h
 dsimp only at f
 obtain⟨rfl,rfl,_⟩:=f
 conv=>rhs;change fe (α:=Unit⊕(Int×ad.a4)) _ (Ib (k+1) (⟨a,c,e⟩:ad.a4) b (a.length:Int) (a));rw[<-LO (k+1) (⟨a,c,e⟩:ad.a4) b];simp only[qF,b8,LO];simp only[dB]
 kernel_rfl)
def Ic(k:Nat)(a:ad.a4)(b:List Int)(c:Int)(d:Int)(aL:List ad.ap):=dK ((a.l.length:Int)=d/\(a.l:List ad.ap)=aL/\True) (bF (kd a k b c))
theorem LP(k:Nat)(a:ad.a4)(b:List Int)(c:Int):bF (kd a k b c)=Ic k (⟨a.l,a.bC,[]⟩:ad.a4) b c (a.l.length:Int) a.l:=(show bF (kd a k b c)=bF (kd (⟨a.l,a.bC,[]⟩:ad.a4) k b c) by kernel_rfl).trans (ek ⟨rfl,rfl,trivial⟩).symm
def Xm(F:Nat):bs bd:=(Xk F).dL 23 2 F ⟨[0,31,32,33],[.p (.B 0),.p (.l 37),l7,l7],[iE,.m 9 3,.r 3 false],
 [⟨⟨.nm,[0],[.p (.B 0)],[iE,.m 9 3,.r 3 false]⟩,List Int,λ d r=>(((),()),((d.2.1.1,(),(),()),d.2.2.1,r,()))⟩,
  ⟨⟨.rt,[2],[l7],[iE,.m 9 3,.r 3 false]⟩,Int×ad.a4,λ d r=>((r.1,()),((d.2.1.1,(),(),()),d.2.2.1,r.2.cL,()))⟩],
 λ k d=>Ic k (⟨d.1.2.1,d.2.2.1,[]⟩:ad.a4) d.2.2.2.1 d.1.2.2.2.1 d.1.2.2.1 d.2.1.1⟩ (c0.dT (λ d=>ej) λ k aN aO q h=>by
 obtain⟨_,(a:List ad.ap),(v1:Int),(b:Int),_⟩:=aN
 obtain⟨⟨(g:List ad.ap),_,_,_⟩,(c:List ((List UInt8)×Int)),(e:List Int),_⟩:=aO
 obtain⟨f,_⟩:=en h
 dsimp only at f
 obtain⟨rfl,rfl,_⟩:=f
 conv=>rhs;change fe (α:=(List Int)⊕(Int×ad.a4)) _ (Ic (k+1) (⟨a,c,[]⟩:ad.a4) e b (a.length:Int) (a));rw[<-LP (k+1) (⟨a,c,[]⟩:ad.a4) e b];simp only[kd,b8,LP];simp only[dB]
 kernel_rfl)
def Ig(k:Nat)(a:ad.a4)(b:List Int)(c:Int)(d:Int)(e:Int)(aL:Int):=dK ((a.l.length:Int)=e/\(a.l.length:Int)=aL/\True) (oV a b k c d)
theorem LR(k:Nat)(a:ad.a4)(b:List Int)(c:Int)(d:Int):oV a b k c d=Ig k (⟨a.l,a.bC,[]⟩:ad.a4) b c d (a.l.length:Int) (a.l.length:Int):=(show oV a b k c d=oV (⟨a.l,a.bC,[]⟩:ad.a4) b k c d by kernel_rfl).trans (ek ⟨rfl,rfl,trivial⟩).symm
def Xn(F:Nat):bs bd:=(Xm F).dL 23 7 F ⟨[0,10,69,70,78,79],[.p (.B 0),l7,l7,l7,l7,l7],[iE,.m 9 3,.r 3 true],
 [⟨⟨.nm,[0,10,69,70],[.p (.B 0),l7,l7,l7],[iE,.m 9 3,.r 3 true]⟩,Int,λ d r=>(((),r,d.1.2.2.1,d.1.2.2.2.1,()),((d.2.1.1,(),(),()),d.2.2.1,d.2.2.2.1,()))⟩],
 λ k d=>Ig k (⟨d.2.1.1,d.2.2.1,[]⟩:ad.a4) d.2.2.2.1 d.1.2.1 d.1.2.2.2.2.2.1 d.1.2.2.1 d.1.2.2.2.2.1⟩ (c0.dT (λ d=>ej) λ k aN aO q h=>by
 obtain⟨_,(b:Int),(v1:Int),(i:Int),(j:Int),(c:Int),_⟩:=aN
 obtain⟨⟨(a:List ad.ap),_,_,_⟩,(e:List ((List UInt8)×Int)),(f:List Int),_⟩:=aO
 obtain⟨g,_⟩:=en h
 dsimp only at g
 obtain⟨rfl,rfl,_⟩:=g
 conv=>rhs;change fe (α:=Int) _ (Ig (k+1) (⟨a,e,[]⟩:ad.a4) f b c (a.length:Int) (a.length:Int));rw[<-LR (k+1) (⟨a,e,[]⟩:ad.a4) f b c];simp only[oV,b8,LR];simp only[dB]
 kernel_rfl)
def If(F:Nat)(k:Nat)(a:ad.a4)(b:List Int)(c:Int)(d:Int):=dK ((a.l.length:Int)=d/\True) (bF (nF F a b k c))
theorem LQ(F:Nat)(k:Nat)(a:ad.a4)(b:List Int)(c:Int):bF (nF F a b k c)=If F k (⟨a.l,a.bC,[]⟩:ad.a4) b c (a.l.length:Int):=(show bF (nF F a b k c)=bF (nF F (⟨a.l,a.bC,[]⟩:ad.a4) b k c) by kernel_rfl).trans (ek ⟨rfl,trivial⟩).symm
def Xo(F:Nat):bs bd:=(Xn F).dL 23 5 F ⟨[0,69,70],[.p (.B 0),l7,l7],[iE,.m 9 3,.r 3 true],
 [⟨⟨.nm,[],[],[iE,.m 9 3,.r 3 true]⟩,Unit,λ d r=>((),((d.2.1.1,(),(),()),d.2.2.1,d.2.2.2.1,()))⟩,
  ⟨⟨.rt,[2],[l7],[iE,.m 9 3,.r 3 true]⟩,Int×ad.a4,λ d r=>((r.1,()),((d.2.1.1,(),(),()),d.2.2.1,r.2.cL,()))⟩],
 λ k d=>If F k (⟨d.2.1.1,d.2.2.1,[]⟩:ad.a4) d.2.2.2.1 d.1.2.2.1 d.1.2.1⟩ (c0.dT (λ d=>ej) λ k aN aO q h=>by
 obtain⟨_,(f:Int),(v1:Int),_⟩:=aN
 obtain⟨⟨(a:List ad.ap),_,_,_⟩,(b:List ((List UInt8)×Int)),(c:List Int),_⟩:=aO
 obtain⟨e,_⟩:=en h
 dsimp only at e
 obtain⟨rfl,_⟩:=e
 conv=>rhs;change fe (α:=Unit⊕(Int×ad.a4)) _ (If F (k+1) (⟨a,b,[]⟩:ad.a4) c v1 (a.length:Int));rw[<-LQ F (k+1) (⟨a,b,[]⟩:ad.a4) c v1];simp only[nF,b8,LR,LQ];simp only[dB]
 kernel_rfl)
def Xp(F:Nat):bs bd:=(Xo F).rt 23 ⟨[.p (.B 0)],[iE,.m 9 3,.r 3 false],[l7],[iE,.m 9 3,.r 3 false],Int×ad.a4,λ d=>D4 F (⟨d.2.1.1,d.2.2.1,d.2.2.2.1⟩:ad.a4),λ d r=>((r.1,()),((d.2.1.1,(),(),()),d.2.2.1,r.2.cL,()))⟩ λ aN aO=>by
 obtain⟨_,_⟩:=aN;obtain⟨⟨(a:List ad.ap),_,_,_⟩,(v1:List ((List UInt8)×Int)),(b:List Int),_⟩:=aO;conv=>rhs;simp only[D4,b8,LO,LP,LQ]
 kernel_rfl
def Xq(F:Nat):bs bd:=(Xp F).rt 24 ⟨[.p (.B 0)],[dD,.m 9 3],[l7],[dD,.m 9 3],Int,λ d=>D5 F (⟨d.2.1.1,d.2.2.1,d.2.1.2.2.1⟩:ad.a4),λ d r=>((r,()),((d.2.1.1,(),d.2.1.2.2.1,()),d.2.2.1,()))⟩ λ aN aO=>by
 conv=>rhs;simp only[D5,b8]
 kernel_rfl
def Xr(F:Nat):bs bd:=(Xq F).rt 48 ⟨[.a [mw,.s],.p (.B 0)],[.c 77 [.R 1],.r 9 false],[],[.c 77 [.R 1],.r 9 false],List (List UInt8),λ d=>u4 (Fl d.1.1) d.2.2.1,λ d r=>((),(((),()),r,()))⟩ λ aN aO=>by
 conv=>rhs;simp only[u4,b8]
 kernel_rfl
def Ir(k:Nat)(a:ad.ap)(b:List (List UInt8))(c:Int)(bB:Int)(d:List ad.Field):=dK ((a.Fields.length:Int)=bB/\(a.Fields:List ad.Field)=d/\True) (qI a k b c)
theorem L2(k:Nat)(a:ad.ap)(b:List (List UInt8))(c:Int):qI a k b c=Ir k a b c (a.Fields.length:Int) a.Fields:=(ek ⟨rfl,rfl,trivial⟩).symm
def Xs(F:Nat):bs bd:=(Xr F).dL 25 2 F ⟨[0,3,4,6,23,24,25,30,31,32],[.p (.B 0),.p (.B 2),.f 48 [.B 2],.p (.B 4),.p (.l 37),l7,l7,.p (.l 94),l7,l7],[dD,.m 9 3,.c 77 [.R 3],.r 9 false,mR],
 [⟨⟨.nm,[0,3,4,6,23,24,25],[.p (.B 0),.p (.B 2),.f 48 [.B 2],.p (.B 4),.p (.l 37),l7,l7],[dD,.m 9 3,.c 77 [.R 3],.r 9 false,mR]⟩,List (List UInt8),λ d r=>(((),(),((),()),(),d.1.2.2.2.2.1,d.1.2.2.2.2.2.1,d.1.2.2.2.2.2.2.1,()),((d.2.1.1,(),d.2.1.2.2.1,()),d.2.2.1,((),()),r,d.2.2.2.2.2.1,()))⟩],
 λ k d=>Ir k (⟨d.2.2.2.2.2.1.1,d.2.2.2.2.2.1.2.1,d.1.2.2.2.2.2.2.2.1,d.2.2.2.2.2.1.2.2.2.1⟩:ad.ap) d.2.2.2.2.1 d.1.2.2.2.2.2.2.2.2.2.1 d.1.2.2.2.2.2.2.2.2.1 d.2.2.2.2.2.1.2.2.1⟩ (c0.dT (λ d=>ej) λ k aN aO q h=>by
 obtain⟨_,_,⟨_,_⟩,_,(j:List ad.ap),(v1:Int),(l:Int),(c:List ad.Field),(m:Int),(e:Int),_⟩:=aN
 obtain⟨⟨(n:List ad.ap),_,(o:List Int),_⟩,(p:List ((List UInt8)×Int)),⟨_,_⟩,(f:List (List UInt8)),⟨(a:List UInt8),(b:List UInt8),(s:List ad.Field),(g:List ad.Method),_⟩,_⟩:=aO
 obtain⟨i,_⟩:=en h
 dsimp only at i
 obtain⟨rfl,rfl,_⟩:=i
 conv=>rhs;change fe (α:=List (List UInt8)) _ (Ir (k+1) (⟨a,b,c,g⟩:ad.ap) f e (c.length:Int) (c));rw[<-L2 (k+1) (⟨a,b,c,g⟩:ad.ap) f e];simp only[qI,b8,L2];simp only[dB]
 kernel_rfl)
def Iu(k:Nat)(a:ad.Method)(b:List (List UInt8))(c:Int)(d:Int)(e:List ad.Kind):=dK ((a.b9.length:Int)=d/\(a.b9:List ad.Kind)=e/\True) (qJ a k b c)
theorem L4(k:Nat)(a:ad.Method)(b:List (List UInt8))(c:Int):qJ a k b c=Iu k a b c (a.b9.length:Int) a.b9:=(ek ⟨rfl,rfl,trivial⟩).symm
def Xt(F:Nat):bs bd:=(Xs F).dL 25 6 F ⟨[0,3,4,10,23,24,25,42,43,44,49,50,51],[.p (.B 0),.p (.B 2),.f 48 [.B 2],.p (.B 4),.p (.l 37),l7,l7,.p (.l 43),l7,l7,.p (.l 40),l7,l7],[dD,.m 9 3,.c 77 [.R 3],.r 9 false,xu],
 [⟨⟨.nm,[0,3,4,10,23,24,25,42,43,44],[.p (.B 0),.p (.B 2),.f 48 [.B 2],.p (.B 4),.p (.l 37),l7,l7,.p (.l 43),l7,l7],[dD,.m 9 3,.c 77 [.R 3],.r 9 false,xu]⟩,List (List UInt8),λ d r=>(((),(),((),()),(),d.1.2.2.2.2.1,d.1.2.2.2.2.2.1,d.1.2.2.2.2.2.2.1,d.1.2.2.2.2.2.2.2.1,d.1.2.2.2.2.2.2.2.2.1,d.1.2.2.2.2.2.2.2.2.2.1,()),((d.2.1.1,(),d.2.1.2.2.1,()),d.2.2.1,((),()),r,d.2.2.2.2.2.1,()))⟩],
 λ k d=>Iu k (⟨d.2.2.2.2.2.1.1,d.2.2.2.2.2.1.2.1,d.1.2.2.2.2.2.2.2.2.2.2.1,(Fl d.2.2.2.2.2.1.2.2.2),d.2.2.2.2.2.1.2.2.2.2.2.1,d.2.2.2.2.2.1.2.2.2.2.2.2.1,d.2.2.2.2.2.1.2.2.2.2.2.2.2.1,d.2.2.2.2.2.1.2.2.2.2.2.2.2.2.1⟩:ad.Method) d.2.2.2.2.1 d.1.2.2.2.2.2.2.2.2.2.2.2.2.1 d.1.2.2.2.2.2.2.2.2.2.2.2.1 d.2.2.2.2.2.1.2.2.1⟩ (c0.dT (λ d=>ej) λ k aN aO q h=>by
 obtain⟨_,_,⟨_,_⟩,_,(t:List ad.ap),(v1:Int),(u:Int),(v:List ad.Method),(w:Int),(x:Int),(b:List ad.Kind),(y:Int),(c:Int),_⟩:=aN
 obtain⟨⟨(z:List ad.ap),_,(p:List Int),_⟩,(s:List ((List UInt8)×Int)),⟨_,_⟩,(e:List (List UInt8)),⟨(f:List UInt8),(g:Bool),(A:List ad.Kind),(i:Int),(j:List UInt8),(l:Int),(m:Int),(a:List UInt8),(n:List ad.Handler),_⟩,_⟩:=aO
 obtain⟨o,_⟩:=en h
 dsimp only at o
 obtain⟨rfl,rfl,_⟩:=o
 conv=>rhs;change fe (α:=List (List UInt8)) _ (Iu (k+1) (⟨f,g,b,(⟨i,j⟩:ad.Kind),l,m,a,n⟩:ad.Method) e c (b.length:Int) (b));rw[<-L4 (k+1) (⟨f,g,b,(⟨i,j⟩:ad.Kind),l,m,a,n⟩:ad.Method) e c];simp only[qJ,b8,L4];simp only[dB]
 kernel_rfl)
def Iv(k:Nat)(a:ad.Method)(qv:List (List UInt8))(b:Int)(c:Int):=dK ((a.cj.length:Int)=c/\True) (nL a k qv b)
theorem L5(k:Nat)(a:ad.Method)(qv:List (List UInt8))(b:Int):nL a k qv b=Iv k (⟨[],false,[],(⟨0,[]⟩:ad.Kind),0,0,[],a.cj⟩:ad.Method) qv b (a.cj.length:Int):=(show nL a k qv b=nL (⟨[],false,[],(⟨0,[]⟩:ad.Kind),0,0,[],a.cj⟩:ad.Method) k qv b by kernel_rfl).trans (ek ⟨rfl,trivial⟩).symm
def Xu(F:Nat):bs bd:=(Xt F).dL 25 8 F ⟨[0,3,4,23,24,25,42,43,44,64,65,66],[.p (.B 0),.p (.B 2),.f 48 [.B 2],.p (.l 37),l7,l7,.p (.l 43),l7,l7,.p (.l 107),l7,l7],[dD,.m 9 3,.c 77 [.R 3],.r 9 false],
 [⟨⟨.nm,[0,3,4,23,24,25,42,43,44],[.p (.B 0),.p (.B 2),.f 48 [.B 2],.p (.l 37),l7,l7,.p (.l 43),l7,l7],[dD,.m 9 3,.c 77 [.R 3],.r 9 false]⟩,List (List UInt8),λ d r=>(((),(),((),()),d.1.2.2.2.1,d.1.2.2.2.2.1,d.1.2.2.2.2.2.1,d.1.2.2.2.2.2.2.1,d.1.2.2.2.2.2.2.2.1,d.1.2.2.2.2.2.2.2.2.1,()),((d.2.1.1,(),d.2.1.2.2.1,()),d.2.2.1,((),()),r,()))⟩],
 λ k d=>Iv k (⟨[],false,[],(⟨0,[]⟩:ad.Kind),0,0,[],d.1.2.2.2.2.2.2.2.2.2.1⟩:ad.Method) d.2.2.2.2.1 d.1.2.2.2.2.2.2.2.2.2.2.2.1 d.1.2.2.2.2.2.2.2.2.2.2.1⟩ (c0.dT (λ d=>ej) λ k aN aO q h=>by
 obtain⟨_,_,⟨_,_⟩,(i:List ad.ap),(v1:Int),(j:Int),(l:List ad.Method),(m:Int),(n:Int),(a:List ad.Handler),(o:Int),(b:Int),_⟩:=aN
 obtain⟨⟨(p:List ad.ap),_,(f:List Int),_⟩,(g:List ((List UInt8)×Int)),⟨_,_⟩,(c:List (List UInt8)),_⟩:=aO
 obtain⟨e,_⟩:=en h
 dsimp only at e
 obtain⟨rfl,_⟩:=e
 conv=>rhs;change fe (α:=List (List UInt8)) _ (Iv (k+1) (⟨[],false,[],(⟨0,[]⟩:ad.Kind),0,0,[],a⟩:ad.Method) c b (a.length:Int));rw[<-L5 (k+1) (⟨[],false,[],(⟨0,[]⟩:ad.Kind),0,0,[],a⟩:ad.Method) c b];simp only[nL,b8,L5];simp only[dB]
 kernel_rfl)
def Is(F:Nat)(k:Nat)(a:ad.ap)(b:List (List UInt8))(c:Int)(bB:Int):=dK ((a.a1.length:Int)=bB/\True) (nK F a k b c)
theorem L3(F:Nat)(k:Nat)(a:ad.ap)(b:List (List UInt8))(c:Int):nK F a k b c=Is F k (⟨[],[],[],a.a1⟩:ad.ap) b c (a.a1.length:Int):=(show nK F a k b c=nK F (⟨[],[],[],a.a1⟩:ad.ap) k b c by kernel_rfl).trans (ek ⟨rfl,trivial⟩).symm
def Xv(F:Nat):bs bd:=(Xu F).dL 25 4 F ⟨[0,3,4,23,24,25,42,43,44],[.p (.B 0),.p (.B 2),.f 48 [.B 2],.p (.l 37),l7,l7,.p (.l 43),l7,l7],[dD,.m 9 3,.c 77 [.R 3],.r 9 false],
 [⟨⟨.nm,[0,3,4,23,24,25],[.p (.B 0),.p (.B 2),.f 48 [.B 2],.p (.l 37),l7,l7],[dD,.m 9 3,.c 77 [.R 3],.r 9 false]⟩,List (List UInt8),λ d r=>(((),(),((),()),d.1.2.2.2.1,d.1.2.2.2.2.1,d.1.2.2.2.2.2.1,()),((d.2.1.1,(),d.2.1.2.2.1,()),d.2.2.1,((),()),r,()))⟩],
 λ k d=>Is F k (⟨[],[],[],d.1.2.2.2.2.2.2.1⟩:ad.ap) d.2.2.2.2.1 d.1.2.2.2.2.2.2.2.2.1 d.1.2.2.2.2.2.2.2.1⟩ (c0.dT (λ d=>ej) λ k aN aO q h=>by
 obtain⟨_,_,⟨_,_⟩,(f:List ad.ap),(v1:Int),(g:Int),(a:List ad.Method),(i:Int),(b:Int),_⟩:=aN
 obtain⟨⟨(j:List ad.ap),_,(l:List Int),_⟩,(m:List ((List UInt8)×Int)),⟨_,_⟩,(c:List (List UInt8)),_⟩:=aO
 obtain⟨e,_⟩:=en h
 dsimp only at e
 obtain⟨rfl,_⟩:=e
 conv=>rhs;change fe (α:=List (List UInt8)) _ (Is F (k+1) (⟨[],[],[],a⟩:ad.ap) c b (a.length:Int));rw[<-L3 F (k+1) (⟨[],[],[],a⟩:ad.ap) c b];simp only[nK,b8,L4,L5,L3];simp only[dB]
 kernel_rfl)
def Iq(F:Nat)(k:Nat)(a:ad.a4)(b:List (List UInt8))(c:Int)(d:Int)(aL:List ad.ap):=dK ((a.l.length:Int)=d/\(a.l:List ad.ap)=aL/\True) (qH F a k b c)
theorem L1(F:Nat)(k:Nat)(a:ad.a4)(b:List (List UInt8))(c:Int):qH F a k b c=Iq F k a b c (a.l.length:Int) a.l:=(ek ⟨rfl,rfl,trivial⟩).symm
def Xx(F:Nat):bs bd:=(Xv F).dL 25 0 F ⟨[0,3,4,23,24,25],[.p (.B 0),.p (.B 2),.f 48 [.B 2],.p (.l 37),l7,l7],[dD,.m 9 3,.c 77 [.R 3],.r 9 false],
 [⟨⟨.nm,[0,3],[.p (.B 0),.p (.B 2)],[dD,.m 9 3,.c 77 [.R 3],.r 9 false]⟩,List (List UInt8),λ d r=>(((),(),()),((d.2.1.1,(),d.2.1.2.2.1,()),d.2.2.1,((),()),r,()))⟩],
 λ k d=>Iq F k (⟨d.1.2.2.2.1,d.2.2.1,d.2.1.2.2.1⟩:ad.a4) d.2.2.2.2.1 d.1.2.2.2.2.2.1 d.1.2.2.2.2.1 d.2.1.1⟩ (c0.dT (λ d=>ej) λ k aN aO q h=>by
 obtain⟨_,_,⟨_,_⟩,(a:List ad.ap),(v1:Int),(b:Int),_⟩:=aN
 obtain⟨⟨(i:List ad.ap),_,(c:List Int),_⟩,(e:List ((List UInt8)×Int)),⟨_,_⟩,(f:List (List UInt8)),_⟩:=aO
 obtain⟨g,_⟩:=en h
 dsimp only at g
 obtain⟨rfl,rfl,_⟩:=g
 conv=>rhs;change fe (α:=List (List UInt8)) _ (Iq F (k+1) (⟨a,e,c⟩:ad.a4) f b (a.length:Int) (a));rw[<-L1 F (k+1) (⟨a,e,c⟩:ad.a4) f b];simp only[qH,b8,L2,L3,L1];simp only[dB]
 kernel_rfl)
def Iw(k:Nat)(b:ad.a4)(a:List (List UInt8))(c:Int)(d:Int):=dK ((a.length:Int)=d/\True) (bF (sw b a k c))
theorem L6(k:Nat)(b:ad.a4)(a:List (List UInt8))(c:Int):bF (sw b a k c)=Iw k b a c (a.length:Int):=(ek ⟨rfl,trivial⟩).symm
def Xy(F:Nat):bs bd:=(Xx F).dL 25 10 F ⟨[0,78,79,80],[.p (.B 0),.p (.R 2),l7,l7],[dD,.m 9 3,.r 9 true],
 [⟨⟨.nm,[],[],[dD,.m 9 3,.d]⟩,Unit,λ d r=>((),((d.2.1.1,(),d.2.1.2.2.1,()),d.2.2.1,(),()))⟩,
  ⟨⟨.rt,[2],[l7],[dD,.m 9 3,.d]⟩,Int,λ d r=>((r,()),((d.2.1.1,(),d.2.1.2.2.1,()),d.2.2.1,(),()))⟩],
 λ k d=>Iw k (⟨d.2.1.1,d.2.2.1,d.2.1.2.2.1⟩:ad.a4) d.2.2.2.1 d.1.2.2.2.1 d.1.2.2.1⟩ (c0.dT (λ d=>ej) λ k aN aO q h=>by
 obtain⟨_,_,(g:Int),(v1:Int),_⟩:=aN
 obtain⟨⟨(b:List ad.ap),_,(c:List Int),_⟩,(e:List ((List UInt8)×Int)),(a:List (List UInt8)),_⟩:=aO
 obtain⟨f,_⟩:=en h
 dsimp only at f
 obtain⟨rfl,_⟩:=f
 conv=>rhs;change fe (α:=Unit⊕Int) _ (Iw (k+1) (⟨b,e,c⟩:ad.a4) a v1 (a.length:Int));rw[<-L6 (k+1) (⟨b,e,c⟩:ad.a4) a v1];simp only[sw,b8,L6];simp only[dB]
 kernel_rfl)
def Xz(F:Nat):bs bd:=(Xy F).rt 25 ⟨[.p (.B 0)],[dD,.m 9 3],[l7],[dD,.m 9 3],Int,λ d=>Au F (⟨d.2.1.1,d.2.2.1,d.2.1.2.2.1⟩:ad.a4),λ d r=>((r,()),((d.2.1.1,(),d.2.1.2.2.1,()),d.2.2.1,()))⟩ λ aN aO=>by
 obtain⟨_,_⟩:=aN;obtain⟨⟨(a:List ad.ap),_,(v1:List Int),_⟩,(b:List ((List UInt8)×Int)),_⟩:=aO;conv=>rhs;simp only[Au,b8,L1,L6]
 kernel_rfl
def Iy(k:Nat)(a:List (List UInt8))(b:List ((List UInt8)×Bool))(c:Int)(d:List (List UInt8))(al:Int):=dK ((a:List (List UInt8))=d/\(a.length:Int)=al/\True) (sx a k b c)
theorem L8(k:Nat)(a:List (List UInt8))(b:List ((List UInt8)×Bool))(c:Int):sx a k b c=Iy k a b c a (a.length:Int):=(ek ⟨rfl,rfl,trivial⟩).symm
def XA(F:Nat):bs bd:=(Xz F).dL 49 0 F ⟨[0,3,7,8,9],[.p (.l 9),.p (.M 0),.p (.l 9),l7,l7],[.m 9 4],
 [⟨⟨.nm,[0,3],[.p (.l 9),.p (.M 0)],[.m 9 4]⟩,List ((List UInt8)×Bool),λ d r=>((d.1.1,(),()),(r,()))⟩],
 λ k d=>Iy k d.1.1 d.2.1 d.1.2.2.2.2.1 d.1.2.2.1 d.1.2.2.2.1⟩ (c0.dT (λ d=>ej) λ k aN aO q h=>by
 obtain⟨(a:List (List UInt8)),_,(v1:List (List UInt8)),(f:Int),(b:Int),_⟩:=aN
 obtain⟨(c:List ((List UInt8)×Bool)),_⟩:=aO
 obtain⟨e,_⟩:=en h
 dsimp only at e
 obtain⟨rfl,rfl,_⟩:=e
 conv=>rhs;change fe (α:=List ((List UInt8)×Bool)) _ (Iy (k+1) a c b (a) (a.length:Int));rw[<-L8 (k+1) a c b];simp only[sx,b8,L8];simp only[dB]
 kernel_rfl)
def XB(F:Nat):bs bd:=(XA F).rt 49 ⟨[.p (.l 9)],[],[me],[],Bool,λ d=>xd F d.1.1,λ d r=>((r,()),())⟩ λ aN aO=>by
 obtain⟨(a:List (List UInt8)),_⟩:=aN;conv=>rhs;simp only[xd,b8,L8]
 kernel_rfl
def Io(k:Nat)(a:List ad.Field)(b:List (List UInt8))(c:Int)(aL:Int)(d:List (List UInt8)):=dK ((a.length:Int)=aL/\([]:List (List UInt8))=d/\True) (qG a k b c)
theorem LZ(k:Nat)(a:List ad.Field)(b:List (List UInt8))(c:Int):qG a k b c=Io k a b c (a.length:Int) []:=(ek ⟨rfl,rfl,trivial⟩).symm
def XC(F:Nat):bs bd:=(XB F).dL 26 2 F ⟨[0,4,5,6,14,15,16,23,24,25],[.p (.B 0),.p (.B 2),.p (.R 3),.p (.R 4),.p (.l 37),l7,l7,.p (.R 5),l7,l7],[dD,.m 9 3,mR,.r 9 false,.r 9 false,.r 94 true],
 [⟨⟨.nm,[0,4,5,6,14,15,16],[.p (.B 0),.p (.B 2),.p (.R 3),.p (.R 4),.p (.l 37),l7,l7],[dD,.m 9 3,mR,.r 9 false,.r 9 false,.d]⟩,List (List UInt8),λ d r=>(((),(),(),(),d.1.2.2.2.2.1,d.1.2.2.2.2.2.1,d.1.2.2.2.2.2.2.1,()),((d.2.1.1,(),d.2.1.2.2.1,()),d.2.2.1,d.2.2.2.1,r,d.2.2.2.2.2.1,(),()))⟩],
 λ k d=>Io k d.2.2.2.2.2.2.1 d.2.2.2.2.1 d.1.2.2.2.2.2.2.2.2.2.1 d.1.2.2.2.2.2.2.2.2.1 d.2.2.2.2.2.1⟩ (c0.dT (λ d=>ej) λ k aN aO q h=>by
 obtain⟨_,_,_,_,(i:List ad.ap),(v1:Int),(j:Int),_,(l:Int),(b:Int),_⟩:=aN
 obtain⟨⟨(m:List ad.ap),_,(n:List Int),_⟩,(o:List ((List UInt8)×Int)),⟨(p:List UInt8),(s:List UInt8),(f:List ad.Field),(g:List ad.Method),_⟩,(c:List (List UInt8)),(t:List (List UInt8)),(a:List ad.Field),_⟩:=aO
 obtain⟨e,_⟩:=en h
 dsimp only at e
 obtain⟨rfl,rfl,_⟩:=e
 conv=>rhs;change fe (α:=List (List UInt8)) _ (Io (k+1) a c b (a.length:Int) ([]));rw[<-LZ (k+1) a c b];simp only[qG,b8,LZ];simp only[dB]
 kernel_rfl)
def Ip(k:Nat)(a:ad.ap)(b:List (List UInt8))(c:Int)(bB:Int):=dK ((a.a1.length:Int)=bB/\True) (nJ a k b c)
theorem L0(k:Nat)(a:ad.ap)(b:List (List UInt8))(c:Int):nJ a k b c=Ip k (⟨[],[],[],a.a1⟩:ad.ap) b c (a.a1.length:Int):=(show nJ a k b c=nJ (⟨[],[],[],a.a1⟩:ad.ap) k b c by kernel_rfl).trans (ek ⟨rfl,trivial⟩).symm
def XD(F:Nat):bs bd:=(XC F).dL 26 4 F ⟨[0,5,6,14,15,16,36,37,38],[.p (.B 0),.p (.R 2),.p (.R 3),.p (.l 37),l7,l7,.p (.l 43),l7,l7],[dD,.m 9 3,.r 9 false,.r 9 false],
 [⟨⟨.nm,[0,5,6,14,15,16],[.p (.B 0),.p (.R 2),.p (.R 3),.p (.l 37),l7,l7],[dD,.m 9 3,.r 9 false,.r 9 false]⟩,List (List UInt8),λ d r=>(((),(),(),d.1.2.2.2.1,d.1.2.2.2.2.1,d.1.2.2.2.2.2.1,()),((d.2.1.1,(),d.2.1.2.2.1,()),d.2.2.1,d.2.2.2.1,r,()))⟩],
 λ k d=>Ip k (⟨[],[],[],d.1.2.2.2.2.2.2.1⟩:ad.ap) d.2.2.2.2.1 d.1.2.2.2.2.2.2.2.2.1 d.1.2.2.2.2.2.2.2.1⟩ (c0.dT (λ d=>ej) λ k aN aO q h=>by
 obtain⟨_,_,_,(f:List ad.ap),(v1:Int),(g:Int),(b:List ad.Method),(i:Int),(c:Int),_⟩:=aN
 obtain⟨⟨(j:List ad.ap),_,(l:List Int),_⟩,(m:List ((List UInt8)×Int)),(n:List (List UInt8)),(a:List (List UInt8)),_⟩:=aO
 obtain⟨e,_⟩:=en h
 dsimp only at e
 obtain⟨rfl,_⟩:=e
 conv=>rhs;change fe (α:=List (List UInt8)) _ (Ip (k+1) (⟨[],[],[],b⟩:ad.ap) a c (b.length:Int));rw[<-L0 (k+1) (⟨[],[],[],b⟩:ad.ap) a c];simp only[nJ,b8,L0];simp only[dB]
 kernel_rfl)
def Im(F:Nat)(k:Nat)(a:ad.a4)(b:Int)(c:Int)(aL:List ad.ap):=dK ((a.l.length:Int)=c/\(a.l:List ad.ap)=aL/\True) (bF (st F a k b))
theorem LY(F:Nat)(k:Nat)(a:ad.a4)(b:Int):bF (st F a k b)=Im F k a b (a.l.length:Int) a.l:=(ek ⟨rfl,rfl,trivial⟩).symm
def XE(F:Nat):bs bd:=(XD F).dL 26 0 F ⟨[0,14,15,16],[.p (.B 0),.p (.l 37),l7,l7],[dD,.m 9 3],
 [⟨⟨.nm,[],[],[dD,.m 9 3]⟩,Unit,λ d r=>((),((d.2.1.1,(),d.2.1.2.2.1,()),d.2.2.1,()))⟩,
  ⟨⟨.rt,[2],[l7],[dD,.m 9 3]⟩,Int,λ d r=>((r,()),((d.2.1.1,(),d.2.1.2.2.1,()),d.2.2.1,()))⟩],
 λ k d=>Im F k (⟨d.1.2.1,d.2.2.1,d.2.1.2.2.1⟩:ad.a4) d.1.2.2.2.1 d.1.2.2.1 d.2.1.1⟩ (c0.dT (λ d=>ej) λ k aN aO q h=>by
 obtain⟨_,(a:List ad.ap),(v1:Int),(b:Int),_⟩:=aN
 obtain⟨⟨(g:List ad.ap),_,(c:List Int),_⟩,(e:List ((List UInt8)×Int)),_⟩:=aO
 obtain⟨f,_⟩:=en h
 dsimp only at f
 obtain⟨rfl,rfl,_⟩:=f
 conv=>rhs;change fe (α:=Unit⊕Int) _ (Im F (k+1) (⟨a,e,c⟩:ad.a4) b (a.length:Int) (a));rw[<-LY F (k+1) (⟨a,e,c⟩:ad.a4) b];simp only[st,b8,LZ,L0,LY];simp only[dB]
 kernel_rfl)
def XF(F:Nat):bs bd:=(XE F).rt 26 ⟨[.p (.B 0)],[dD,.m 9 3],[l7],[dD,.m 9 3],Int,λ d=>At F (⟨d.2.1.1,d.2.2.1,d.2.1.2.2.1⟩:ad.a4),λ d r=>((r,()),((d.2.1.1,(),d.2.1.2.2.1,()),d.2.2.1,()))⟩ λ aN aO=>by
 obtain⟨_,_⟩:=aN;obtain⟨⟨(a:List ad.ap),_,(v1:List Int),_⟩,(b:List ((List UInt8)×Int)),_⟩:=aO;conv=>rhs;simp only[At,b8,LY]
 kernel_rfl
def XG(F:Nat):bs bd:=(XF F).dL 50 0 F ⟨[0,1,5],[.p (.B 0),l7,.p (.R 2)],[dD,.m 9 3,.r 3 false],
 [⟨⟨.nm,[5],[.p (.R 2)],[dD,.m 9 3,.r 3 false]⟩,List Int,λ d r=>(((),()),((d.2.1.1,(),d.2.1.2.2.1,()),d.2.2.1,r,()))⟩],
 λ k d=>nH (⟨d.2.1.1,d.2.2.1,d.2.1.2.2.1⟩:ad.a4) k d.2.2.2.1 d.1.2.1⟩ (c0.dT (λ d=>rfl) λ k aN aO q h=>by
 conv=>rhs;simp only[nH,b8];simp only[dB]
 kernel_rfl)
def XI(F:Nat):bs bd:=(XG F).rt 50 ⟨[.p (.B 0),l7],[dD,.m 9 3],[mb],[dD,.m 9 3],List Int,λ d=>nG F (⟨d.2.1.1,d.2.2.1,d.2.1.2.2.1⟩:ad.a4) d.1.2.1,λ d r=>((r,()),((d.2.1.1,(),d.2.1.2.2.1,()),d.2.2.1,()))⟩ λ aN aO=>by
 conv=>rhs;simp only[nG,b8]
 kernel_rfl
def ID(k:Nat)(a:List ad.Kind)(b:List ad.Kind)(c:Int)(al:Int):=dK ((a.length:Int)=al/\True) (bF (vu a b k c))
theorem Mc(k:Nat)(a:List ad.Kind)(b:List ad.Kind)(c:Int):bF (vu a b k c)=ID k a b c (a.length:Int):=(ek ⟨rfl,trivial⟩).symm
def XJ(F:Nat):bs bd:=(XI F).dL 68 0 F ⟨[0,1,12,13],[.p (.l 40),.p (.l 40),l7,l7],[],
 [⟨⟨.nm,[],[],[]⟩,Unit,λ d r=>((),())⟩,
  ⟨⟨.rt,[4],[me],[]⟩,Bool,λ d r=>((r,()),())⟩],
 λ k d=>ID k d.1.1 d.1.2.1 d.1.2.2.2.1 d.1.2.2.1⟩ (c0.dT (λ d=>ej) λ k aN aO q h=>by
 obtain⟨(a:List ad.Kind),(v1:List ad.Kind),(e:Int),(b:Int),_⟩:=aN
 obtain⟨c,_⟩:=en h
 dsimp only at c
 obtain⟨rfl,_⟩:=c
 conv=>rhs;change fe (α:=Unit⊕Bool) _ (ID (k+1) a v1 b (a.length:Int));rw[<-Mc (k+1) a v1 b];simp only[vu,b8,Mc];simp only[dB]
 kernel_rfl)
def XK(F:Nat):bs bd:=(XJ F).rt 68 ⟨[.p (.l 40),.p (.l 40)],[],[me],[],Bool,λ d=>Bl F d.1.1 d.1.2.1,λ d r=>((r,()),())⟩ λ aN aO=>by
 obtain⟨(a:List ad.Kind),(v1:List ad.Kind),_⟩:=aN;conv=>rhs;simp only[Bl,b8,Mc]
 kernel_rfl
def XL(F:Nat):bs bd:=(XK F).rt 51 ⟨[Lt,Lt],[],[me],[],Bool,λ d=>D3 F (Fm d.1.1) (Fm d.1.2.1),λ d r=>((r,()),())⟩ λ aN aO=>by
 obtain⟨⟨(c:List UInt8),(v1:Bool),(e:List ad.Kind),(f:Int),(g:List UInt8),(h:Int),(i:Int),(j:List UInt8),(k:List ad.Handler),_⟩,⟨(l:List UInt8),(a:Bool),(b:List ad.Kind),(m:Int),(n:List UInt8),(o:Int),(p:Int),(q:List UInt8),(s:List ad.Handler),_⟩,_⟩:=aN;conv=>rhs;simp only[D3,b8,ahB]
 kernel_rfl
def Ik(F:Nat)(k:Nat)(b:ad.Method)(a:ad.ap)(c:Int)(wB:Int):=dK ((a.a1.length:Int)=wB/\True) (bF (nI F b a k c))
theorem LW(F:Nat)(k:Nat)(b:ad.Method)(a:ad.ap)(c:Int):bF (nI F b a k c)=Ik F k b (⟨[],[],[],a.a1⟩:ad.ap) c (a.a1.length:Int):=(show bF (nI F b a k c)=bF (nI F b (⟨[],[],[],a.a1⟩:ad.ap) k c) by kernel_rfl).trans (ek ⟨rfl,trivial⟩).symm
def XM(F:Nat):bs bd:=(XL F).dL 27 6 F ⟨[0,4,6,8,14,15,16,24,25,26,31,32,33,44,45,46],[.p (.B 0),.p (.B 2),l7,.p (.B 3),.p (.l 37),l7,l7,mb,l7,l7,.p (.l 43),l7,l7,.p (.l 43),l7,l7],[dD,.m 9 3,mR,xu],
 [⟨⟨.nm,[0,4,6,14,15,16,24,25,26,31,32,33],[.p (.B 0),.p (.B 2),l7,.p (.l 37),l7,l7,mb,l7,l7,.p (.l 43),l7,l7],[dD,.m 9 3,mR,xu]⟩,Unit,λ d r=>(((),(),d.1.2.2.1,d.1.2.2.2.2.1,d.1.2.2.2.2.2.1,d.1.2.2.2.2.2.2.1,d.1.2.2.2.2.2.2.2.1,d.1.2.2.2.2.2.2.2.2.1,d.1.2.2.2.2.2.2.2.2.2.1,d.1.2.2.2.2.2.2.2.2.2.2.1,d.1.2.2.2.2.2.2.2.2.2.2.2.1,d.1.2.2.2.2.2.2.2.2.2.2.2.2.1,()),((d.2.1.1,(),d.2.1.2.2.1,()),d.2.2.1,d.2.2.2.1,d.2.2.2.2.1,()))⟩,
  ⟨⟨.rt,[2],[l7],[dD,.m 9 3,.d,.d]⟩,Int,λ d r=>((r,()),((d.2.1.1,(),d.2.1.2.2.1,()),d.2.2.1,(),(),()))⟩],
 λ k d=>Ik F k (Fm d.2.2.2.2.1) (⟨[],[],[],d.1.2.2.2.2.2.2.2.2.2.2.2.2.2.1⟩:ad.ap) d.1.2.2.2.2.2.2.2.2.2.2.2.2.2.2.2.1 d.1.2.2.2.2.2.2.2.2.2.2.2.2.2.2.1⟩ (c0.dT (λ d=>ej) λ k aN aO q h=>by
 obtain⟨_,_,(s:Int),_,(v1:List ad.ap),(t:Int),(u:Int),(v:List Int),(w:Int),(x:Int),(y:List ad.Method),(z:Int),(A:Int),(a:List ad.Method),(p:Int),(c:Int),_⟩:=aN
 obtain⟨⟨(B:List ad.ap),_,(C:List Int),_⟩,(D:List ((List UInt8)×Int)),⟨(E:List UInt8),(G:List UInt8),(H:List ad.Field),(I:List ad.Method),_⟩,⟨(b:List UInt8),(e:Bool),(f:List ad.Kind),(g:Int),(i:List UInt8),(j:Int),(l:Int),(m:List UInt8),(n:List ad.Handler),_⟩,_⟩:=aO
 obtain⟨o,_⟩:=en h
 dsimp only at o
 obtain⟨rfl,_⟩:=o
 conv=>rhs;change fe (α:=Unit⊕Int) _ (Ik F (k+1) (⟨b,e,f,(⟨g,i⟩:ad.Kind),j,l,m,n⟩:ad.Method) (⟨[],[],[],a⟩:ad.ap) c (a.length:Int));rw[<-LW F (k+1) (⟨b,e,f,(⟨g,i⟩:ad.Kind),j,l,m,n⟩:ad.Method) (⟨[],[],[],a⟩:ad.ap) c];simp only[nI,b8,LW];simp only[dB]
 kernel_rfl)
def Ij(F:Nat)(k:Nat)(a:ad.a4)(b:ad.ap)(d:Int)(e:Int)(al:Int)(c:Int)(wA:List ad.ap)(f:List ad.Method):=dK ((a.l.length:Int)=al/\(b.a1.length:Int)=c/\(a.l:List ad.ap)=wA/\(b.a1:List ad.Method)=f/\True) (bF (ss F a b d k e))
theorem LV(F:Nat)(k:Nat)(a:ad.a4)(b:ad.ap)(c:Int)(d:Int):bF (ss F a b c k d)=Ij F k a b c d (a.l.length:Int) (b.a1.length:Int) a.l b.a1:=(ek ⟨rfl,rfl,rfl,rfl,trivial⟩).symm
def XN(F:Nat):bs bd:=(XM F).dL 27 4 F ⟨[0,4,6,14,15,16,24,25,26,31,32,33],[.p (.B 0),.p (.B 2),l7,.p (.l 37),l7,l7,mb,l7,l7,.p (.l 43),l7,l7],[dD,.m 9 3,mR],
 [⟨⟨.nm,[0,4,14,15,16,24,25,26],[.p (.B 0),.p (.B 2),.p (.l 37),l7,l7,mb,l7,l7],[dD,.m 9 3,mR]⟩,Unit,λ d r=>(((),(),d.1.2.2.2.1,d.1.2.2.2.2.1,d.1.2.2.2.2.2.1,d.1.2.2.2.2.2.2.1,d.1.2.2.2.2.2.2.2.1,d.1.2.2.2.2.2.2.2.2.1,()),((d.2.1.1,(),d.2.1.2.2.1,()),d.2.2.1,d.2.2.2.1,()))⟩,
  ⟨⟨.rt,[2],[l7],[dD,.m 9 3,.d]⟩,Int,λ d r=>((r,()),((d.2.1.1,(),d.2.1.2.2.1,()),d.2.2.1,(),()))⟩],
 λ k d=>Ij F k (⟨d.1.2.2.2.1,d.2.2.1,d.2.1.2.2.1⟩:ad.a4) (⟨d.2.2.2.1.1,d.2.2.2.1.2.1,d.2.2.2.1.2.2.1,d.1.2.2.2.2.2.2.2.2.2.1⟩:ad.ap) d.1.2.2.1 d.1.2.2.2.2.2.2.2.2.2.2.2.1 d.1.2.2.2.2.1 d.1.2.2.2.2.2.2.2.2.2.2.1 d.2.1.1 d.2.2.2.1.2.2.2.1⟩ (c0.dT (λ d=>ej) λ k aN aO q h=>by
 obtain⟨_,_,(c:Int),(v1:List ad.ap),(n:Int),(o:Int),(p:List Int),(s:Int),(t:Int),(b:List ad.Method),(u:Int),(e:Int),_⟩:=aN
 obtain⟨⟨(m:List ad.ap),_,(a:List Int),_⟩,(f:List ((List UInt8)×Int)),⟨(g:List UInt8),(i:List UInt8),(j:List ad.Field),(v:List ad.Method),_⟩,_⟩:=aO
 obtain⟨l,_⟩:=en h
 dsimp only at l
 obtain⟨rfl,rfl,rfl,rfl,_⟩:=l
 conv=>rhs;change fe (α:=Unit⊕Int) _ (Ij F (k+1) (⟨v1,f,a⟩:ad.a4) (⟨g,i,j,b⟩:ad.ap) c e (v1.length:Int) (b.length:Int) (v1) (b));rw[<-LV F (k+1) (⟨v1,f,a⟩:ad.a4) (⟨g,i,j,b⟩:ad.ap) c e];simp only[ss,b8,LW,LV];simp only[dB]
 kernel_rfl)
def Ii(F:Nat)(k:Nat)(a:ad.a4)(c:ad.ap)(b:List Int)(d:Int)(e:Int)(bB:Int)(fH:List ad.ap):=dK ((a.l.length:Int)=e/\(b.length:Int)=bB/\(a.l:List ad.ap)=fH/\True) (bF (sr F a c b k d))
theorem LU(F:Nat)(k:Nat)(a:ad.a4)(c:ad.ap)(b:List Int)(d:Int):bF (sr F a c b k d)=Ii F k a c b d (a.l.length:Int) (b.length:Int) a.l:=(ek ⟨rfl,rfl,rfl,trivial⟩).symm
def XO(F:Nat):bs bd:=(XN F).dL 27 2 F ⟨[0,4,14,15,16,24,25,26],[.p (.B 0),.p (.B 2),.p (.l 37),l7,l7,mb,l7,l7],[dD,.m 9 3,mR],
 [⟨⟨.nm,[0,14,15,16],[.p (.B 0),.p (.l 37),l7,l7],[dD,.m 9 3,mR]⟩,Unit,λ d r=>(((),d.1.2.2.1,d.1.2.2.2.1,d.1.2.2.2.2.1,()),((d.2.1.1,(),d.2.1.2.2.1,()),d.2.2.1,d.2.2.2.1,()))⟩,
  ⟨⟨.rt,[2],[l7],[dD,.m 9 3,.d]⟩,Int,λ d r=>((r,()),((d.2.1.1,(),d.2.1.2.2.1,()),d.2.2.1,(),()))⟩],
 λ k d=>Ii F k (⟨d.1.2.2.1,d.2.2.1,d.2.1.2.2.1⟩:ad.a4) (M0 d.2.2.2.1) d.1.2.2.2.2.2.1 d.1.2.2.2.2.2.2.2.1 d.1.2.2.2.1 d.1.2.2.2.2.2.2.1 d.2.1.1⟩ (c0.dT (λ d=>ej) λ k aN aO q h=>by
 obtain⟨_,_,(c:List ad.ap),(v1:Int),(n:Int),(e:List Int),(o:Int),(f:Int),_⟩:=aN
 obtain⟨⟨(p:List ad.ap),_,(g:List Int),_⟩,(i:List ((List UInt8)×Int)),⟨(j:List UInt8),(a:List UInt8),(b:List ad.Field),(l:List ad.Method),_⟩,_⟩:=aO
 obtain⟨m,_⟩:=en h
 dsimp only at m
 obtain⟨rfl,rfl,rfl,_⟩:=m
 conv=>rhs;change fe (α:=Unit⊕Int) _ (Ii F (k+1) (⟨c,i,g⟩:ad.a4) (⟨j,a,b,l⟩:ad.ap) e f (c.length:Int) (e.length:Int) (c));rw[<-LU F (k+1) (⟨c,i,g⟩:ad.a4) (⟨j,a,b,l⟩:ad.ap) e f];simp only[sr,b8,LV,LU];simp only[dB]
 kernel_rfl)
def Ih(F:Nat)(k:Nat)(a:ad.a4)(b:Int)(c:Int)(aL:List ad.ap):=dK ((a.l.length:Int)=c/\(a.l:List ad.ap)=aL/\True) (bF (sq F a k b))
theorem LS(F:Nat)(k:Nat)(a:ad.a4)(b:Int):bF (sq F a k b)=Ih F k a b (a.l.length:Int) a.l:=(ek ⟨rfl,rfl,trivial⟩).symm
def XP(F:Nat):bs bd:=(XO F).dL 27 0 F ⟨[0,14,15,16],[.p (.B 0),.p (.l 37),l7,l7],[dD,.m 9 3],
 [⟨⟨.nm,[],[],[dD,.m 9 3]⟩,Unit,λ d r=>((),((d.2.1.1,(),d.2.1.2.2.1,()),d.2.2.1,()))⟩,
  ⟨⟨.rt,[2],[l7],[dD,.m 9 3]⟩,Int,λ d r=>((r,()),((d.2.1.1,(),d.2.1.2.2.1,()),d.2.2.1,()))⟩],
 λ k d=>Ih F k (⟨d.1.2.1,d.2.2.1,d.2.1.2.2.1⟩:ad.a4) d.1.2.2.2.1 d.1.2.2.1 d.2.1.1⟩ (c0.dT (λ d=>ej) λ k aN aO q h=>by
 obtain⟨_,(a:List ad.ap),(v1:Int),(b:Int),_⟩:=aN
 obtain⟨⟨(g:List ad.ap),_,(c:List Int),_⟩,(e:List ((List UInt8)×Int)),_⟩:=aO
 obtain⟨f,_⟩:=en h
 dsimp only at f
 obtain⟨rfl,rfl,_⟩:=f
 conv=>rhs;change fe (α:=Unit⊕Int) _ (Ih F (k+1) (⟨a,e,c⟩:ad.a4) b (a.length:Int) (a));rw[<-LS F (k+1) (⟨a,e,c⟩:ad.a4) b];simp only[sq,b8,LU,LS];simp only[dB]
 kernel_rfl)
def XQ(F:Nat):bs bd:=(XP F).rt 27 ⟨[.p (.B 0)],[dD,.m 9 3],[l7],[dD,.m 9 3],Int,λ d=>As F (⟨d.2.1.1,d.2.2.1,d.2.1.2.2.1⟩:ad.a4),λ d r=>((r,()),((d.2.1.1,(),d.2.1.2.2.1,()),d.2.2.1,()))⟩ λ aN aO=>by
 obtain⟨_,_⟩:=aN;obtain⟨⟨(a:List ad.ap),_,(v1:List Int),_⟩,(b:List ((List UInt8)×Int)),_⟩:=aO;conv=>rhs;simp only[As,b8,LS]
 kernel_rfl
def Ia(F:Nat)(k:Nat)(a:List ad.ap)(c:Int×ad.a4)(b:Int×ad.a4)(d:List (List ad.Target))(e:List (List (List UInt8)))(qp:List (List ad.Field))(f:Int)(g:Int)(al:List ad.ap)(aL:List Int)(bB:List (List ad.Field))(ch:List (List (List UInt8)))(fH:List (List ad.Target))(wA:List ad.ap)(wB:List Int):=dK ((a.length:Int)=g/\([]:List ad.ap)=al/\([]:List Int)=aL/\([]:List (List ad.Field))=bB/\([]:List (List (List UInt8)))=ch/\([]:List (List ad.Target))=fH/\(a:List ad.ap)=wA/\(b.2.cL:List Int)=wB/\True) (bF (kZ F a c b k d e qp f))
theorem LN(F:Nat)(k:Nat)(a:List ad.ap)(c:Int×ad.a4)(b:Int×ad.a4)(d:List (List ad.Target))(e:List (List (List UInt8)))(qp:List (List ad.Field))(f:Int):bF (kZ F a c b k d e qp f)=Ia F k a (0,(⟨[],c.2.bC,[]⟩:ad.a4)) (0,(⟨[],[],b.2.cL⟩:ad.a4)) d e qp f (a.length:Int) [] [] [] [] [] a b.2.cL:=(show bF (kZ F a c b k d e qp f)=bF (kZ F a (0,(⟨[],c.2.bC,[]⟩:ad.a4)) (0,(⟨[],[],b.2.cL⟩:ad.a4)) k d e qp f) by kernel_rfl).trans (ek ⟨rfl,rfl,rfl,rfl,rfl,rfl,rfl,rfl,trivial⟩).symm
def XR(F:Nat):bs bd:=(XQ F).dL 8 2 F ⟨[2,5,9,62,63],[.p (.B 0),.p (.B 1),.p (.B 3),l7,l7],[Lu,T6,.m 9 3,T7,.r 34 false,.r 77 false,.r 78 false],
 [⟨⟨.nm,[2,9],[.p (.B 0),.p (.B 3)],[Lu,T6,.m 9 3,T7,.r 34 false,.r 77 false,.r 78 false]⟩,(List (List ad.Target))×(List (List (List UInt8)))×(List (List ad.Field)),λ d r=>(((),(),()),(d.2.1,(d.2.2.1.1,(),d.2.2.1.2.2.1,()),d.2.2.2.1,(d.2.2.2.2.1.1,d.2.2.2.2.1.2.1,(),(),(),()),r.2.2,r.2.1,r.1,()))⟩,
  ⟨⟨.rt,[2,3],[.p (.B 0),l7],[Lu,.d,.d,.d,.d,.d,.d]⟩,ad.c4×Int,λ d r=>(((),r.2,()),((r.1.gz,r.1.eh,r.1.Fields,r.1.Names,r.1.eE,()),(),(),(),(),(),(),()))⟩],
 λ k d=>Ia F k d.2.2.1.1 (0,(⟨[],d.2.2.2.1,[]⟩:ad.a4)) (0,(⟨[],[],d.2.2.1.2.2.1⟩:ad.a4)) d.2.2.2.2.2.2.2.1 d.2.2.2.2.2.2.1 d.2.2.2.2.2.1 d.1.2.2.2.2.1 d.1.2.2.2.1 d.2.1.1 d.2.1.2.1 d.2.1.2.2.1 d.2.1.2.2.2.1 d.2.1.2.2.2.2.1 d.2.2.2.2.1.1 d.2.2.2.2.1.2.1⟩ (c0.dT (λ d=>ej) λ k aN aO q h=>by
 obtain⟨_,_,_,(m:Int),(v1:Int),_⟩:=aN
 obtain⟨⟨(n:List ad.ap),(o:List Int),(p:List (List ad.Field)),(s:List (List (List UInt8))),(t:List (List ad.Target)),_⟩,⟨(a:List ad.ap),_,(b:List Int),_⟩,(c:List ((List UInt8)×Int)),⟨(j:List ad.ap),(l:List Int),_,_,_,_⟩,(e:List (List ad.Field)),(f:List (List (List UInt8))),(g:List (List ad.Target)),_⟩:=aO
 obtain⟨i,_⟩:=en h
 dsimp only at i
 obtain⟨rfl,rfl,rfl,rfl,rfl,rfl,rfl,rfl,_⟩:=i
 conv=>rhs;change fe (α:=((List (List ad.Target))×(List (List (List UInt8)))×(List (List ad.Field)))⊕(ad.c4×Int)) _ (Ia F (k+1) a (0,(⟨[],c,[]⟩:ad.a4)) (0,(⟨[],[],b⟩:ad.a4)) g f e v1 (a.length:Int) ([]) ([]) ([]) ([]) ([]) (a) ((0,(⟨[],[],b⟩:ad.a4)).2.cL));rw[<-LN F (k+1) a (0,(⟨[],c,[]⟩:ad.a4)) (0,(⟨[],[],b⟩:ad.a4)) g f e v1];simp only[kZ,b8,LN];simp only[dB]
 kernel_rfl)
def XT(F:Nat):bs bd:=(XR F).rt 8 ⟨[.p (.l 37)],[],[ED,l7],[],ad.c4×Int,λ d=>oU F d.1.1,λ d r=>(((r.1.gz,r.1.eh,r.1.Fields,r.1.Names,r.1.eE,()),r.2,()),())⟩ λ aN aO=>by
 obtain⟨(a:List ad.ap),_⟩:=aN;conv=>rhs;simp only[oU,b8,LN]
 kernel_rfl
def IF(k:Nat)(a:List Int)(b:List Int)(c:Int)(al:Int):=dK ((a.length:Int)=al/\True) (bF (tf a b k c))
theorem Mf(k:Nat)(a:List Int)(b:List Int)(c:Int):bF (tf a b k c)=IF k a b c (a.length:Int):=(ek ⟨rfl,trivial⟩).symm
def XU(F:Nat):bs bd:=(XT F).dL 70 0 F ⟨[0,1,12,13],[mb,mb,l7,l7],[],
 [⟨⟨.nm,[],[],[]⟩,Unit,λ d r=>((),())⟩,
  ⟨⟨.rt,[4],[me],[]⟩,Bool,λ d r=>((r,()),())⟩],
 λ k d=>IF k d.1.1 d.1.2.1 d.1.2.2.2.1 d.1.2.2.1⟩ (c0.dT (λ d=>ej) λ k aN aO q h=>by
 obtain⟨(a:List Int),(v1:List Int),(e:Int),(b:Int),_⟩:=aN
 obtain⟨c,_⟩:=en h
 dsimp only at c
 obtain⟨rfl,_⟩:=c
 conv=>rhs;change fe (α:=Unit⊕Bool) _ (IF (k+1) a v1 b (a.length:Int));rw[<-Mf (k+1) a v1 b];simp only[tf,b8,Mf];simp only[dB]
 kernel_rfl)
def XV(F:Nat):bs bd:=(XU F).rt 70 ⟨[mb,mb],[],[me],[],Bool,λ d=>Bn F d.1.1 d.1.2.1,λ d r=>((r,()),())⟩ λ aN aO=>by
 obtain⟨(a:List Int),(v1:List Int),_⟩:=aN;conv=>rhs;simp only[Bn,b8,Mf]
 kernel_rfl
def IC(k:Nat)(a:List ad.Field)(b:List ad.Field)(c:Int)(al:Int):=dK ((a.length:Int)=al/\True) (bF (tc a b k c))
theorem Mb(k:Nat)(a:List ad.Field)(b:List ad.Field)(c:Int):bF (tc a b k c)=IC k a b c (a.length:Int):=(ek ⟨rfl,trivial⟩).symm
def XW(F:Nat):bs bd:=(XV F).dL 72 0 F ⟨[0,1,12,13],[.p (.l 94),.p (.l 94),l7,l7],[],
 [⟨⟨.nm,[],[],[]⟩,Unit,λ d r=>((),())⟩,
  ⟨⟨.rt,[4],[me],[]⟩,Bool,λ d r=>((r,()),())⟩],
 λ k d=>IC k d.1.1 d.1.2.1 d.1.2.2.2.1 d.1.2.2.1⟩ (c0.dT (λ d=>ej) λ k aN aO q h=>by
 obtain⟨(a:List ad.Field),(v1:List ad.Field),(e:Int),(b:Int),_⟩:=aN
 obtain⟨c,_⟩:=en h
 dsimp only at c
 obtain⟨rfl,_⟩:=c
 conv=>rhs;change fe (α:=Unit⊕Bool) _ (IC (k+1) a v1 b (a.length:Int));rw[<-Mb (k+1) a v1 b];simp only[tc,b8,Mb];simp only[dB]
 kernel_rfl)
def XX(F:Nat):bs bd:=(XW F).rt 72 ⟨[.p (.l 94),.p (.l 94)],[],[me],[],Bool,λ d=>Bk F d.1.1 d.1.2.1,λ d r=>((r,()),())⟩ λ aN aO=>by
 obtain⟨(a:List ad.Field),(v1:List ad.Field),_⟩:=aN;conv=>rhs;simp only[Bk,b8,Mb]
 kernel_rfl
def Iz(F:Nat)(k:Nat)(a:List (List ad.Field))(b:List (List ad.Field))(c:Int)(al:Int):=dK ((a.length:Int)=al/\True) (bF (s8 F a b k c))
theorem L9(F:Nat)(k:Nat)(a:List (List ad.Field))(b:List (List ad.Field))(c:Int):bF (s8 F a b k c)=Iz F k a b c (a.length:Int):=(ek ⟨rfl,trivial⟩).symm
def XY(F:Nat):bs bd:=(XX F).dL 71 0 F ⟨[1,2,15,16,17],[.p (.l 34),.f 72 [],.p (.l 34),l7,l7],[],
 [⟨⟨.nm,[],[],[]⟩,Unit,λ d r=>((),())⟩,
  ⟨⟨.rt,[6],[me],[]⟩,Bool,λ d r=>((r,()),())⟩],
 λ k d=>Iz F k d.1.2.2.1 d.1.1 d.1.2.2.2.2.1 d.1.2.2.2.1⟩ (c0.dT (λ d=>ej) λ k aN aO q h=>by
 obtain⟨(a:List (List ad.Field)),_,(v1:List (List ad.Field)),(e:Int),(b:Int),_⟩:=aN
 obtain⟨c,_⟩:=en h
 dsimp only at c
 obtain⟨rfl,_⟩:=c
 conv=>rhs;change fe (α:=Unit⊕Bool) _ (Iz F (k+1) v1 a b (v1.length:Int));rw[<-L9 F (k+1) v1 a b];simp only[s8,b8,L9];simp only[dB]
 kernel_rfl)
def XZ(F:Nat):bs bd:=(XY F).rt 71 ⟨[.p (.l 34),.p (.l 34),.f 72 []],[],[me],[],Bool,λ d=>Bh F d.1.1 d.1.2.1,λ d r=>((r,()),())⟩ λ aN aO=>by
 obtain⟨(a:List (List ad.Field)),(v1:List (List ad.Field)),_,_⟩:=aN;conv=>rhs;simp only[Bh,b8,L9]
 kernel_rfl
def IG(k:Nat)(a:List (List UInt8))(b:List (List UInt8))(c:Int)(al:Int):=dK ((a.length:Int)=al/\True) (bF (tg a b k c))
theorem Mg(k:Nat)(a:List (List UInt8))(b:List (List UInt8))(c:Int):bF (tg a b k c)=IG k a b c (a.length:Int):=(ek ⟨rfl,trivial⟩).symm
def X0(F:Nat):bs bd:=(XZ F).dL 74 0 F ⟨[0,1,12,13],[.p (.l 9),.p (.l 9),l7,l7],[],
 [⟨⟨.nm,[],[],[]⟩,Unit,λ d r=>((),())⟩,
  ⟨⟨.rt,[4],[me],[]⟩,Bool,λ d r=>((r,()),())⟩],
 λ k d=>IG k d.1.1 d.1.2.1 d.1.2.2.2.1 d.1.2.2.1⟩ (c0.dT (λ d=>ej) λ k aN aO q h=>by
 obtain⟨(a:List (List UInt8)),(v1:List (List UInt8)),(e:Int),(b:Int),_⟩:=aN
 obtain⟨c,_⟩:=en h
 dsimp only at c
 obtain⟨rfl,_⟩:=c
 conv=>rhs;change fe (α:=Unit⊕Bool) _ (IG (k+1) a v1 b (a.length:Int));rw[<-Mg (k+1) a v1 b];simp only[tg,b8,Mg];simp only[dB]
 kernel_rfl)
def X1(F:Nat):bs bd:=(X0 F).rt 74 ⟨[.p (.l 9),.p (.l 9)],[],[me],[],Bool,λ d=>Bo F d.1.1 d.1.2.1,λ d r=>((r,()),())⟩ λ aN aO=>by
 obtain⟨(a:List (List UInt8)),(v1:List (List UInt8)),_⟩:=aN;conv=>rhs;simp only[Bo,b8,Mg]
 kernel_rfl
def IB(F:Nat)(k:Nat)(a:List (List (List UInt8)))(b:List (List (List UInt8)))(c:Int)(al:Int):=dK ((a.length:Int)=al/\True) (bF (ta F a b k c))
theorem Ma(F:Nat)(k:Nat)(a:List (List (List UInt8)))(b:List (List (List UInt8)))(c:Int):bF (ta F a b k c)=IB F k a b c (a.length:Int):=(ek ⟨rfl,trivial⟩).symm
def X2(F:Nat):bs bd:=(X1 F).dL 73 0 F ⟨[1,2,15,16,17],[.p (.l 77),.f 74 [],.p (.l 77),l7,l7],[],
 [⟨⟨.nm,[],[],[]⟩,Unit,λ d r=>((),())⟩,
  ⟨⟨.rt,[6],[me],[]⟩,Bool,λ d r=>((r,()),())⟩],
 λ k d=>IB F k d.1.2.2.1 d.1.1 d.1.2.2.2.2.1 d.1.2.2.2.1⟩ (c0.dT (λ d=>ej) λ k aN aO q h=>by
 obtain⟨(a:List (List (List UInt8))),_,(v1:List (List (List UInt8))),(e:Int),(b:Int),_⟩:=aN
 obtain⟨c,_⟩:=en h
 dsimp only at c
 obtain⟨rfl,_⟩:=c
 conv=>rhs;change fe (α:=Unit⊕Bool) _ (IB F (k+1) v1 a b (v1.length:Int));rw[<-Ma F (k+1) v1 a b];simp only[ta,b8,Ma];simp only[dB]
 kernel_rfl)
def X4(F:Nat):bs bd:=(X2 F).rt 73 ⟨[.p (.l 77),.p (.l 77),.f 74 []],[],[me],[],Bool,λ d=>Bj F d.1.1 d.1.2.1,λ d r=>((r,()),())⟩ λ aN aO=>by
 obtain⟨(a:List (List (List UInt8))),(v1:List (List (List UInt8))),_,_⟩:=aN;conv=>rhs;simp only[Bj,b8,Ma]
 kernel_rfl
def IE(k:Nat)(a:List ad.Target)(b:List ad.Target)(c:Int)(al:Int):=dK ((a.length:Int)=al/\True) (bF (td a b k c))
theorem Md(k:Nat)(a:List ad.Target)(b:List ad.Target)(c:Int):bF (td a b k c)=IE k a b c (a.length:Int):=(ek ⟨rfl,trivial⟩).symm
def X5(F:Nat):bs bd:=(X4 F).dL 76 0 F ⟨[0,1,12,13],[.p (.l 116),.p (.l 116),l7,l7],[],
 [⟨⟨.nm,[],[],[]⟩,Unit,λ d r=>((),())⟩,
  ⟨⟨.rt,[4],[me],[]⟩,Bool,λ d r=>((r,()),())⟩],
 λ k d=>IE k d.1.1 d.1.2.1 d.1.2.2.2.1 d.1.2.2.1⟩ (c0.dT (λ d=>ej) λ k aN aO q h=>by
 obtain⟨(a:List ad.Target),(v1:List ad.Target),(e:Int),(b:Int),_⟩:=aN
 obtain⟨c,_⟩:=en h
 dsimp only at c
 obtain⟨rfl,_⟩:=c
 conv=>rhs;change fe (α:=Unit⊕Bool) _ (IE (k+1) a v1 b (a.length:Int));rw[<-Md (k+1) a v1 b];simp only[td,b8,Md];simp only[dB]
 kernel_rfl)
def X6(F:Nat):bs bd:=(X5 F).rt 76 ⟨[.p (.l 116),.p (.l 116)],[],[me],[],Bool,λ d=>Bm F d.1.1 d.1.2.1,λ d r=>((r,()),())⟩ λ aN aO=>by
 obtain⟨(a:List ad.Target),(v1:List ad.Target),_⟩:=aN;conv=>rhs;simp only[Bm,b8,Md]
 kernel_rfl
def IA(F:Nat)(k:Nat)(a:List (List ad.Target))(b:List (List ad.Target))(c:Int)(al:Int):=dK ((a.length:Int)=al/\True) (bF (s9 F a b k c))
theorem L_(F:Nat)(k:Nat)(a:List (List ad.Target))(b:List (List ad.Target))(c:Int):bF (s9 F a b k c)=IA F k a b c (a.length:Int):=(ek ⟨rfl,trivial⟩).symm
def X7(F:Nat):bs bd:=(X6 F).dL 75 0 F ⟨[1,2,15,16,17],[.p (.l 78),.f 76 [],.p (.l 78),l7,l7],[],
 [⟨⟨.nm,[],[],[]⟩,Unit,λ d r=>((),())⟩,
  ⟨⟨.rt,[6],[me],[]⟩,Bool,λ d r=>((r,()),())⟩],
 λ k d=>IA F k d.1.2.2.1 d.1.1 d.1.2.2.2.2.1 d.1.2.2.2.1⟩ (c0.dT (λ d=>ej) λ k aN aO q h=>by
 obtain⟨(a:List (List ad.Target)),_,(v1:List (List ad.Target)),(e:Int),(b:Int),_⟩:=aN
 obtain⟨c,_⟩:=en h
 dsimp only at c
 obtain⟨rfl,_⟩:=c
 conv=>rhs;change fe (α:=Unit⊕Bool) _ (IA F (k+1) v1 a b (v1.length:Int));rw[<-L_ F (k+1) v1 a b];simp only[s9,b8,L_];simp only[dB]
 kernel_rfl)
def X8(F:Nat):bs bd:=(X7 F).rt 75 ⟨[.p (.l 78),.p (.l 78),.f 76 []],[],[me],[],Bool,λ d=>Bi F d.1.1 d.1.2.1,λ d r=>((r,()),())⟩ λ aN aO=>by
 obtain⟨(a:List (List ad.Target)),(v1:List (List ad.Target)),_,_⟩:=aN;conv=>rhs;simp only[Bi,b8,L_]
 kernel_rfl
def X9(F:Nat):bs bd:=(X8 F).rt 54 ⟨[ED,ED],[],[me],[],Bool,λ d=>xc F (tp d.1.1) (tp d.1.2.1),λ d r=>((r,()),())⟩ λ aN aO=>by
 conv=>rhs;simp only[xc,b8]
 kernel_rfl
def X_(F:Nat):bs bd:=(X9 F).rt 30 ⟨[ED],[],[l7],[],Int,λ d=>sk F (tp d.1.1),λ d r=>((r,()),())⟩ λ aN aO=>by
 conv=>rhs;simp only[sk,b8]
 kernel_rfl
def yg(F:Nat):bs bd:=(X_ F).rt 16 ⟨[],[],[.p (.l 37)],[],List ad.ap,λ d=>Oh,λ d r=>((r,()),())⟩ λ aN aO=>by
 conv=>rhs;simp only[Oh,b8]
 kernel_rfl
set_option maxRecDepth 100000
@[reducible] def ER:bx:=.c 29 [.l 37,.l 3,.l 34,.l 77,.l 78]
@[reducible] def LF:cG:=.a [.l 37,.l 3,.l 34,.l 77,.l 78]
def X'(F:Nat):bs bd:=(yg F).dL 40 0 F ⟨[1,2,3],[l7,l7,.p (.B 0)],[ER],
 [⟨⟨.nm,[],[],[ER]⟩,Unit,λ d r=>((),(d.2.1,()))⟩,
  ⟨⟨.rt,[6],[me],[.d]⟩,Bool,λ d r=>((r,()),((),()))⟩],
 λ k d=>bF (sn d.1.2.1 (tp d.2.1) k d.1.1)⟩ (c0.dT (λ d=>rfl) λ k aN aO q h=>by
 conv=>rhs;simp only[sn,b8];simp only[dB]
 kernel_rfl)
def Ya(F:Nat):bs bd:=(X' F).rt 40 ⟨[LF,l7,l7],[],[me],[],Bool,λ d=>sm F (tp d.1.1) d.1.2.1 d.1.2.2.1,λ d r=>((r,()),())⟩ λ aN aO=>by
 conv=>rhs;simp only[sm,b8]
 kernel_rfl
def Yc(F:Nat):bs bd:=(Ya F).dL 60 0 F ⟨[1,2,3],[l7,l7,.p (.B 0)],[ER],
 [⟨⟨.nm,[1],[l7],[ER]⟩,Int,λ d r=>((r,()),(d.2.1,()))⟩],
 λ k d=>u2 F d.1.2.1 (tp d.2.1) k d.1.1⟩ (c0.dT (λ d=>rfl) λ k aN aO q h=>by
 conv=>rhs;simp only[u2,b8];simp only[dB]
 kernel_rfl)
def Yd(F:Nat):bs bd:=(Yc F).rt 60 ⟨[LF,l7,l7],[],[l7],[],Int,λ d=>xa F (tp d.1.1) d.1.2.1 d.1.2.2.1,λ d r=>((r,()),())⟩ λ aN aO=>by
 conv=>rhs;simp only[xa,b8]
 kernel_rfl
def Yf(F:Nat):bs bd:=(Yd F).rt 64 ⟨[.a [.s,.s,.l 94,.l 43],.p (.B 0)],[.c 9 [.s]],[me],[.c 9 [.s]],Bool,λ d=>Kz (M0 d.1.1) d.2.1.1,λ d r=>((r,()),((d.2.1.1,()),()))⟩ λ aN aO=>by
 conv=>rhs;simp only[Kz,b8]
 kernel_rfl
def IH(k:Nat)(s_:List ad.ap)(a:List UInt8)(b:Int)(c:Int):=dK ((s_.length:Int)=c/\True) (bF (th s_ a k b))
theorem Mh(k:Nat)(s_:List ad.ap)(a:List UInt8)(b:Int):bF (th s_ a k b)=IH k s_ a b (s_.length:Int):=(ek ⟨rfl,trivial⟩).symm
def Yg(F:Nat):bs bd:=(Yf F).dL 63 0 F ⟨[0,1,7,8],[.p (.l 37),.f 64 [.B 0],l7,l7],[.c 9 [.s]],
 [⟨⟨.nm,[],[],[.c 9 [.s]]⟩,Unit,λ d r=>((),((d.2.1.1,()),()))⟩,
  ⟨⟨.rt,[4],[l7],[.c 9 [.s]]⟩,Int,λ d r=>((r,()),((d.2.1.1,()),()))⟩],
 λ k d=>IH k d.1.1 d.2.1.1 d.1.2.2.2.1 d.1.2.2.1⟩ (c0.dT (λ d=>ej) λ k aN aO q h=>by
 obtain⟨(a:List ad.ap),⟨_,_⟩,(v1:Int),(b:Int),_⟩:=aN
 obtain⟨⟨(c:List UInt8),_⟩,_⟩:=aO
 obtain⟨e,_⟩:=en h
 dsimp only at e
 obtain⟨rfl,_⟩:=e
 conv=>rhs;change fe (α:=Unit⊕Int) _ (IH (k+1) a c b (a.length:Int));rw[<-Mh (k+1) a c b];simp only[th,b8,Mh];simp only[dB]
 kernel_rfl)
def Yh(F:Nat):bs bd:=(Yg F).rt 63 ⟨[.p (.l 37),.f 64 [.B 0]],[.c 9 [.s]],[l7],[.c 9 [.s]],Int,λ d=>Fh F d.1.1 d.2.1.1,λ d r=>((r,()),((d.2.1.1,()),()))⟩ λ aN aO=>by
 obtain⟨(a:List ad.ap),⟨_,_⟩,_⟩:=aN;obtain⟨⟨(v1:List UInt8),_⟩,_⟩:=aO;conv=>rhs;simp only[Fh,b8,Mh]
 kernel_rfl
def Yi(F:Nat):bs bd:=(Yh F).rt 38 ⟨[LF,.p (.s)],[],[l7,me],[],Int×Bool,λ d=>sl F (tp d.1.1) d.1.2.1,λ d r=>((r.1,r.2,()),())⟩ λ aN aO=>by
 conv=>rhs;simp only[sl,b8]
 kernel_rfl
set_option maxRecDepth 100000
@[reducible] def xz:bx:=.c 88 [.l 37,.l 3,.l 34,.l 77,.l 78]
@[reducible] def sZ:cG:=.a [.l 37,.l 3,.l 34,.l 77,.l 78]
abbrev B6:=(List ap×List Int×List (List ad.Field)×List (List (List UInt8))×List (List ad.Target)×Unit)
def Fz(F:Nat)(c:List ap)(d:List Int)(e:List (List ad.Field))(f:List (List (List UInt8)))(g:List (List ad.Target))(a:Int)(b:List UInt8):Option ((Int×Unit)×Unit):=cond (decide (a<1)||decide (6<a)|| !(decide (a=3)||decide (a=4))&& !decide (b=[])) (some ((7,()),())) (
cond (decide (a=3)||decide (a=4)) ((sl F (c4.mk c d e f g) b).bind λ h=>
cond (!h.2) (some ((5,()),())) (
some ((0,()),()))) (
some ((0,()),())))
def Yj(F:Nat):bs bd:=(Yi F).fn 58 ⟨[sZ,.a [mw,.s]],[],[l7],[],λ d=>Fz F d.1.1.1 d.1.1.2.1 d.1.1.2.2.1 d.1.1.2.2.2.1 d.1.1.2.2.2.2.1 d.1.2.1.1 d.1.2.1.2.1⟩ λ aN aO=>by kernel_rfl
def pg(F:Nat):Nat->(List Kind)->(Int)->(Int)->(List ap)->(List Int)->(List (List ad.Field))->(List (List (List UInt8)))->(List (List ad.Target))->(List ap)->(List Int)->(List (List ad.Field))->(List (List (List UInt8)))->(List (List ad.Target))->Option ((Unit×Int×Unit)×
    B6×B6×Unit⊕
 (Unit×Unit×Unit)×
  B6×B6×Unit)
 |0,_,_,_,_,_,_,_,_,_,_,_,_,_=>none
 |dC+1,g,h,f,i,j,k,l,m,a,b,c,d,e=>cond (decide (f<h)) ((idx g f).bind λ n=>
(Fz F a b c d e n.Kind n.ap).bind λ o=>
cond (!decide (o.1.1=0)) (some (.inl (((),o.1.1,()),(a,b,c,d,e,()),(a,b,c,d,e,()),()))) (
pg F dC g h (bj (f+1)) i j k l m a b c d e)) (
some (.inr (((),(),()),(i,j,k,l,m,()),(a,b,c,d,e,()),())))
def Yk(F:Nat):bs bd:=(Yj F).KH 35 0 F ⟨[4,6,19,20,21],[.p (.B 0),.p (.B 1),.p (.l 40),l7,l7],[xz,xz],[⟨.rt,[4,5],[.p (.B 0),l7],[xz,xz]⟩,⟨.nm,[4,6],[.p (.B 0),.p (.B 1)],[xz,xz]⟩],λ k d=>pg F k d.1.2.2.1 d.1.2.2.2.1 d.1.2.2.2.2.1 d.2.1.1 d.2.1.2.1 d.2.1.2.2.1 d.2.1.2.2.2.1 d.2.1.2.2.2.2.1 d.2.2.1.1 d.2.2.1.2.1 d.2.2.1.2.2.1 d.2.2.1.2.2.2.1 d.2.2.1.2.2.2.2.1⟩ ⟨λ d=>by kernel_rfl,λ k aN aO=>by kernel_rfl⟩
def BD(F:Nat)(c:List ap)(d:List Int)(e:List (List ad.Field))(f:List (List (List UInt8)))(g:List (List ad.Target))(h:List Kind):Option ((B6×Int×Unit)×Unit):=(sk F (c4.mk c d e f g)).bind λ i=>
cond (!decide (i=0)) (some (((c,d,e,f,g,()),i,()),())) (
dx (pg F F h (↑h.length:Int) 0 [] [] [] [] [] c d e f g) (λ a=>
some (((a.2.1.1,a.2.1.2.1,a.2.1.2.2.1,a.2.1.2.2.2.1,a.2.1.2.2.2.2.1,()),a.1.2.1,()),())) (λ b=>
some (((b.2.2.1.1,b.2.2.1.2.1,b.2.2.1.2.2.1,b.2.2.1.2.2.2.1,b.2.2.1.2.2.2.2.1,()),0,()),())))
def Yl(F:Nat):bs bd:=(Yk F).fn 35 ⟨[sZ,.p (.l 40)],[],[sZ,l7],[],λ d=>BD F d.1.1.1 d.1.1.2.1 d.1.1.2.2.1 d.1.1.2.2.2.1 d.1.1.2.2.2.2.1 d.1.2.1⟩ λ aN aO=>by kernel_rfl
def q5(F:Nat)(a:List ap)(b:List Int)(c:List (List ad.Field))(d:List (List (List UInt8)))(e:List (List ad.Target))(f:List UInt8):Option ((Int×Unit)×Unit):=(sl F (c4.mk a b c d e) f).bind λ g=>
some ((g.1,()),())
def Ym(F:Nat):bs bd:=(Yl F).fn 61 ⟨[sZ,.p (.s)],[],[l7],[],λ d=>q5 F d.1.1.1 d.1.1.2.1 d.1.1.2.2.1 d.1.1.2.2.2.1 d.1.1.2.2.2.2.1 d.1.2.1⟩ λ aN aO=>by kernel_rfl
def ald(F:Nat)(a:Int)(b:List UInt8):Option ((Bool×Unit)×Unit):=some (((!decide (a=1)&& !decide (a=6)),()),())
def Yo(F:Nat):bs bd:=(Ym F).fn 62 ⟨[.a [mw,.s]],[],[me],[],λ d=>ald F d.1.1.1 d.1.1.2.1⟩ λ aN aO=>by kernel_rfl
def tr(F:Nat)(e:List ap)(f:List Int)(g:List (List ad.Field))(h:List (List (List UInt8)))(i:List (List ad.Target))(c:Int)(d:List UInt8)(a:Int)(b:List UInt8):Option ((Bool×Unit)×Unit):=cond (match true with
|true=>decide (Kind.mk c d=Kind.mk a b)
|false=>!decide (Kind.mk c d=Kind.mk a b)) (some ((true,()),())) (
cond (match true with
|true=>decide (Kind.mk a b=Kind.mk 6 [])
|false=>!decide (Kind.mk a b=Kind.mk 6 [])) (some ((true,()),())) (
cond (match true with
|true=>decide (Kind.mk c d=Kind.mk 5 [])
|false=>!decide (Kind.mk c d=Kind.mk 5 [])) (some (((match false with
|true=>decide (Kind.mk a b=Kind.mk 1 [])
|false=>!decide (Kind.mk a b=Kind.mk 1 [])),()),())) (
cond (decide (c=3)&&decide (a=3)) ((q5 F e f g h i d).bind λ j=>
(q5 F e f g h i b).bind λ k=>
(sm F (c4.mk e f g h i) j.1.1 k.1.1).bind λ l=>
some ((l,()),())) (
cond (match true with
|true=>decide (Kind.mk a b=Kind.mk 3 [79,98,106,101,99,116])
|false=>!decide (Kind.mk a b=Kind.mk 3 [79,98,106,101,99,116])) (some (((!decide (c=1)&& !decide (c=6)),()),())) (
some ((false,()),()))))))
def Yp(F:Nat):bs bd:=(Yo F).fn 37 ⟨[sZ,.a [mw,.s],.a [mw,.s]],[],[me],[],λ d=>tr F d.1.1.1 d.1.1.2.1 d.1.1.2.2.1 d.1.1.2.2.2.1 d.1.1.2.2.2.2.1 d.1.2.1.1 d.1.2.1.2.1 d.1.2.2.1.1 d.1.2.2.1.2.1⟩ λ aN aO=>by kernel_rfl
def pf(F:Nat)(b:List ap)(c:List Int)(d:List (List ad.Field))(e:List (List (List UInt8)))(f:List (List ad.Target))(h:Int)(i:List UInt8)(j:Int)(k:List UInt8):Option ((Bool×Int×Unit)×Unit):=(BD F b c d e f [Kind.mk h i,Kind.mk j k]).bind λ a=>
cond (!decide (a.1.2.1=0)) (some ((false,a.1.2.1,()),())) (
(tr F a.1.1.1 a.1.1.2.1 a.1.1.2.2.1 a.1.1.2.2.2.1 a.1.1.2.2.2.2.1 h i j k).bind λ g=>
some ((g.1.1,0,()),()))
def Yq(F:Nat):bs bd:=(Yp F).fn 15 ⟨[sZ,.a [mw,.s],.a [mw,.s]],[],[me,l7],[],λ d=>pf F d.1.1.1 d.1.1.2.1 d.1.1.2.2.1 d.1.1.2.2.2.1 d.1.1.2.2.2.2.1 d.1.2.1.1 d.1.2.1.2.1 d.1.2.2.1.1 d.1.2.2.1.2.1⟩ λ aN aO=>by kernel_rfl
def alc(F:Nat)(a:List UInt8):Option (((Int×List UInt8×Unit)×Unit)×Unit):=some (((3,a,()),()),())
def Yr(F:Nat):bs bd:=(Yq F).fn 59 ⟨[.p (.s)],[],[.a [mw,.s]],[],λ d=>alc F d.1.1⟩ λ aN aO=>by kernel_rfl
def BE(F:Nat)(a:List ap)(d:List Int)(e:List (List ad.Field))(f:List (List (List UInt8)))(g:List (List ad.Target))(b:Int)(h:List UInt8)(c:Int)(i:List UInt8):Option (((Int×List UInt8×Unit)×Unit)×Unit):=(tr F a d e f g c i b h).bind λ j=>
cond j.1.1 (some (((b,h,()),()),())) (
(tr F a d e f g b h c i).bind λ k=>
cond k.1.1 (some (((c,i,()),()),())) (
cond (decide (b=3)&&decide (c=3)) ((q5 F a d e f g h).bind λ l=>
(q5 F a d e f g i).bind λ m=>
(xa F (c4.mk a d e f g) l.1.1 m.1.1).bind λ n=>
(idx a n).bind λ o=>
some (((3,o.Name,()),()),())) (
cond (!decide (b=1)&& !decide (b=6)) (cond (!decide (c=1)&& !decide (c=6)) (some (((3,([79,98,106,101,99,116]),()),()),())) (
some (((6,([]),()),()),()))) (
some (((6,([]),()),()),())))))
def Ys(F:Nat):bs bd:=(Yr F).fn 36 ⟨[sZ,.a [mw,.s],.a [mw,.s]],[],[.a [mw,.s]],[],λ d=>BE F d.1.1.1 d.1.1.2.1 d.1.1.2.2.1 d.1.1.2.2.2.1 d.1.1.2.2.2.2.1 d.1.2.1.1 d.1.2.1.2.1 d.1.2.2.1.1 d.1.2.2.1.2.1⟩ λ aN aO=>by kernel_rfl
def BC(F:Nat)(b:List ap)(c:List Int)(alD:List (List ad.Field))(d:List (List (List UInt8)))(e:List (List ad.Target))(f:Int)(g:List UInt8)(h:Int)(i:List UInt8):Option (((Int×List UInt8×Unit)×Int×Unit)×Unit):=(BD F b c alD d e [Kind.mk f g,Kind.mk h i]).bind λ a=>
cond (!decide (a.1.2.1=0)) (some (((0,([]),()),a.1.2.1,()),())) (
(BE F a.1.1.1 a.1.1.2.1 a.1.1.2.2.1 a.1.1.2.2.2.1 a.1.1.2.2.2.2.1 f g h i).bind λ j=>
some (((j.1.1.1,j.1.1.2.1,()),0,()),()))
def Yt(F:Nat):bs bd:=(Ys F).fn 14 ⟨[sZ,.a [mw,.s],.a [mw,.s]],[],[.a [mw,.s],l7],[],λ d=>BC F d.1.1.1 d.1.1.2.1 d.1.1.2.2.1 d.1.1.2.2.2.1 d.1.1.2.2.2.2.1 d.1.2.1.1 d.1.2.1.2.1 d.1.2.2.1.1 d.1.2.2.1.2.1⟩ λ aN aO=>by kernel_rfl
end Go.Proofs.YtifhjkbiiekamaaDoor
namespace a8
open Go Go.RowKit aA ad Go.ChangeMaps
section
variable{P:Program}{ops:Array Oper}{o:Oper}{rest:List Oper}{a:Act}{w w':World}{v:Value}{Q:Exit->Act->World->Prop}
theorem m2(b:o.guard=none)(hy:aS P o a w v w')(k:wpList P ops Q rest (a.put o.dst v) w'):wpList P ops Q (o::rest) a w:=by refine wpList_plain b λ d c=>?_;unfold Oper.wp;rw[show(execOp a.eval o).run P w= .ok (.value v) w' from hy];exact c _ _ k
structure Od (w:World) (r bm since clock:Nat) (es:Array MapEntry) (acc:List MapEntry):Prop where
 it:∃dS,since<=dS/\w.heap[r]? =some (.mapIter (some bm) since ⟨acc.map (·.born)⟩ dS)
 mp:w.heap[bm]? =some (.map es clock)
theorem ah4{l:List MapEntry}(h:(l.map (·.born)).Nodup):∀ {x y:MapEntry},x∈l->y∈l->x.born=y.born->x=y:=by
 induction l with
 |nil=>intro x y b;simp at b
 |cons z r g=>intro x y b hy e;rw[fA]at h;have c:=jr.1 h;rcases dc.1 b with ex |kT;rcases dc.1 hy with d |qf;rw[ex,d];refine absurd ?_ c.1;rw[<-ex,e];exact kK (f:=(·.born)) qf;rcases dc.1 hy with d |qf;refine absurd ?_ c.1;rw[<-d,<-e];exact kK (f:=(·.born)) kT;exact g c.2 kT qf e
theorem Lg{α β:Type}{f:α->β}:∀ {l:List α},(l.map f).Nodup->l.Nodup
 |[],_=>List.nodup_nil
 |a::r,h=>by have b:=jr.1 (show(f a::r.map f).Nodup from h);exact jr.2 ⟨λ c=>b.1 (kK c),Lg b.2⟩
theorem TL:∀ {o Y:List Nat},o.Nodup->(∀a∈o,a∈Y)->o.length<=Y.length
 |[],Y,_,_=>hh _
 |a::r,Y,c,d=>by have c:=jr.1 c;have f:a∈Y:=d a (by simp);have I:=TL (o:=r) (Y:=Y.erase a) c.2 λ b ag=>(List.mem_erase_of_ne λ e=>by subst e;exact c.1 ag).2 (d b (by simp[ag]));rw[List.length_erase_of_mem f]at I;have:0<Y.length:=List.length_pos_of_mem f;simp only[df];omega
theorem afy{es:List MapEntry}{acc:List MapEntry}(c:(es.map (·.born)).Nodup)(h:(acc.map (·.born)).Nodup)(d:∀e∈acc,e∈es)(i:∀e∈es,e.born∈acc.map (·.born)):acc.Perm es:=by
 have b:acc.Nodup:=Lg h;have ne:es.Nodup:=Lg c;refine(List.perm_ext_iff_of_nodup b ne).2 λ e=>⟨d e,λ f=>?_⟩
 obtain⟨x,g,j⟩:=jP.1 (i e f);have:=ah4 c (d x g) f j;exact this▸g
def MA(pE tX gG qU:Nat)(tok:Nat)(iD lR k2 jL lS:Oper)(c:Code):Code:= .block pE (.loop (.seq (.region gG #[iD,lR] false) (.seq (.cond (.tmp tok) .skip (.exit pE)) (.block tX (.seq (.region qU #[k2,jL,lS] false) c)))))
theorem ic{d:Option Nat}{v:Value}:(a.put d v).tmps.size=a.tmps.size:=by cases d<;>simp[Act.put]
theorem j3{d t:Nat}{v:Value}(h:d≠t):(a.put (some d) v).tmps.getD t undef=a.tmps.getD t undef:=by simp only[Act.put,dP,eb,lW h]
theorem mo{d:Nat}{v:Value}(h:d<a.tmps.size):(a.put (some d) v).tmps.getD d undef=v:=by rw[rW h,lX rfl]
theorem nn{t:Nat}:a.eval (.tmp t)=a.tmps.getD t undef:=rfl
def oh(l:List Nat)(a a':Act):Prop:=a'.tmps.size=a.tmps.size/\a'.defers=a.defers/\∀t,t∉l->a'.tmps.getD t undef=a.tmps.getD t undef
theorem oh.refl{l:List Nat}{a:Act}:oh l a a:=⟨rfl,rfl,λ _ _=>rfl⟩
theorem oh.put{l:List Nat}{a a':Act}{d:Nat}{v:Value}(h:oh l a a')(aE:d∈l):oh l a (a'.put (some d) v):=⟨ic.trans h.1,h.2.1,λ t b=>by rw[j3 (λ(e:d=t)=>b (by rw[<-e];exact aE))];exact h.2.2 t b⟩
theorem afz{n pE tX gG qU r bm since clock ti tn tok te tk tv:Nat}{iD lR k2 jL lS:Oper}{c:Code}{es:Array MapEntry}(f:List MapEntry->Act->World->Prop)
 (pW:iD.op= .next (.tmp ti) false/\iD.dst=some tn/\iD.guard=none)(aP:lR.op= .extract (.tmp tn) 0/\lR.dst=some tok/\lR.guard=none)
 (B:k2.op= .entry (.tmp ti)/\k2.dst=some te/\k2.guard=none)(bX:jL.op= .extract (.tmp te) 0/\jL.dst=some tk/\jL.guard=none)(mr:lS.op= .assign (.tmp tk)/\lS.dst=some tv/\lS.guard=none)
 (ag:(eM tn n&&eM tok n&&eM te n&&eM tk n)=true)(bE:(!(bT tn ti)&& !(bT tok ti)&& !(bT te ti)&& !(bT tk ti)&& !(bT tok tn)&& !(bT tk te))=true)
 (l:∀x∈es.toList,x.born<since)(C:since<=clock)(mx:(es.toList.map (·.born)).Nodup)
 (D:∀acc a w,f acc a w->a.tmps.size=n/\a.tmps.getD ti undef= .pointer (some ⟨r,0,none⟩)/\Od w r bm since clock es acc/\(acc.map (·.born)).Nodup/\∀e∈acc,e∈es.toList)
 (E:∀acc e a a' w w',f acc a w->e∈es.toList->e.born∉acc.map (·.born)->oh [tn,tok,te,tk,tv] a a'->(tv<n->a'.tmps.getD tv undef=e.key)->aY [r] w w'->w'.heap.size=w.heap.size->(∃dS,since<=dS/\w'.heap[r]? =some (.mapIter (some bm) since ⟨(acc++[e]).map (·.born)⟩ dS)) ->
  c.wp P (λ x a' w'=>x= .normal/\f (acc++[e]) a' w') a' w')
 (nv:∀acc a a' w,f acc a w->acc.Perm es.toList->oh [tn,tok] a a'->Q .normal a' w)(aJ:f [] a w):(MA pE tX gG qU tok iD lR k2 jL lS c).wp P Q a w:=by
 simp only[bL,gI]at ag bE
 obtain⟨⟨⟨q,s⟩,F⟩,G⟩:=ag
 have q:tn<n:=bW q
 have s:tok<n:=bW s
 have F:te<n:=bW F
 have G:tk<n:=bW G
 obtain⟨⟨⟨⟨⟨H,K⟩,TI⟩,an9⟩,an_⟩,an'⟩:=bE
 have H:tn≠ti:=λ e=>by subst e;simp at H
 have K:tok≠ti:=λ e=>by subst e;simp at K
 have TI:te≠ti:=λ e=>by subst e;simp at TI
 obtain⟨r2,RV,RW⟩:=pW
 obtain⟨RO,RQ,RR⟩:=aP
 obtain⟨L,M,N⟩:=B
 obtain⟨pR,pS,pT⟩:=bX
 obtain⟨O,R,S⟩:=mr
 unfold MA
 refine wp_block (wp_loop_ghost (λ m a w=>∃acc,f acc a w/\m=es.size-acc.length) _ ⟨[],aJ,rfl⟩ λ m a w hm=>?_)
 obtain⟨acc,hi,w2⟩:=hm
 obtain⟨sz,SB,⟨⟨dS,jz,t⟩,u⟩,aI,ao⟩:=D acc a w hi
 refine wp_seq (wp_region_list ?_)
 have gS:a.eval (.tmp ti)= .pointer (some ⟨r,0,none⟩):=SB
 rcases run_next_at (P:=P) w iD.type r bm since dS ⟨acc.map (·.born)⟩ es clock t u l jz with⟨au,y⟩|⟨e,g,bV,A,y⟩
 ·have T:aS P iD a w (.tuple #[.bool false]) w:=by
   simp only[aS,execOp,r2,gS,Sem.run_bind,y,Result.andThen];rfl
  refine m2 RW T ?_;rw[RV];refine m2 RR (B5 (vs:=[.bool false]) (i:=0) (v:=.bool false) RO (by rw[nn,mo (by rw[sz];exact q)]) rfl) ?_;rw[RQ];have U:(((a.put (some tn) (.tuple #[.bool false])).put (some tok) (.bool false)).eval (.tmp tok))= .bool false:=by rw[nn,mo (by rw[ic,sz];exact s)]
  refine wp_seq (wp_cond_split U (λ h=>by cases h) λ _=>wp_exit ?_);simp only[Exit.then,Exit.inBlock,if_true];refine nv acc a _ w hi (afy mx aI ao λ e g=>?_) ((oh.refl.put (by simp)).put (by simp));have p8:leftOf es ⟨acc.map (·.born)⟩= #[]:=Array.eq_empty_of_size_eq_zero au;apply Classical.byContradiction;intro hc;have:e∈(leftOf es ⟨acc.map (·.born)⟩).toList:=by unfold leftOf;simp only[Array.toList_filter,List.mem_filter];exact⟨g,by simpa using hc⟩
  rw[p8]at this;simp at this
 ·have I_:e∈es.toList/\e.born∉acc.map (·.born):=by
   unfold leftOf at g;simp only[Array.toList_filter,List.mem_filter]at g;exact⟨g.1,by simpa using g.2⟩
  obtain⟨r4,Jy⟩:=I_;obtain⟨b,d⟩:∃b,b=setBlock bV r (.mapIter (some bm) since ((⟨acc.map (·.born)⟩:Array Nat).push e.born) clock):=⟨_,rfl⟩
  rw[<-d]at y;have V:bV.heap=w.heap:=by rcases A with rfl |rfl<;>rfl
  have W:r<w.heap.size:=by rcases gE r w.heap.size with h |h;exact h;rw[hI h]at t;cases t
  have X:((⟨acc.map (·.born)⟩:Array Nat).push e.born)=⟨(acc++[e]).map (·.born)⟩:=by simp
  have qa:b.heap[r]? =some (.mapIter (some bm) since ((⟨acc.map (·.born)⟩:Array Nat).push e.born) clock):=by rw[d];simp only[setBlock,V];rw[eb,lX rfl,lX W]
  have Sr:∀k,k≠r->b.heap[k]? =w.heap[k]? :=λ k Z=>by rw[d];simp only[setBlock,V];rw[eb,lW (λ e=>Z e.symm)]
  have ac6:bm≠r:=λ e=>by rw[e,t]at u;cases u
  have z5:b.heap.size=w.heap.size:=by rw[d];simp[setBlock,V]
  have nt:aY [r] w b:=⟨by rw[d];rcases A with rfl |rfl<;>rfl,by rw[d];rcases A with rfl |rfl<;>rfl,by rw[d];rcases A with rfl |rfl<;>rfl,by rw[z5];exact da _,λ k _ Z=>Sr k (by simpa using Z)⟩
  have T:aS P iD a w (.tuple #[.bool true,e.key,e.val]) b:=by simp only[aS,execOp,r2,gS,Sem.run_bind,y,Result.andThen];rfl
  refine m2 RW T ?_;rw[RV];refine m2 RR (B5 (vs:=[.bool true,e.key,e.val]) (i:=0) (v:=.bool true) RO (by rw[nn,mo (by rw[sz];exact q)]) rfl) ?_;rw[RQ];have U:(((a.put (some tn) (.tuple #[.bool true,e.key,e.val])).put (some tok) (.bool true)).eval (.tmp tok))= .bool true:=by rw[nn,mo (by rw[ic,sz];exact s)]
  refine wp_seq (wp_cond_split U (λ _=>wp_skip ?_) λ h=>by cases h);refine wp_block (wp_seq (wp_region_list ?_));obtain⟨j,Ds⟩:∃j,j=(a.put (some tn) (.tuple #[.bool true,e.key,e.val])).put (some tok) (.bool true):=⟨_,rfl⟩
  rw[<-Ds];have MV:j.tmps.size=n:=by rw[Ds,ic,ic,sz]
  have aeN:j.eval (.tmp ti)= .pointer (some ⟨r,0,none⟩):=by rw[Ds,nn,j3 K,j3 H];exact SB
  have adu:=run_entry_at (P:=P) b r bm since ⟨acc.map (·.born)⟩ es clock e qa (by rw[Sr bm ac6];exact u) r4 mx;have rc:aS P k2 j b (.tuple #[e.key,e.val]) b:=by simp only[aS,execOp,L,aeN,Sem.run_bind,adu,Result.andThen];rfl
  refine m2 N rc ?_;rw[M];refine m2 pT (B5 (vs:=[e.key,e.val]) (i:=0) (v:=e.key) pR (by rw[nn,mo (by rw[MV];exact F)]) rfl) ?_;rw[pS];refine m2 S (FY O (v:=e.key) (by rw[nn,mo (by rw[ic,MV];exact G)])) ?_;rw[R];have my:oh [tn,tok,te,tk,tv] a (((j.put (some te) (.tuple #[e.key,e.val])).put (some tk) e.key).put (some tv) e.key):=by rw[Ds];exact((((oh.refl.put (by simp)).put (by simp)).put (by simp)).put (by simp)).put (by simp)
  have:=E acc e a _ w b hi r4 Jy my (λ JQ=>mo (by rw[ic,ic,MV];exact JQ)) nt z5 ⟨clock,C,by rw[qa,X]⟩;refine Code.wp_mono (λ x a' w' p=>?_) this;obtain⟨rfl,p⟩:=p;refine⟨es.size- (acc++[e]).length,?_,acc++[e],p,rfl⟩;have bh:acc.length<es.size:=by
   have I:((acc++[e]).map (·.born)).Nodup:=(D _ _ _ p).2.2.2.1;have J:=TL I (Y:=es.toList.map (·.born)) λ x aa=>by obtain⟨z,ah,rfl⟩:=jP.1 aa;exact kK ((D _ _ _ p).2.2.2.2 z ah)
   simp at J;omega
  simp;omega
end
open Go Go.RowKit aA ad
section
variable{E:Env}
@[reducible] def aod{T:bA}(eJ:List Nat)(a_:List cG)(pbs:List bx)(a:iK)(fn:cQ T.El a_×cg T.El pbs->Option (yi T.El a)):g2 T:=⟨eJ,a_,pbs,[a],λ _ d=>fn d⟩
end
section
variable{E:Env}{a0:dN E}{W:World}{ar:List Nat}{X:Nat->Prop}{n:b'}{b0:List (ay E.T.El)}{ρ0:List Value}{w0:World}{ops:Array Oper}{Q:Exit->Act->World->Prop}
theorem EB(j:cv E)(m:gA E a0){b:List Oper}:∀(os:List Oper){s:c1 E.T.El}{t:bS E.T.El}{ρ:List Value}{a:Act}{w:World},(opsL E a0 ops n.n os s).out t->t.x= .nm->dl E W ar X n b0 ρ0 w0 s ρ a w->(∀ρ' a' w',dl E W ar X n b0 ρ0 w0 t.s ρ' a' w'->wpList E.P ops Q b a' w')->wpList E.P ops Q (os++b) a w
 |[],s,t,ρ,a,w,e,_,h,k=>by have e:(⟨.nm,s⟩:bS E.T.El)=t:=e;subst e;exact k ρ a w h
 |o::r,s,t,ρ,a,w,e,i,h,k=>by
  simp only[opsL]at e;show wpList E.P ops Q (o::(r++b)) a w
  split at e
  ·obtain⟨q,I,J⟩:=D.e1 e;rw[mQ]at J;obtain⟨d,aE,u,p,hy⟩:=LJ (ops:=ops) j h.r I;have next:=EB j m r J i (ρ:=ρ) (a:=a.put (some d) u) (w:=w) ⟨p,h.to,h.wr⟩ k
   refine wpList_step λ K v=>?_;rcases hy with⟨f,hy⟩|⟨f,hy⟩
   ·rw[lX f];unfold Oper.wp;rw[show(execOp a.eval o).run E.P w=_ from hy.now];show K (a.put o.dst u) w
    rw[aE];exact v _ _ next
   ·rw[lW (by simp[f]),aE,<-hy];exact v _ _ next
  ·exact e.elim
  ·obtain⟨c,I,J⟩:=D.e1 e;have g:=NI j m h.r I
   have g:=g (wpList E.P ops Q (r++b)) Q λ ρ' a' w' p x f _=>by
    have z:=h.next p x f;cases l:c.x with
    |nm=>rw[l]at J;simp only[mQ,vf]at J;exact EB j m r J i z k
    |ex id=>rw[l]at J;have J:(⟨.ex id,c.s.f,c.s.bl,c.s.ws++s.ws⟩:bS E.T.El)=t:=J;subst J;cases i
    |rt=>rw[l]at J;have J:(⟨.rt,c.s.f,c.s.bl,c.s.ws++s.ws⟩:bS E.T.El)=t:=J;subst J;cases i
    |eI y=>rw[l]at J;have J:(⟨.eI y,c.s.f,c.s.bl,c.s.ws++s.ws⟩:bS E.T.El)=t:=J;subst J;cases i
   unfold wpList;split;rename_i f;rw[lX f]at g;exact .inl g;rename_i f;rw[lW f]at g;exact g
def Gd(E:Env):dN E:=λ _ _ _=>.no
theorem Q6:gA E (Gd E):=⟨λ _ _ _ _ h=>h.elim⟩
end
structure tG where
 MB:Nat
 ops:Array Oper
 pE:Nat
 tX:Nat
 gG:Nat
 qU:Nat
 tok:Nat
 iD:Oper
 lR:Oper
 k2:Oper
 jL:Oper
 lS:Oper
 GD:Nat
 AO:Array Oper
 h3:Nat
 xI:Array Oper
def tG.x(d:tG):Code:=.seq (.region d.MB d.ops false) (MA d.pE d.tX d.gG d.qU d.tok d.iD d.lR d.k2 d.jL d.lS (.region d.GD d.AO false))
def tG.r(d:tG):Code:=.region d.h3 d.xI false
def EF:Code->Code->Option tG
 | .seq (.region MB ops false) (.block pE (.loop (.seq (.region gG ⟨[iD,lR]⟩ false) (.seq (.cond (.tmp tok) .skip (.exit a)) (.block tX (.seq (.region qU ⟨[k2,jL,lS]⟩ false) (.region GD AO false))))))),.region h3 xI false=>match bT pE a with
   |true=>some ⟨MB,ops,pE,tX,gG,qU,tok,iD,lR,k2,jL,lS,GD,AO,h3,xI⟩
   |false=>none
 |_,_=>none
theorem aim{x r:Code}{d:tG}(h:EF x r=some d):x=d.x/\r=d.r:=by unfold EF at h;split at h;split at h;rename_i ag;cases h;rw[<-aZ ag];exact⟨rfl,rfl⟩;cases h;cases h
def lH(e:MapEntry):Int:=match e.key with
 | .int _ x=>x
 |_=>0
def mq{El:Nat->Type}(f:b5 El)(s:Nat):Option Value:=match c6 f.aQ s with
 |some (.p v)=>some v
 |_=>none
section
variable{T:bA}{W w w':World}{ar:List Nat}{X:Nat->Prop}{bl bl':List (ay T.El)}{ρ ρ':List Value}
theorem Mem.abm{M:List Nat}(h:Mem T W ar X bl ρ w)(h':Mem T W ar X bl' ρ' w')(a:w.heap.size<=w'.heap.size)(ag:∀k,k<w.heap.size->k∉M->w'.heap[k]? =w.heap[k]?):aY M w w':=⟨h'.bM.os.trans h.bM.os.symm,h'.bM.tape.trans h.bM.tape.symm,h'.bM.output.trans h.bM.output.symm,a,ag⟩
end
section
variable{E:Env}
structure n9 (T:bA) where
 a_:List cG
 pbs:List bx
 R:Type
 v:R->Value
 J9:Value->Option R
 fn:cQ T.El a_×cg T.El pbs->Option R
def n9.run(E:Env)(c:n9 E.T)(ys:List (aD E.T.El))(bl:List (ay E.T.El)):D (eO E.T.El):=match fZ [] c.a_ c.pbs bl ys with
 |(a,b)=>match gP a [] false c.a_ c.pbs b with
  |some (d,_)=>.op (c.fn d) λ x=>.ok ⟨.ret (.p (c.v x)),a,[]⟩
  |none=>.no
def n9.fin{T:bA}(c:n9 T)(r:eO T.El):Option c.R:=match r.e,r.ws with
 | .ret (.p u),[]=>c.J9 u
 |_,_=>none
def n9.Eq(E:Env)(a0:dN E)(LE:h7 E)(f:Nat)(c:n9 E.T):Prop:=∀(aN:cQ E.T.El c.a_)(aO:cg E.T.El c.pbs),(kE E a0 LE f (fa id (b7 false c.pbs) c.a_ aN) (bw id (b7 false c.pbs) false c.pbs aO)).run c.fin=c.fn (aN,aO)
theorem Zv{f:Nat}{a0:dN E}{LE:h7 E}(q:cv E)(s:gA E a0)(t:og E LE)(y:ik E){c:n9 E.T}(hi:∀u x,c.J9 u=some x->u=c.v x)(z:c.Eq E a0 LE f):iI E f (c.run E):=by
 intro ys A r b W ar X ρ0 w vs B C F;unfold n9.run at b;cases n:fZ [] c.a_ c.pbs A ys with
 |mk bl U=>
 rw[n]at b;obtain⟨ρ,j,o,G⟩:=ug B n F;simp only at b;split at b
 ·rename_i d sel H;obtain⟨aN,aO⟩:=d;obtain⟨x,I,J⟩:=b;have J:(⟨.ret (.p (c.v x)),bl,[]⟩:eO E.T.El)=r:=J;subst J;obtain⟨l,_,K⟩:=rX j tV H;obtain⟨fl,L⟩:=K (aW (io X bl ρ sel) (bw id (b7 false c.pbs) false c.pbs aO) (gd ρ sel) w) λ k a=>l.s4 a;have p:=l.enter j L;obtain⟨V,hb,h⟩:=D.qZ ((z aN aO).trans I);have M:=(C.to o).enter y λ k a=>l.s4 a;have hc:=((C9 q s t).ok _ _ _ _ hb).2 _ _ _ _ _ vs p M (fl vs G);refine hc.mono λ e w' N=>?_;obtain⟨Y,fz,O,P,g⟩:=N;unfold n9.fin at h;split at h
  ·rename_i u Q R;have S:=hi _ _ h;subst S;have m:aY [] w w':=p.abm fz O.sz λ k a _=>P k a λ i hi=>by rw[R]at hi;simp at hi
   refine⟨ρ,j.ep m,o.trans (Mem.Bv m),λ k a _=>m.block k a (by simp),?_⟩;rw[Q]at g;cases e with
   |returned v=>
    simp only[rD,aq]at g;have T:aq E.T (aW X bl ρ w') w' ρ bl (.p (c.v x)) v:=by simp only[aq];exact g
    exact T
   |panicked _=>exact g.elim
   |_=>exact g.elim
  ·cases h
 ·exact b.elim
def bs.rd(s:bs E)(f:Nat)(c:n9 E.T)(a:c.Eq E s.t.a0 s.t.LE f)(hi:∀u x,c.J9 u=some x->u=c.v x)(b:ev E.bU f=true:=by kernel_rfl):bs E:=⟨s.t.f f (c.run E),λ h=>(s.ok h).oj b (Zv h (kF h (s.ok h).ce (s.ok h).le 100) (s.ok h).le s.dW hi a),s.dW⟩
theorem dz.dF.abQ{t:dz E}(b:cv E)(h:t.dF){f:Nat}(d:ev E.bU f=true){c:g5 E.T}(hc:iI E f (c.run E)):(t.zc f c).dF:=by refine h.oj d λ ys bl r a=>?_;split at a;exact hc ys bl r a;exact((kF b h.ce h.le 100).ok f ys bl r a).2
def bs.dr(s:bs E)(f:Nat)(c:g5 E.T)(hc:iI E f (c.run E))(a:ev E.bU f=true:=by kernel_rfl):bs E:=⟨s.t.zc f c,λ h=>(s.ok h).abQ h a hc,s.dW⟩
structure Ci (T:bA) where
 eJ:List Nat
 a_:List cG
 pbs:List bx
 out:Nat
 R:Type
 v:R->Value
 fn:cQ T.El a_×cg T.El pbs->Option R
def Ci.run(E:Env)(c:Ci E.T)(s:c1 E.T.El):D (bS E.T.El):=match lT E s.bl s.f [] (c.eJ.map .tmp)with
 |some ys=>match fZ [] c.a_ c.pbs s.bl ys with
  |(a,b)=>match gP a [] false c.a_ c.pbs b with
   |some (d,_)=>.op (c.fn d) λ x=>.ok ⟨.nm,⟨⟨[(c.out,.p (c.v x))],[],[]⟩,a,s.ws⟩⟩
   |none=>.no
 |none=>.no
def Ci.Cj(E:Env)(n:b')(c:Ci E.T)(x r:Code):Prop:=
 ∀aN aO h3,c.fn (aN,aO)=some h3->∀(W:World)(ar:List Nat)(X:Nat->Prop)(ρ:List Value)(a:Act)(w:World),a.tmps.size=n.n->a.defers=n.ds->Told E W ar X c.eJ c.a_ c.pbs aN aO ρ a w false ->
  ∀(b:Code)(Q:Exit->Act->World->Prop),(∀(a':Act)(w':World),a'.tmps.size=n.n->a'.defers=n.ds->a'.tmps.getD c.out undef=c.v h3->aY [] w w'->b.wp E.P Q a' w')->(Code.seq x (.seq r b)).wp E.P Q a w
end
end a8
namespace aA
open Go Go.RowKit ad
def lm(f:Nat)(cs:List Value):Deferred:={ target:=.fn (.func f) cs.toArray,args:=#[] }
theorem aaK{P:Program}{f:FuncId}{fn:Func}{c:Code}{vs:List Value}{w:World}{R:Ending->World->Prop}{n:Nat}
 (b:P.funcs[f]? =some fn)(ag:fn.body=some c)(d:fn.ntmps=n)(e:hX vs.length n=true)
 (h:∀a,Fr ⟨n,[]⟩ (mi 0 vs) a->c.wp P (bodyPostD P fn R) a w):Calls P f vs.toArray w R:=by
 refine calls_of_wp_defers b ag ?_
 rw[d]
 exact h _ (Fr.init vs n e)
section
variable{P:Program}{ops:Array Oper}{Q:Exit->Act->World->Prop}{a:Act}{w:World}{rest:List Oper}{o:Oper}{l:List (Nat×Value)}{fn:Func}{R:Ending->World->Prop}{m:Nat}
theorem aft{f:Nat}{cs:List Value}(b:∀args w,(callFunc f args).run P w= .ok (.enter f args) w):(invoke (.fn (.func f) cs.toArray) #[]).run P w= .ok (.enter f cs.toArray) w:=by simp[invoke,b]
theorem vh{Q:Exit->Act->List Frame->World->Prop}{cs:List Frame}:∀(os:List Oper)(is:List Nat),is.map (λ i=>ops[i]?)=os.map some->(¬LetsOut λ e a w=>Q e a cs w)->∀a w,wpList P ops (λ e a w=>Q e a cs w) os a w->wpOpsS P ops Q is a cs w
 |[],[],_,_,a,w,h=>h
 |[],_::_,e,_,_,_,_=>by simp at e
 |_::_,[],e,_,_,_,_=>by simp at e
 |o::os,i::is,e,b,a,w,h=>by
  simp only[fA,hN]at e;simp only[wpOpsS,e.1];unfold wpList at h;split at h
  ·rename_i j;rw[lX j];rcases h with h |h
   ·unfold Oper.wp at h;generalize(execOp a.eval o).run P w=r at h;cases r with
    |ok k w'=>
     cases k with
     |recover=>exact h.elim
     |value v=>exact vh os is e.2 b _ _ h
     |skip=>exact vh os is e.2 b _ _ h
     | «defer» d=>exact vh os is e.2 b _ _ h
     |enter f args=>exact Calls.mono h (λ e' w'' g=>by cases e' with
      |returned v=>exact vh os is e.2 b _ _ g
      |panicked c=>exact g
      |outgrown=>exact absurd g b)
     |row n args=>exact Rows.mono h (λ v w'' g=>vh os is e.2 b _ _ g)
     |_=>exact h.elim
    |halt x w'=>cases x with
     |panic v=>exact h
     |_=>exact h.elim
   ·exact absurd h.2 b
  ·rename_i j;rw[lW j];exact vh os is e.2 b _ _ h
theorem vH{n p:Exit->Act->World->Prop}(b:∀e a w,n e a w->p e a w):∀(os:List Oper)(a:Act)(w:World),wpList P ops n os a w->wpList P ops p os a w
 |[],a,w,h=>b _ _ _ h
 |o::os,a,w,h=>by
  unfold wpList at h⊢;split
  ·rename_i i;rw[lX i]at h;rcases h with h |h
   ·left;unfold Oper.wp at h⊢;generalize(execOp a.eval o).run P w=r at h⊢;cases r with
    |ok q w'=>
     cases q with
     |value v=>exact vH b os _ _ h
     |skip=>exact vH b os _ _ h
     | «defer» d=>exact vH b os _ _ h
     |enter f args=>exact Calls.mono h (λ e' w'' g=>by cases e' with
      |returned v=>exact vH b os _ _ g
      |panicked c=>exact b _ _ _ g
      |outgrown=>obtain⟨a',j,k⟩:=g;exact⟨a',j,b _ _ _ k⟩)
     |row s args=>exact Rows.mono h (λ v w'' g=>vH b os _ _ g)
     |_=>exact h.elim
    |halt x w'=>cases x with
     |panic v=>exact b _ _ _ h
     |_=>exact h.elim
   ·right;obtain⟨a',j,k⟩:=h.2;exact⟨h.1,a',j,b _ _ _ k⟩
  ·rename_i i;rw[lW i]at h;exact vH b os _ _ h
theorem aj2{f:FuncId}{id:Nat}{b:Oper}{os:List Oper}{c:Code}{e4:Array TypeId}{d n:Nat}{vs:List Value}{v:Value}{u j:FrameMode}(z:P.funcs[f]? =some fn)(ag:fn.body=some (.seq (.region id (b::os).toArray false) c))(A:fn.ntmps=n)
 (B:hX vs.length n=true)(C:b.op= .call { callee:=.builtin .recover,args:=#[],argTypes:=e4 })(D:b.guard=none)(aE:b.dst=some d)(E:eM d n=true)
 (F:∀(g:Frame)(cs:List Frame),g.mode=u->(recoverD (g::cs)=none/\v= .nilIface/\j=u)\/recoverD (g::cs)=some (v,{ g with mode:=j }::cs))(dg:∀w,¬R .outgrown w)
 (h:∀a,Fr ⟨n,[]⟩ ((d,v)::mi 0 vs) a->wpList P (b::os).toArray (λ e a w=>e= .normal/\c.wp P (bodyPost P fn R) a w) os a w):CallsD P f vs.toArray u w λ e k w'=>k=j/\R e w':=by
 refine callsD_of_wpS z ag λ g cs hc=>?_
 rw[A]
 refine wpS_seq (wpS_region ?_)
 have G:fC (b::os).toArray.size=0::(fC os.length).map (·+1):=by simp[List.range_succ_eq_map]
 rw[G]
 have H:=Fr.init vs n B
 have p:∀y,Region.wanted b y=true:=λ y=>by simp[Region.wanted,D]
 have r:∀ρ w,(execOp ρ b).run P w= .ok .recover w:=λ ρ w=>by simp[execOp,C,resolve,invoke,builtin]
 have s:((fC os.length).map (·+1)).map (λ i=>(b::os).toArray[i]?)=os.map some:=by apply jF;intro i;simp only[List.map_map,j4,Function.comp];rcases gE i os.length with x |wV;simp[List.getElem?_range x,bu x];rw[gV (by simpa using wV),gV wV];rfl
 have go:∀t,(∃q,t= { g with mode:=q }::cs/\q=j)->wpOpsS P (b::os).toArray (Exit.thenS (c.wpS P (bodyPostS P fn g cs λ e k w'=>k=j/\R e w')) (bodyPostS P fn g cs λ e k w'=>k=j/\R e w')) ((fC os.length).map (·+1))
  (({ tmps:=vs.toArray++Array.replicate (n-vs.toArray.size) undef,defers:=[] }:Act).put b.dst v) t w:=by
  rintro t ⟨q,rfl,rfl⟩
  refine vh os _ s ?_ _ _ (vH ?_ os _ _ (h _ (by rw[aE];exact H.put E)))
  ·rintro⟨a',w',I⟩;obtain⟨_,J⟩:=I;exact dg _ J.2
  ·rintro e a' w' ⟨rfl,I⟩;refine wpS_of_wp (wp_mono I ?_);intro e K w'' J;cases e with
   |normal=>exact⟨J.1,q,rfl,J.2.choose,J.2.choose_spec.1,rfl,J.2.choose_spec.2⟩
   |ret=>exact⟨J.1,q,rfl,J.2.choose,J.2.choose_spec.1,rfl,J.2.choose_spec.2⟩
   |panic oq=>exact⟨J.1,q,rfl,rfl,J.2⟩
   |outgrown=>exact absurd J (dg _)
   |exit i=>exact J
   |goto i=>exact J
 simp only[wpOpsS]
 rw[show(b::os).toArray[0]? =some b from rfl]
 simp only[p,if_true,r]
 rcases F g cs hc with⟨I,rfl,rfl⟩|I
 ·rw[I];exact go _ ⟨j,by rw[<-hc],rfl⟩
 ·rw[I];exact go _ ⟨j,rfl,rfl⟩
theorem UW(b:Frame)(cs:List Frame)(h:b.mode= .returning):recoverD (b::cs)=none:=by simp[recoverD,h]
end
end aA
namespace a8
open Go Go.RowKit aA ad
def Bq:List Oper->Option (List Oper×Operand×List Oper)
 |[]=>none
 |o::r=>match o.op,o.dst,o.guard with
  | .defer ⟨.value a,⟨[]⟩,_⟩,none,none=>some ([],a,r)
  |_,_,_=>match Bq r with
   |some (p,a,q)=>some (o::p,a,q)
   |none=>none
theorem Vc:∀ {l p q:List Oper}{a:Operand},Bq l=some (p,a,q)->∃o e4,l=p++o::q/\o.op= .defer { callee:=.value a,args:=#[],argTypes:=e4 }/\o.dst=none/\o.guard=none
 |[],p,q,a,h=>by simp[Bq]at h
 |o::r,p,q,a,h=>by unfold Bq at h;split at h;rename_i b e4 I J c;simp only[aK,cY]at h;obtain⟨rfl,rfl,rfl⟩:=h;exact⟨o,e4,rfl,I,J,c⟩;split at h;rename_i g b i d;simp only[aK,cY]at h;obtain⟨rfl,rfl,rfl⟩:=h;obtain⟨f,e4,e,I⟩:=Vc d;exact⟨f,e4,by rw[e];rfl,I⟩;cases h
def Mu:Code->Option (Nat×Array Oper×List Oper×Code)
 | .seq (.region _ ⟨o::os⟩ false) c=>match o.op,o.dst,o.guard with
   | .call ⟨.builtin .recover,⟨[]⟩,_⟩,some d,none=>some (d,⟨o::os⟩,os,c)
   |_,_,_=>none
 |_=>none
theorem aj1{b c:Code}{d:Nat}{ops:Array Oper}{os:List Oper}(h:Mu b=some (d,ops,os,c)):∃id o e4,b= .seq (.region id ops false) c/\ops=(o::os).toArray/\o.op= .call { callee:=.builtin .recover,args:=#[],argTypes:=e4 }/\o.dst=some d/\o.guard=none:=by unfold Mu at h;split at h;rename_i id o a f;split at h;rename_i e4 d' I J e;simp only[aK,cY]at h;obtain⟨rfl,rfl,rfl,rfl⟩:=h;exact⟨id,o,e4,rfl,rfl,I,J,e⟩;cases h;cases h
section
variable(E:Env)(a0:dN E)(LE:h7 E)
def wu(h:Nat)(cs:List (aD E.T.El))(v:aD E.T.El)(bl:List (ay E.T.El)):D (List (ay E.T.El)×List Nat):=match ev E.bU h,E.P.funcs[h]? with
 |true,some fn=>match fn.body,hX cs.length fn.ntmps,fn.results with
  |some b,true,⟨[]⟩=>match Mu b with
   |some (d,ops,os,c)=>match eM d fn.ntmps with
    |true=>(opsL E a0 ops fn.ntmps os ⟨⟨(d,v)::ow 0 cs,[],[]⟩,bl,[]⟩).bind λ t=>match t.x with
     | .nm=>(den E a0 (LE h) fn.ntmps c t.s).bind λ a=>match a.x with
       | .nm=>.ok (a.s.bl,a.s.ws)
       | .rt=>.ok (a.s.bl,a.s.ws)
       |_=>.no
     |_=>.no
    |false=>.no
   |none=>.no
  |_,_,_=>.no
 |_,_=>.no
def CU(rs:List ResultVar)(h:Nat)(cs:List (aD E.T.El))(ws:List Nat)(t:bS E.T.El):D (eO E.T.El):=match t.x with
 | .ex _=>.no
 | .eI y=>(wu E a0 LE h cs y t.s.bl).bind λ q=>match qW E ⟨t.s.f,q.1,[]⟩ rs with
   |some ys=>.ok ⟨.ret (jM ys),q.1,q.2++(t.s.ws++ws)⟩
   |none=>.no
 |_=>(wu E a0 LE h cs (.p .nilIface) t.s.bl).bind λ q=>match qW E ⟨t.s.f,q.1,[]⟩ rs with
  |some ys=>.ok ⟨.ret (jM ys),q.1,q.2++(t.s.ws++ws)⟩
  |none=>.no
def HZ(d:jl E):dN E:=λ g ys bl=>match ev E.bU g,E.P.funcs[g]? with
 |true,some fn=>match fn.body,hX ys.length fn.ntmps with
  |some (.seq x (.seq (.region _ ops false) c)),true=>match Bq ops.toList with
   |some (pre,e,post)=>(den E a0 (λ _=>none) fn.ntmps x ⟨⟨ow 0 ys,[],[]⟩,bl,[]⟩).bind λ b=>match b.x with
    | .nm=>(opsL E a0 ops fn.ntmps pre b.s).bind λ t=>match t.x with
     | .nm=>match cd E t.s.bl t.s.f [] e with
       |some (.f (.func h) cs)=>(opsL E a0 ops fn.ntmps post ⟨t.s.f,t.s.bl,[]⟩).bind λ a=>match a.x with
        | .nm=>(den E a0 d fn.ntmps c a.s).bind (CU E a0 LE fn.results.toList h cs t.s.ws)
        |_=>CU E a0 LE fn.results.toList h cs t.s.ws a
       |_=>.no
     |_=>.no
    |_=>.no
   |none=>.no
  |_,_=>.no
 |_,_=>.no
end
theorem ZL{P:Program}{fn:Func}{R:Ending->World->Prop}{a:Act}{w:World}{f:Nat}{cs:List Value}{d:FrameMode}{S:World->Prop}(u:FrameMode)(x:Exit)(g:(x= .ret/\u= .returning)\/(x= .normal/\u= .returning)\/(∃c,x= .panic c/\u= .panicking c))(h:settle d= .returning)(aE:a.defers=[lm f cs])
 (i:∀args w,(callFunc f args).run P w= .ok (.enter f args) w)(j:CallsD P f cs.toArray u w (λ e b w'=>b=d/\(e= .returned (.tuple #[])/\S w')))
 (k:∀w',S w'->bodyPost P fn R .ret { a with defers:=[] } w'):bodyPostD P fn R x a w:=by
 have key:Leaves P fn a.tmps R a.defers u w:=by
  rw[aE];have l:u≠ .run:=by rcases g with⟨_,rfl⟩|⟨_,rfl⟩|⟨c,_,rfl⟩<;>simp
  refine leaves_cons l (aft i) (j.mono ?_);rintro e b w' ⟨rfl,rfl,m⟩;have:=k w' m;show Leaves P fn a.tmps R [] (settle b) w'
  rw[h];exact this.2
 rcases g with⟨rfl,rfl⟩|⟨rfl,rfl⟩|⟨c,rfl,rfl⟩
 ·exact key
 ·exact key
 ·exact key
theorem aj3{v:Value}(a:Frame)(cs:List Frame)(h:a.mode= .panicking [{ v,recovered:=false }]):recoverD (a::cs)=some (v,{ a with mode:=.panicking [{ v,recovered:=true }] }::cs):=by simp[recoverD,h]
section
variable{E:Env}{a0:dN E}{LE:h7 E}{W:World}{ar:List Nat}{X:Nat->Prop}
theorem Zp(H:cv E)(K:gA E a0)(S:og E LE){h:Nat}{cs:List (aD E.T.El)}{y:aD E.T.El}{bl:List (ay E.T.El)}{q:List (ay E.T.El)×List Nat}(f:(wu E a0 LE h cs y bl).out q)
 {ρ:List Value}{w:World}{us:List Value}{v:Value}(T:Mem E.T W ar X bl ρ w)(U:il E X bl ρ w)(L:aR E.T (aW X bl ρ w) w ρ bl cs us)(V:aq E.T (aW X bl ρ w) w ρ bl y v){u B:FrameMode}
 (Y:∀(m:Frame)(cs:List Frame),m.mode=u->(recoverD (m::cs)=none/\v= .nilIface/\B=u)\/recoverD (m::cs)=some (v,{ m with mode:=B }::cs)) :
 CallsD E.P h us.toArray u w λ e Z w'=>Z=B/\(e= .returned (.tuple #[])/\∃ρ',Mem E.T W ar X q.1 ρ' w'/\To X bl q.1 ρ ρ' w w'/\ew bl ρ w w' q.2):=by
 unfold wu at f
 split at f
 ·rename_i fn ax M;have zG:=lE ax;split at f
  ·rename_i b ag p0 DJ;split at f
   ·rename_i d ops os c eA;split at f
    ·rename_i I8;obtain⟨id,o,e4,rfl,rfl,av,aE,gT⟩:=aj1 eA;obtain⟨t,I,J⟩:=D.e1 f;have j:=L.len;have C:=S h fn _ zG M ag;refine aj2 (R:=λ e w'=>e= .returned (.tuple #[])/\∃ρ',Mem E.T W ar X q.1 ρ' w'/\To X bl q.1 ρ ρ' w w'/\ew bl ρ w w' q.2) M ag rfl (by rw[j];exact p0) av gT aE I8 Y (λ w' ⟨e,_⟩=>by cases e) λ a r=>?_
     have dg:R E W ar X ⟨fn.ntmps,[]⟩ ⟨(d,y)::ow 0 cs,[],[]⟩ bl ρ a w:=⟨T,⟨⟨r.size,r.defers,λ t z s=>by
      simp only[c6]at s;split at s;rename_i e;have:=aZ e;subst this;cases s;rw[r.get d v (by simp[dp])];exact V
      ·rename_i e;obtain⟨F,ak,al⟩:=D7 L s;rw[r.get t F (by simp only[dp,e];exact ak)]
       exact al⟩,λ p G=>by simp at G,λ p G=>by simp at G⟩,U⟩
     cases k:t.x with
     |nm=>
      rw[k]at J;obtain⟨x,aw,g⟩:=D.e1 J;have fin:∀ρ' a' w',dl E W ar X ⟨fn.ntmps,[]⟩ bl ρ w x.s ρ' a' w'->(⟨x.s.bl,x.s.ws⟩:List (ay E.T.El)×List Nat)=q->bodyPost E.P fn (λ e w'=>e= .returned (.tuple #[])/\∃ρ',Mem E.T W ar X q.1 ρ' w'/\To X bl q.1 ρ ρ' w w'/\ew bl ρ w w' q.2) .ret a' w':=λ ρ' a' w' l e=>by
       subst e;have aQ:Fr ⟨fn.ntmps,[]⟩ [] a':=⟨l.r.cV.dO.size,l.r.cV.dO.defers,λ t v h=>by simp[dp]at h⟩
       exact Mq (rs:=fn.results.toList) (by simp) aQ (vs:=[]) (by rw[DJ];trivial) ⟨rfl,ρ',l.r.mem,l.to,l.wr⟩
      refine xt (n:=⟨fn.ntmps,[]⟩) (b0:=bl) (ρ0:=ρ) (w0:=w) H K os I ⟨dg,.refl,.nil⟩ λ cl b1 bV cH=>?_;rw[k];refine⟨rfl,iS (n:=⟨fn.ntmps,[]⟩) (b0:=bl) (ρ0:=ρ) (w0:=w) H K c C.2.2 aw cH λ N O P Q=>?_⟩;cases A:x.x with
      |nm=>rw[A]at g;exact fin N O P Q g
      |rt=>rw[A]at g;exact fin N O P Q g
      |ex i=>rw[A]at g;exact g.elim
      |eI y=>rw[A]at g;exact g.elim
     |ex i=>rw[k]at J;exact J.elim
     |rt=>rw[k]at J;exact J.elim
     |eI y=>rw[k]at J;exact J.elim
    ·exact f.elim
   ·exact f.elim
  ·exact f.elim
 ·exact f.elim
theorem abM(A:cv E)(B:gA E a0)(dU:og E LE){Cn:jl E}{g:Nat}(r1:∀fn x id ops c ds,E.P.funcs[g]? =some fn->fn.body=some (.seq x (.seq (.region id ops false) c))->hJ E Cn ⟨fn.ntmps,ds⟩ c):iI E g (HZ E a0 LE Cn g):=by
 intro ys bl r f W ar X ρ w vs hm eo aC;unfold HZ at f;split at f
 ·rename_i fn ax eT;have zG:=lE ax;split at f
  ·rename_i x id ops c hc p0;split at f
   ·rename_i pre hT post JN;obtain⟨o,e4,Q,av,S,T⟩:=Vc JN;obtain⟨t0,U,V⟩:=D.e1 f;have C:=aC.len;refine aaK eT hc rfl (by rw[C];exact p0) λ a Y=>?_;have dg:R E W ar X ⟨fn.ntmps,[]⟩ ⟨ow 0 ys,[],[]⟩ bl ρ a w:=⟨hm,⟨⟨Y.size,Y.defers,λ t y aF=>by obtain⟨v,Z,al⟩:=D7 aC aF;rw[Y.get t v Z];exact al⟩,λ p az=>by simp at az,λ p az=>by simp at az⟩,eo⟩
    refine wp_seq (iS (n:=⟨fn.ntmps,[]⟩) (b0:=bl) (ρ0:=ρ) (w0:=w) A B x (nE (λ _=>rfl) x) U ⟨dg,.refl,.nil⟩ λ ρ0 cF w0 aeF=>FO (λ z8=>?_) λ z8=>by
     revert V;cases hq:t0.x with
     |nm=>exact absurd hq z8
     |_=>exact λ h=>h.elim)
    rw[z8]at V;obtain⟨t,I,J⟩:=D.e1 V;refine wp_seq (wp_region_list ?_);rw[Q];cases m:t.x with
    |nm=>
     rw[m]at J;simp only at J;refine EB (n:=⟨fn.ntmps,[]⟩) (b0:=bl) (ρ0:=ρ) (w0:=w) A B pre I m aeF λ H l z d=>?_;split at J
     ·rename_i h cs zA;have Qa:=cn d.r (cur:=[]) trivial zA;simp only[aq]at Qa;obtain⟨us,Z,al⟩:=Qa
      have L:R E W ar X ⟨fn.ntmps,[lm h us]⟩ t.s.f t.s.bl H ({ l with defers:=lm h us::l.defers }:Act) z:=⟨d.r.mem,⟨⟨d.r.cV.dO.size,by
       show lm h us::l.defers=[lm h us]
       rw[d.r.cV.dO.defers],d.r.cV.dO.get⟩,d.r.cV.gs,d.r.cV.dh⟩,d.r.dW⟩
      have qb:dl E W ar X ⟨fn.ntmps,[lm h us]⟩ t.s.bl H z ⟨t.s.f,t.s.bl,[]⟩ H ({ l with defers:=lm h us::l.defers }:Act) z:=⟨L,.refl,.nil⟩
      refine wpList_step λ K bX=>?_;rw[lX (xW T)];unfold Oper.wp;have e:(execOp l.eval o).run E.P z= .ok (.defer (lm h us)) z:=by simp only[execOp,av,resolve,Z,Deferred.ofValue];simp[go_sem,lm]
      rw[e];show K (({ l with defers:=lm h us::l.defers }:Act).put o.dst undef) z
      rw[S];refine bX _ _ ?_;have leave:∀(t':bS E.T.El),(CU E a0 LE fn.results.toList h cs t.s.ws t').out r->∀ρ' a' w',dl E W ar X ⟨fn.ntmps,[lm h us]⟩ t.s.bl H z t'.s ρ' a' w'->l9 E X t'.s.bl ρ' (bodyPostD E.P fn λ e w'=>∃ρ',Mem E.T W ar X r.bl ρ' w'/\To X bl r.bl ρ ρ' w w'/\ew bl ρ w w' r.ws/\rD E X r.bl ρ' w' r.e e) a' w' t'.x:=λ t' k ρ' a' w' b=>by
       have aL:aR E.T (aW X t'.s.bl ρ' w') w' ρ' t'.s.bl cs us:=aR.later b.to.F b.to.L cs al
       have fin:∀(y:aD E.T.El)(v:Value)(u M:FrameMode)(x:Exit),((wu E a0 LE h cs y t'.s.bl).bind λ q=>match qW E ⟨t'.s.f,q.1,[]⟩ fn.results.toList with|some ys=>.ok ⟨.ret (jM ys),q.1,q.2++(t'.s.ws++t.s.ws)⟩|none=>.no:D (eO E.T.El)).out r->aq E.T (aW X t'.s.bl ρ' w') w' ρ' t'.s.bl y v ->
        (∀(j:Frame)(cs:List Frame),j.mode=u->(recoverD (j::cs)=none/\v= .nilIface/\M=u)\/recoverD (j::cs)=some (v,{ j with mode:=M }::cs))->settle M= .returning->((x= .ret/\u= .returning)\/(x= .normal/\u= .returning)\/(∃c,x= .panic c/\u= .panicking c)) ->
        bodyPostD E.P fn (λ e w'=>∃ρ',Mem E.T W ar X r.bl ρ' w'/\To X bl r.bl ρ ρ' w w'/\ew bl ρ w w' r.ws/\rD E X r.bl ρ' w' r.e e) x a' w':=λ y v u M x f ai kR uD m=>by
        obtain⟨q,N,F⟩:=D.e1 f
        split at F
        ·rename_i dI z9;have F:(⟨.ret (jM dI),q.1,q.2++(t'.s.ws++t.s.ws)⟩:eO E.T.El)=r:=F;have adF:ev E.bU h=true:=by unfold wu at N;split at N;assumption;exact N.elim
         refine ZL u x m uD b.r.cV.dO.defers (A.call h (lE adF)) (Zp A B dU N b.r.mem b.r.dW aL ai kR) λ cu ⟨O,e8,G,als⟩=>?_;have L:R E W ar X ⟨fn.ntmps,[]⟩ t'.s.f q.1 O ({ a' with defers:=[] }:Act) cu:=R.to (bl:=t'.s.bl) (ρ:=ρ') (w:=w') ⟨b.r.mem,⟨⟨b.r.cV.dO.size,rfl,b.r.cV.dO.get⟩,b.r.cV.gs,b.r.cV.dh⟩,b.r.dW⟩ G e8;obtain⟨ale,aT,aV⟩:=My (s:=⟨t'.s.f,q.1,[]⟩) L z9;subst F;have aQ:Fr ⟨fn.ntmps,[]⟩ [] ({ a' with defers:=[] }:Act):=⟨L.cV.dO.size,rfl,λ t v h=>by simp[dp]at h⟩
         exact Mq (rs:=fn.results.toList) (by simp) aQ aT ⟨O,e8,(d.to.trans b.to).trans G,(d.wr.b2 d.to b.wr).b2 (d.to.trans b.to) als,EE aV⟩
        ·exact F.elim
       unfold CU at k;cases P:t'.x with
       |ex i=>rw[P]at k;exact k.elim
       |nm=>rw[P]at k;exact fin _ .nilIface .returning .returning .normal k (by simp only[aq]) (λ j cs hc=>.inl ⟨UW j cs hc,rfl,rfl⟩) rfl (.inr (.inl ⟨rfl,rfl⟩))
       |rt=>rw[P]at k;exact fin _ .nilIface .returning .returning .ret k (by simp only[aq]) (λ j cs hc=>.inl ⟨UW j cs hc,rfl,rfl⟩) rfl (.inl ⟨rfl,rfl⟩)
       |eI y=>rw[P]at k;intro v ai;exact fin y v (.panicking [{ v,recovered:=false }]) (.panicking [{ v,recovered:=true }]) _ k ai (λ j cs hc=>.inr (aj3 j cs hc)) rfl (.inr (.inr ⟨_,rfl,rfl⟩))
      obtain⟨G,aw,a5⟩:=D.e1 J;refine xt (n:=⟨fn.ntmps,[lm h us]⟩) A B post aw qb λ O db cu eB=>FO (λ r'=>?_) λ r'=>?_;rw[r']at a5;obtain⟨t3,cO,gQ⟩:=D.e1 a5;exact iS (n:=⟨fn.ntmps,[lm h us]⟩) A B c (r1 fn x id ops c _ eT hc) cO eB λ NT eP h6 DK=>leave t3 gQ NT eP h6 DK
      ·refine leave G ?_ O db cu eB;revert a5;cases aeX:G.x with
       |nm=>exact absurd aeX r'
       |_=>exact λ h=>h
     ·exact J.elim
    |ex i=>rw[m]at J;exact J.elim
    |rt=>rw[m]at J;exact J.elim
    |eI y=>rw[m]at J;exact J.elim
   ·exact f.elim
  ·exact f.elim
 ·exact f.elim
end
def Bu:Code->Code
 | .seq _ (.seq _ c)=>c
 |c=>c
def Kw{E:Env}(i:Nat)(r:c1 E.T.El->D (bS E.T.El)):jl E:=λ j=>match bT j (1000000+i)with
 |true=>some r
 |false=>none
theorem agL{E:Env}{g i:Nat}{r:c1 E.T.El->D (bS E.T.El)}{x y:Code}(a:(hv (Bu (ll E.P g))).filter (λ p=>bT p.1 i)=[(i,x,y)])(d:lD (Bu (ll E.P g))=true)(e:∀ds,Cq E ⟨kh E.P g,ds⟩ r x y) :
 ∀fn e2 id ops c ds,E.P.funcs[g]? =some fn->fn.body=some (.seq e2 (.seq (.region id ops false) c))->hJ E (Kw i r) ⟨fn.ntmps,ds⟩ c:=λ fn e2 id ops c ds f ag=>by
 have k:ll E.P g= .seq e2 (.seq (.region id ops false) c):=by unfold ll;rw[f];simp only;rw[ag]
 have l:kh E.P g=fn.ntmps:=by unfold kh;rw[f]
 rw[k]at a d
 rw[l]at e
 refine sh (i:=i) (g:=r) (LE:=λ _=>none) (λ j q b=>?_) (λ m n o=>?_) d (nE (λ _=>rfl) c)
 ·unfold Kw at b;split at b;rename_i ag;cases b;exact .inl ⟨aZ ag,rfl⟩;cases b
 ·have h:(i,m,n)∈(hv c).filter (λ p=>bT p.1 i):=List.mem_filter.2 ⟨o,by simp⟩;have a:(hv c).filter (λ p=>bT p.1 i)=[(i,x,y)]:=a;rw[a]at h;have:=fG.1 h;cases this;exact e ds
def jH:List Int->Int->Int
 |[],n=>n
 |k::r,n=>jH r (if k<n then k else n)
theorem TA{x:Int}:∀ {l:List Int}{n:Int},jH (l++[x]) n=(if x<jH l n then x else jH l n)
 |[],n=>rfl
 |k::r,n=>by simp only[iO,jH];exact TA
theorem ahj{l l':List Int}(h:l.Perm l'):∀n,jH l n=jH l' n:=by
 induction h with
 |nil=>intro n;rfl
 |cons x _ c=>intro n;exact c _
 |swap x y l=>intro n;simp only[jH];congr 1;split<;>split<;>(first |omega |(split<;>omega))
 |trans _ _ a b=>intro n;rw[a,b]
end a8
namespace Go.Proofs.YtifhjkbiiekamaaDoor
open Go Go.RowKit aA ad a8
def m7(dA:Bool):Env:=⟨bd.P,bd.T,bd.dW,dA,bd.bU,bd.iQ,bd.om⟩
theorem Qm:∀dA,cv (m7 dA)
 |true=>ud
 |false=>nl
def sA:Code×Code:=match(hv (Bu (ll Tryd.prog 31))).filter (λ p=>bT p.1 2)with
 |[p]=>p.2
 |_=>(.skip,.skip)
def fK:tG:=(EF sA.1 sA.2).getD ⟨0,#[],0,0,0,0,0,default,default,default,default,default,0,#[],0,#[]⟩
theorem ag6:EF sA.1 sA.2=some fK:=by kernel_rfl
theorem ag5:(hv (Bu (ll Tryd.prog 31))).filter (λ p=>bT p.1 2)=[(2,sA.1,sA.2)]:=by kernel_rfl
theorem ag8:lD (Bu (ll Tryd.prog 31))=true:=by kernel_rfl
theorem aha:fK.iD.op= .next (.tmp 44) false/\fK.iD.dst=some 45/\fK.iD.guard=none:=by refine⟨?_,?_,?_⟩<;>kernel_rfl
theorem ag9:fK.lR.op= .extract (.tmp 45) 0/\fK.lR.dst=some 46/\fK.lR.guard=none:=by refine⟨?_,?_,?_⟩<;>kernel_rfl
theorem ag_:fK.k2.op= .entry (.tmp 44)/\fK.k2.dst=some 47/\fK.k2.guard=none:=by refine⟨?_,?_,?_⟩<;>kernel_rfl
theorem ag':fK.jL.op= .extract (.tmp 47) 0/\fK.jL.dst=some 48/\fK.jL.guard=none:=by refine⟨?_,?_,?_⟩<;>kernel_rfl
theorem ahb:fK.lS.op= .assign (.tmp 48)/\fK.lS.dst=some 10/\fK.lS.guard=none:=by refine⟨?_,?_,?_⟩<;>kernel_rfl
def KO:List Oper:=fK.ops.toList.take 4
def AA:Oper:=(fK.ops.toList.drop 4).headD fK.iD
theorem ahc:fK.ops.toList=KO++[AA]:=by kernel_rfl
theorem KN:AA.op= .range 121 (.tmp 43)/\AA.dst=some 44/\AA.guard=none:=by refine⟨?_,?_,?_⟩<;>kernel_rfl
def jG(i:Nat):Oper:=(fK.AO.toList.drop i).headD fK.iD
theorem ahd:fK.AO.toList=[jG 0,jG 1,jG 2,jG 3]:=by kernel_rfl
theorem KI:(jG 0).op= .move (.tmp 9)/\(jG 0).dst=some 49/\(jG 0).guard=none:=by refine⟨?_,?_,?_⟩<;>kernel_rfl
theorem KJ:(jG 1).op= .move (.tmp 10)/\(jG 1).dst=some 50/\(jG 1).guard=none:=by refine⟨?_,?_,?_⟩<;>kernel_rfl
theorem KK:(jG 2).op= .call { callee:=.builtin .min,args:=#[.tmp 49,.tmp 50],argTypes:=#[3,3] }/\(jG 2).dst=some 51/\(jG 2).guard=none:=by refine⟨?_,?_,?_⟩<;>kernel_rfl
theorem KL:(jG 3).op= .assign (.tmp 51)/\(jG 3).dst=some 9/\(jG 3).guard=none:=by refine⟨?_,?_,?_⟩<;>kernel_rfl
def Az:List Nat:=[9,10,44,45,46,47,48,49,50,51]
def minD(d:List (bf.El 3×bf.El 4))(n:Int):Int:=jH (List.map (α:=Int×Bool) Prod.fst d) n
def Tu(s:c1 bf.El):Option (c1 bf.El):=match c6 s.f.aQ 43,c6 s.f.aQ 9 with
 |some (.m j),some (.p (.int .i64 n))=>match nth s.bl j with
  |some (.m 3 4 d)=>some ⟨⟨(9,.p (.int .i64 (minD d n)))::hR Az s.f.aQ,[],[]⟩,s.bl,s.ws⟩
  |_=>none
 |_,_=>none
def Tt(dA:Bool)(s:c1 (m7 dA).T.El):D (bS (m7 dA).T.El):=(opsL (m7 dA) (Gd (m7 dA)) fK.ops 65 KO s).bind λ t=>match t.x with
 | .nm=>match Tu t.s with
   |some a=>opsL (m7 dA) (Gd (m7 dA)) fK.xI 65 fK.xI.toList a
   |none=>.no
 |_=>.no
theorem Ql{F:Nat->Prop}{w:World}:∀ {es:List MapEntry}{d:List (Int×Bool)},gK (kt:=3) (vt:=4) bf F w sf es d->es.map lH=d.map Prod.fst
 |[],[],_=>rfl
 |[],_::_,h=>h.elim
 |_::_,[],h=>h.elim
 |e::es,p::d,h=>by obtain⟨I,_,a⟩:=h;rw[fA,fA,Ql a];congr 1;unfold lH;rw[I];rfl
theorem Qk{F:Nat->Prop}{w:World}:∀ {es:List MapEntry}{d:List (Int×Bool)},gK (kt:=3) (vt:=4) bf F w sf es d->∀e∈es,e.key= .int .i64 (lH e)
 |[],_,_,e,he=>by simp at he
 |_::_,[],h,_,_=>h.elim
 |x::es,p::d,h,e,he=>by obtain⟨I,_,a⟩:=h;rcases dc.1 he with rfl |he;unfold lH;rw[I];rfl;exact Qk a e he
theorem agW{α:Type}{s t:Nat}{x y:α}{r:List (Nat×α)}(h:c6 ((s,x)::r) t=some y):(t=s/\y=x)\/c6 r t=some y:=by simp only[c6]at h;split at h;rename_i ag;simp only[aK]at h;exact .inl ⟨(aZ ag).symm,h.symm⟩;exact .inr h
theorem aj6{T:bA}{F:Nat->Prop}{w:World}{ρ:List Value}{bl:List (ay T.El)}{u v:Value}(h:v=u):aq T F w ρ bl (.p u) v:=by simp only[aq];exact h
set_option maxRecDepth 100000
theorem ahk(dA:Bool)(ds:List Deferred):Cq (m7 dA) ⟨65,ds⟩ (Tt dA) sA.1 sA.2:=by
 intro rest s t ah W ar X b0 ρ0 w0 ρ a w Q h k;obtain⟨aa,aC⟩:=aim ag6;rw[aa,aC];obtain⟨t1,hb,c⟩:=D.e1 ah;cases b:t1.x with
 |ex i=>rw[b]at c;exact c.elim
 |rt=>rw[b]at c;exact c.elim
 |eI y=>rw[b]at c;exact c.elim
 |nm=>
 rw[b]at c;simp only at c;split at c
 ·rename_i s1 l;unfold Tu at l;split at l
  ·rename_i j n J K;split at l
   ·rename_i d R2;rw[cr]at R2;simp only[aK]at l;refine wp_seq (wp_seq (wp_region_list ?_));rw[ahc];refine EB (n:=⟨65,ds⟩) (Qm dA) Q6 KO hb b h λ cl u f A=>?_;have C:=A.r.cV.dO.get 43 _ J;simp only[aq]at C;obtain⟨bm,cW,bg⟩:=C;have f9:u.tmps.getD 9 undef= .int .i64 n:=by simpa only[aq]using A.r.cV.dO.get 9 _ K
    obtain⟨anE,wQ,YC,L,es,clock,E,Sa,M,Dt⟩:=A.r.mem.ok j (.m 3 4 d) _ R2 cW;simp only[Value.map.injEq,aK]at wQ;subst wQ;obtain rfl:YC=(sf:gB (bf.El 3)):=by
     have N:(bf.e 3).key=some (sf:gB (bf.El 3)):=by kernel_rfl
     exact eR (L.symm.trans N)
    have O:=Ql Sa;have mx:(es.toList.map (·.born)).Nodup:=List.nodup_iff_pairwise_ne.2 (M.imp λ h=>Nat.ne_of_lt h);have R:∀ {k:Nat}{o:Obj}{w:World},w.heap[k]? =some o->k<w.heap.size:=λ{k o w} h=>by rcases gE k w.heap.size with I |I;exact I;rw[hI I]at h;cases h
    have S:u.eval (.tmp 43)= .map (some bm):=bg;obtain⟨r,eA⟩:∃r,r=f.heap.size:=⟨_,rfl⟩
    have cx:aS (m7 dA).P AA u f (.pointer (some ⟨r,0,none⟩)) (f.alloc (.mapIter (some bm) clock #[] clock)):=by rw[eA];simp only[aS,execOp,KN.1,S];rw[Sem.run_bind,run_range_map (P:=(m7 dA).P) f 121 3 4 bm es clock Tryd.underlying121 E];rfl
    refine m2 KN.2.2 cx ?_;rw[KN.2.1];refine wpList_nil ?_;obtain⟨F,T⟩:∃F,F=f.alloc (.mapIter (some bm) clock #[] clock):=⟨_,rfl⟩
    rw[<-T];have RS:aY [] f F:=by rw[T];exact aY.alloc [] f _
    have SG:F.heap[r]? =some (.mapIter (some bm) clock #[] clock):=by rw[T,eA];exact heap_alloc_new f _
    have qa:r<F.heap.size:=R SG;have U:u.tmps.size=65:=A.r.cV.dO.size;have Oo:u.defers=ds:=A.r.cV.dO.defers
    refine afz (n:=65) (r:=r) (bm:=bm) (since:=clock) (clock:=clock) (ti:=44) (tn:=45) (tok:=46) (te:=47) (tk:=48) (tv:=10) (es:=es)
     (λ acc a' w'=>a'.tmps.size=65/\a'.defers=ds/\(∀t,t∉Az->a'.tmps.getD t undef=u.tmps.getD t undef)/\a'.tmps.getD 44 undef= .pointer (some ⟨r,0,none⟩)/\Od w' r bm clock clock es acc/\(acc.map (·.born)).Nodup/\(∀e∈acc,e∈es.toList)/\aY [] f w'/\a'.tmps.getD 9 undef= .int .i64 (jH (acc.map lH) n))
     aha ag9 ag_ ag' ahb (by decide) (by decide) Dt (da _) mx (λ acc a' w' h=>⟨h.1,h.2.2.2.1,h.2.2.2.2.1,h.2.2.2.2.2.1,h.2.2.2.2.2.2.1⟩) ?_ ?_ ?_
    ·intro acc e db B h6 M' V he Jy g JQ Y an2 r5;obtain⟨Z,i2,i3,i4,⟨i5,an8⟩,i6,i7,i8,i9⟩:=V;have RP:aY [] f M':=i8.trans Y λ x aa=>.inr (by simp at aa;omega);have t4:=JQ (by decide);rw[Qk Sa e he]at t4;have G:B.tmps.size=65:=g.1.trans Z;have fB:B.tmps.getD 9 undef= .int .i64 (jH (acc.map lH) n):=by rw[g.2.2 9 (by decide)];exact i9
     refine wp_region_list ?_;rw[ahd];refine m2 KI.2.2 (F1 KI.1 (v:=.int .i64 (jH (acc.map lH) n)) fB) ?_;rw[KI.2.1];refine m2 KJ.2.2 (F1 KJ.1 (v:=.int .i64 (lH e)) (by rw[nn,j3 (by decide)];exact t4)) ?_;rw[KJ.2.1];refine m2 KK.2.2 (WV KK.1 (m:=jH (acc.map lH) n) (k:=lH e) (by rw[nn,j3 (by decide),mo (by rw[G];decide)]) (by rw[nn,mo (by rw[ic,G];decide)])) ?_;rw[KK.2.1];refine m2 KL.2.2 (FY KL.1 (v:=.int .i64 (jH ((acc++[e]).map lH) n)) (by rw[nn,mo (by rw[ic,ic,G];decide),List.map_append,List.map_singleton,TA])) ?_;rw[KL.2.1];refine wpList_nil ⟨rfl,by rw[ic,ic,ic,ic,G],g.2.1.trans i2,λ t b=>?_,?_,⟨r5,(RP.block bm (R E) (by simp)).trans E⟩,?_,?_,RP,?_⟩;have H:∀q∈Az,q≠t:=λ q z e=>b (e▸z);rw[j3 (H 9 (by decide)),j3 (H 51 (by decide)),j3 (H 50 (by decide)),j3 (H 49 (by decide)),g.2.2 t (λ z=>b (by simp only[dc,hx,or_false]at z;rcases z with rfl |rfl |rfl |rfl |rfl<;>decide))];exact i3 t b;rw[j3 (by decide),j3 (by decide),j3 (by decide),j3 (by decide),g.2.2 44 (by decide)];exact i4;rw[List.map_append,List.map_singleton];exact ft.2 ⟨i6,by simp,λ x aa y hy ak=>by simp at hy;subst hy;subst ak;exact Jy aa⟩;intro x aa;rcases de.1 aa with aa |aa;exact i7 x aa;simp at aa;subst aa;exact he;exact mo (by rw[ic,ic,ic,G];decide)
    ·intro acc db B h6 V aeo g;obtain⟨Z,i2,i3,i4,i5,i6,i7,i8,i9⟩:=V
     have ad7:jH (acc.map lH) n=minD d n:=by
      show _=jH (List.map (α:=Int×Bool) Prod.fst d) n
      rw[ahj (aeo.map lH) n,O]
     have j5:rm Az u B:=⟨(g.2.1.trans i2).trans Oo.symm,(g.1.trans Z).trans U.symm,λ t b=>by rw[g.2.2 t (λ z=>b (by simp only[dc,hx,or_false]at z;rcases z with rfl |rfl<;>decide))];exact i3 t b⟩
     have aE:=(A.drew i8).drop j5;have fB:B.tmps.getD 9 undef= .int .i64 (minD d n):=by rw[g.2.2 9 (by decide),<-ad7];exact i9
     have eB:dl (m7 dA) W ar X ⟨65,ds⟩ b0 ρ0 w0 s1 cl B h6:=by subst l;refine⟨⟨aE.r.mem,⟨⟨aE.r.cV.dO.size,aE.r.cV.dO.defers,λ t y hy=>?_⟩,λ p az=>absurd az hx,λ p az=>absurd az hx⟩,aE.r.dW⟩,aE.to,aE.wr⟩;rcases agW hy with⟨rfl,rfl⟩|hy;exact aj6 fB;exact aE.r.cV.dO.get t y hy
     exact wp_seq (wp_region_list (xt (n:=⟨65,ds⟩) (Qm dA) Q6 fK.xI.toList c eB k))
    ·refine⟨by rw[ic,U],Oo,λ t b=>j3 (λ e=>b (e▸(by decide:44∈Az))),mo (by rw[U];decide),⟨⟨clock,da _,SG⟩,(RS.block bm (R E) (by simp)).trans E⟩,by simp,by simp,RS,?_⟩;rw[j3 (by decide),f9];rfl
   ·cases l
  ·cases l
 ·exact c.elim
set_option maxRecDepth 100000
@[reducible] def oP:g5 bf:=⟨[],[],[.p .b],[],Bool,λ _=>some true,λ _ r=>((r,()),())⟩
def VO:dN hk:=ui hk (yg 2000).t.iH (λ _ _=>none) 100
def BB:vR hk:=λ g=>match bT g 31 with
 |true=>some (HZ hk VO (λ _ _=>none) (Kw 2 (Tt true)) 31)
 |false=>(yg 2000).t.iH g
theorem GN(g:Nat)(h:List (aD bf.El)->List (ay bf.El)->D (eO bf.El)):iI bd g h=iI hk g h:=by kernel_rfl
theorem xh:og hk (λ _ _=>none):=λ g fn c _ _ _=>nE (λ _=>rfl) c
theorem ff:kh hk.P 31=65:=by kernel_rfl
theorem VN:Ch hk BB:=by
 have hc:=((yg 2000).ok nl).ce;have b:Ch hk (yg 2000).t.iH:=⟨hc.bU,λ g h a=>(GN g h)▸hc.ok g h a⟩
 have c:gA hk VO:=kF ud b xh 100;refine⟨λ g h a=>?_,λ g h a=>?_⟩;unfold BB at a;split at a;rename_i ag;rw[aZ ag];exact lE (by kernel_rfl);exact b.bU g h a;unfold BB at a;split at a;rename_i ag;rw[aZ ag];simp only[aK]at a;subst a;exact abM ud c xh (agL ag5 ag8 λ ds=>by rw[ff];exact ahk true ds);exact b.ok g h a
theorem aaI:oP.Eq hk (ui hk BB (λ _ _=>none) 100) (λ _ _=>none) 5:=λ aN aO=>by kernel_rfl
theorem Zb:iI hk 5 (oP.run hk):=λ ys bl r a=>wy ud (kF ud VN xh 100) xh RG (c:=oP.gC) (eN.Eq.v aaI) ys bl r (vp a)
theorem U3:oP.run bd=oP.run hk:=by kernel_rfl
def Yu(F:Nat):bs bd:=(Yt F).add 5 (oP.run bd) (U3▸(GN 5 _)▸Zb)
theorem aaH:oP.Eq hk (ui hk BB (λ _ _=>none) 100) (λ _ _=>none) 6:=λ aN aO=>by kernel_rfl
theorem Za:iI hk 6 (oP.run hk):=λ ys bl r a=>wy ud (kF ud VN xh 100) xh RG (c:=oP.gC) (eN.Eq.v aaH) ys bl r (vp a)
def yh(F:Nat):bs bd:=(Yu F).add 6 (oP.run bd) (U3▸(GN 6 _)▸Za)
set_option maxRecDepth 100000
def Co(F:Nat)(o:List ap)(c:Int)(d:List UInt8)(e:Int)(f:List UInt8)(g:Int)(h:List UInt8):Option ((Bool×Unit)×Unit):=(oU F o).bind λ a=>
cond (!decide (a.snd=0)) (some (((true),()),())) (
(BC F a.fst.gz a.fst.eh a.fst.Fields a.fst.Names a.fst.eE c d e f).bind λ b=>
(pf F a.fst.gz a.fst.eh a.fst.Fields a.fst.Names a.fst.eE c d e f).bind λ k=>
(pf F a.fst.gz a.fst.eh a.fst.Fields a.fst.Names a.fst.eE e f g h).bind λ i=>
(pf F a.fst.gz a.fst.eh a.fst.Fields a.fst.Names a.fst.eE c d g h).bind λ j=>
cond (!decide (b.fst.snd.fst=0)|| !decide (k.fst.snd.fst=0)|| !decide (i.fst.snd.fst=0)|| !decide (j.fst.snd.fst=0)) (some (((true),()),())) (
(pf F a.fst.gz a.fst.eh a.fst.Fields a.fst.Names a.fst.eE c d b.fst.fst.fst b.fst.fst.snd.fst).bind λ l=>
(pf F a.fst.gz a.fst.eh a.fst.Fields a.fst.Names a.fst.eE e f b.fst.fst.fst b.fst.fst.snd.fst).bind λ m=>
(pf F a.fst.gz a.fst.eh a.fst.Fields a.fst.Names a.fst.eE b.fst.fst.fst b.fst.fst.snd.fst g h).bind λ n=>
some (((decide (l.fst.snd.fst=0)&&decide (m.fst.snd.fst=0)&&decide (n.fst.snd.fst=0)&&l.fst.fst&&m.fst.fst&&(!k.fst.fst|| !i.fst.fst||j.fst.fst)&&(!j.fst.fst|| !i.fst.fst||n.fst.fst)),()),())))
@[reducible] def Kf(F:Nat):eN bf:=⟨[.p (.l 37),.a [mw,.s],.a [mw,.s],.a [mw,.s]],[],[me],[],λ d=>Co F d.1.1 d.1.2.1.1 d.1.2.1.2.1 d.1.2.2.1.1 d.1.2.2.1.2.1 d.1.2.2.2.1.1 d.1.2.2.2.1.2.1⟩
theorem aaF(F:Nat):(Kf F).Eq bd (yh F).t.a0 (yh F).t.LE 4:=λ aN aO=>by kernel_rfl
theorem Y'(F:Nat):iI bd 4 ((Kf F).run bd):=Pt nl (kF nl ((yh F).ok nl).ce ((yh F).ok nl).le 100) ((yh F).ok nl).le rY (aaF F)
section
variable{F:Nat->Prop}{w:World}{cs:List Value}
theorem ajQ{d:bf.El 94}(h:(ad.jj).rd F w cs d):(bf.ty 94).rd F w cs d:=by obtain rfl:cs=_:=h;change fb (λ t=>(gm y8 t).ty) F w [.s,.i .i64,.s] _ (d.Name,d.Kind.Kind,d.Kind.ap,());exact⟨_,_,rfl,rfl,_,_,rfl,rfl,_,_,rfl,rfl,rfl⟩
theorem UO{d:bf.El 40}(h:(ad.vA).rd F w cs d):(bf.ty 40).rd F w cs d:=by obtain rfl:cs=_:=h;change fb (λ t=>(gm C2 t).ty) F w [.i .i64,.s] _ (d.Kind,d.ap,());exact⟨_,_,rfl,rfl,_,_,rfl,rfl,rfl⟩
theorem ajN{d:bf.El 107}(h:(ad.vz).rd F w cs d):(bf.ty 107).rd F w cs d:=by obtain rfl:cs=_:=h;change fb (λ t=>(gm C0 t).ty) F w [.i .i64,.i .i64,.i .i64,.s] _ (d.From,d.To,d.dJ,d.ap,());exact⟨_,_,rfl,rfl,_,_,rfl,rfl,_,_,rfl,rfl,_,_,rfl,rfl,rfl⟩
theorem ajP{d:bf.El 43}(h:(ad.mZ).rd F w cs d):(bf.ty 43).rd F w cs d:=by obtain⟨_,_,_,_,rfl,J,a⟩:=h;change fb (λ t=>(gm CZ t).ty) F w [.s,.b,.l 40,.i .i64,.s,.i .i64,.i .i64,.s,.l 107] _ (d.Name,d.Static,d.b9,d.Returns.Kind,d.Returns.ap,d.gh,d.gg,d.Code,d.cj,());exact⟨_,_,rfl,rfl,_,_,rfl,rfl,_,_,rfl,n0 (λ _ _=>UO) J,_,_,rfl,rfl,_,_,rfl,rfl,_,_,rfl,rfl,_,_,rfl,rfl,_,_,rfl,rfl,_,_,rfl,n0 (λ _ _=>ajN) a,rfl⟩
theorem ajO{d:bf.El 37}(h:(ad.ji).rd F w cs d):(bf.ty 37).rd F w cs d:=by obtain⟨_,_,_,_,rfl,J,a⟩:=h;change fb (λ t=>(gm C1 t).ty) F w [.s,.s,.l 94,.l 43] _ (d.Name,d.b_,d.Fields,d.a1,());exact⟨_,_,rfl,rfl,_,_,rfl,rfl,_,_,rfl,n0 (λ _ _=>ajQ) J,_,_,rfl,n0 (λ _ _=>ajP) a,rfl⟩
end
section
variable{W:World}{bq:Nat}{cs:Array Value}{p:List MemPlace}
theorem fv:Tryd.prog.cellsOf 3=1:=by kernel_rfl
theorem Y9:Tryd.prog.cellsOf 9=1:=by kernel_rfl
theorem agM:∀ {l:List Value},l.length=2->∃a b,l=[a,b]
 |[],h=>by simp at h
 |[_],h=>by simp at h
 |[a,b],_=>⟨a,b,rfl⟩
 |_::_::_::_,h=>by simp at h
theorem afR{l:List Value}{K:Int}{C:List UInt8}(h:DataW.trod (λ _=>()) Tryd.prog W 0 (λ _=>true) false bq 40 l=some (.agg [.lit (.int .i64 K),.lit (.string C)],p)):l=[.int .i64 K,bQ C]:=by obtain⟨g,i,n,b,c,a,I⟩:=ChangeShapes.trod_struct2 Tryd.underlying40 h;rw[y4]at c;obtain⟨dS,d,rfl⟩:=agM c;have a:DataW.trod (λ _=>()) Tryd.prog W 0 (λ _=>true) false n 3 (([dS,d].drop 0).take (Tryd.prog.cellsOf 3))=some g:=a;have I:DataW.trod (λ _=>()) Tryd.prog W 0 (λ _=>true) false n 9 (([dS,d].drop 1).take (Tryd.prog.cellsOf 9))=some i:=I;rw[fv]at a;rw[Y9]at I;obtain⟨z,e,rfl,_⟩:=DataW.trod_int Tryd.underlying3 a;obtain⟨s,f,rfl,_⟩:=DataW.trod_string Tryd.underlying9 I;simp only[cY,DataW.agg.injEq,hN,DataW.lit.injEq,Lit.int.injEq,Lit.string.injEq,true_and,and_true]at b;obtain⟨⟨rfl,rfl⟩,_⟩:=b;simp at e f;subst e f;rfl
theorem RE{g:Nat}{name:String}(a:Tryd.prog.globalNamed name=some g)(b:W.var? Tryd.prog name=some cs){l:List Value}(c:cs.toList=l):eg W ⟨g,0,none⟩ l:=λ j u d=>by have:=World.var?_cell a b j;rw[<-g0,c,d]at this;simpa using this
theorem RF{g:Nat}{name:String}(b:Tryd.prog.globalNamed name=some g)(a:W.var? Tryd.prog name=some cs):g<W.heap.size:=by simp only[World.var?,b,ae]at a;rcases gE g W.heap.size with h |h;exact h;rw[hI h]at a;cases a
theorem US{g:Nat}(h:g<W.heap.size):aW (λ _=>False) ([]:List (ay bf.El)) [] W g:=⟨λ h=>h,λ⟨i,B,h,I,_⟩=>by simp at I,h⟩
theorem afS{g:Nat}{name:String}{K:Int}{C:List UInt8}(a:Tryd.prog.globalNamed name=some g)(b:W.var? Tryd.prog name=some cs)(h:DataW.trod (λ _=>()) Tryd.prog W 0 (λ _=>true) false bq 40 cs.toList=some (.agg [.lit (.int .i64 K),.lit (.string C)],p)) :
 aq bf (aW (λ _=>False) ([]:List (ay bf.El)) [] W) W [] [] (.x 40 ((⟨K,C⟩:ad.Kind):bf.El 40) 0) (.pointer (some ⟨g,0,none⟩)):=by
 simp only[aq]
 exact⟨g,0,_,rfl,US (RF a b),UO (d:=(⟨K,C⟩:ad.Kind)) rfl,RE a b (afR h)⟩
theorem SX{F:Nat->Prop}:∀ {zs:List Int},cS (bf.ty 83) F W (zs.map λ z=>Value.int .i64 z) (zs:List (bf.El 83))
 |[]=>rfl
 |z::r=>⟨[.int .i64 z],r.map λ z=>Value.int .i64 z,rfl,by change fb (λ t=>(gm Hn t).ty) F W [.i .i64] _ ((z:Int),());exact⟨_,_,rfl,rfl,rfl⟩,SX⟩
theorem akI{g:Nat}{name:String}{zs:List Int}(a:Tryd.prog.globalNamed name=some g)(c:zs.length=37)(b:W.var? Tryd.prog name=some (zs.map λ z=>Value.int .i64 z).toArray) :
 aq bf (aW (λ _=>False) ([]:List (ay bf.El)) [] W) W [] [] (.x 84 (zs:bf.El 84) 0) (.pointer (some ⟨g,0,none⟩)):=by
 simp only[aq]
 exact⟨g,0,zs.map λ z=>Value.int .i64 z,rfl,US (RF a b),⟨SX,c⟩,RE a b (by simp)⟩
theorem ak6:Tryd.prog.underlying 83=some (.int .i64):=by kernel_rfl
theorem ak7:Tryd.prog.underlying 84=some (.array 37 83):=by kernel_rfl
abbrev Tj:List (String×DataW Unit):=[("cinder/code.shapes",Rows.laid_cinder_code_shapes),("cinder/verify.number",Rows.laid_cinder_verify_number),("cinder/verify.row",Rows.laid_cinder_verify_row),("cinder/verify.null",Rows.laid_cinder_verify_null),("cinder/verify.unknown",Rows.laid_cinder_verify_unknown),("cinder/verify.top",Rows.laid_cinder_verify_top)]
theorem RH:Tryd.prog.globalNamed "cinder/code.shapes" =some 0:=by kernel_rfl
theorem ace:Tryd.prog.globalNamed "cinder/verify.number" =some 4:=by kernel_rfl
theorem acf:Tryd.prog.globalNamed "cinder/verify.row" =some 5:=by kernel_rfl
theorem acd:Tryd.prog.globalNamed "cinder/verify.null" =some 3:=by kernel_rfl
theorem acb:Tryd.prog.globalNamed "cinder/verify.unknown" =some 2:=by kernel_rfl
theorem aca:Tryd.prog.globalNamed "cinder/verify.top" =some 1:=by kernel_rfl
theorem Ao{name:String}{d:DataW Unit}{r:List (String×DataW Unit)}{g:Nat}{ps:List MemPlace}{K:Int}{C:List UInt8}(aE:d= .agg [.lit (.int .i64 K),.lit (.string C)])(a:Tryd.prog.globalNamed name=some g)(b:(Tryd.prog.globals[g]?).map (·.type)=some 40)
 (h:DataW.LaidVars Tryd.prog W ((name,d)::r) ps):aq bf (aW (λ _=>False) ([]:List (ay bf.El)) [] W) W [] [] (.x 40 ((⟨K,C⟩:ad.Kind):bf.El 40) 0) (.pointer (some ⟨g,0,none⟩))/\∃q,DataW.LaidVars Tryd.prog W r q:=by
 subst aE
 obtain⟨g',t',cs,bq,p,q,I,J,c,e,f,_⟩:=h
 obtain rfl:=eR (a.symm.trans I)
 obtain rfl:=eR (b.symm.trans J)
 exact⟨afS a c e,q,f⟩
theorem ab_{P:Nat->aD bf.El->Prop}(a:P 0 (.x 84 (([0,1,0,3,3,0,0,0,0,0,0,0,0,2,2,2,2,2,3,4,4,0,3,0,0,0,4,0,0,3,3,0,0,0,4,0,0]:List Int):bf.El 84) 0))(I:P 1 (.x 40 ((⟨3,[79,98,106,101,99,116]⟩:ad.Kind):bf.El 40) 0))(J:P 2 (.x 40 ((⟨6,[]⟩:ad.Kind):bf.El 40) 0))(b:P 3 (.x 40 ((⟨5,[]⟩:ad.Kind):bf.El 40) 0))(c:P 4 (.x 40 ((⟨1,[]⟩:ad.Kind):bf.El 40) 0))(d:P 5 (.x 40 ((⟨2,[]⟩:ad.Kind):bf.El 40) 0)):∀g y,c6 wM g=some y->P g y:=λ g y h=>by have:=jE h;simp only[wM,dc,cY,hx,or_false]at this;rcases this with⟨rfl,rfl⟩|⟨rfl,rfl⟩|⟨rfl,rfl⟩|⟨rfl,rfl⟩|⟨rfl,rfl⟩|⟨rfl,rfl⟩;exact a;exact I;exact J;exact b;exact c;exact d
theorem ab'(h:laidMet Tryd.prog Tj W):il bd (λ _=>False) [] [] W:=by have a:=akI RH rfl (Lib.tabIs_of_head (zs:=[0,1,0,3,3,0,0,0,0,0,0,0,0,2,2,2,2,2,3,4,4,0,3,0,0,0,4,0,0,3,3,0,0,0,4,0,0]) RH (by kernel_rfl) ak7 ak6 (by kernel_rfl) (by kernel_rfl) h);obtain⟨ps,h,_,_⟩:=h;obtain⟨_,_,_,_,_,q,_,_,_,_,h,_⟩:=h;obtain⟨b,_,h⟩:=Ao rfl ace (by kernel_rfl) h;obtain⟨c,_,h⟩:=Ao rfl acf (by kernel_rfl) h;obtain⟨d,_,h⟩:=Ao rfl acd (by kernel_rfl) h;obtain⟨e,_,h⟩:=Ao rfl acb (by kernel_rfl) h;obtain⟨f,_,h⟩:=Ao rfl aca (by kernel_rfl) h;exact ab_ (P:=λ g y=>aq bf (aW (λ _=>False) ([]:List (ay bf.El)) [] W) W [] [] y (.pointer (some ⟨g,0,none⟩))) a f e d b c
end
end Go.Proofs.YtifhjkbiiekamaaDoor
namespace ad
theorem Na{n:Int}(a: -9223372036854775808<=n)(I:n<=9223372036854775807):bj n=n:=by unfold bj;omega
theorem gJ{i n:Nat}(hi:i<n)(a:n<=140737488355328):bj ((i:Int)+1)=((i+1 :Nat):Int):=by rw[Na (by omega) (by omega)];omega
theorem bK{α:Type}{l:List α}{i:Nat}{x:α}(h:l[i]? =some x):idx l (i:Int)=some x:=by unfold idx;rw[lX (by omega)];simpa using h
theorem cc{i n:Nat}(h:i<n):decide ((i:Int)<(n:Int))=true:=lP (by omega)
theorem cb(n:Nat):decide ((n:Int)<(n:Int))=false:=lQ (by omega)
def cP{ρ:Type}:Option ρ->Way ρ Unit
 |some r=>.out r
 |none=>.go ()
def hE{ρ:Type}(o:Option ρ)(y:Option (Way ρ Unit)):Option (Way ρ Unit):=match o with
 |some r=>some (.out r)
 |none=>y
theorem each{α ρ:Type}{l:List α}{L:Nat->Int->Option (Way ρ Unit)}(g:α->Option ρ)(a:l.length<=140737488355328)
 (b:∀k (i:Nat) x,l[i]? =some x->L (k+1) (i:Int)=hE (g x) (L k (bj ((i:Int)+1))))
 (c:∀k,L (k+1) (l.length:Int)=some (.go ())){F:Nat}(e:l.length<F):L F 0=some (cP (l.findSome? g)):=by
 have key:∀(d i k:Nat),i+d=l.length->d<k->L k (i:Int)=some (cP ((l.drop i).findSome? g)):=by
  intro d;induction d with
  |zero=>
   intro i k h f;obtain⟨k,rfl⟩:∃k',k=k'+1:=⟨k-1,by omega⟩
   have hi:i=l.length:=by omega
   subst hi;rw[c];simp[cP]
  |succ d j=>
   intro i k h f;obtain⟨k,rfl⟩:∃k',k=k'+1:=⟨k-1,by omega⟩
   have hi:i<l.length:=by omega
   rw[b k i l[i] (bu hi),hO hi,iL];cases m:g l[i]with
   |some r=>rfl
   |none=>simp only[hE];rw[gJ hi a];exact j (i+1) k (by omega) (by omega)
 have:=key l.length 0 F (by omega) e
 simpa using this
theorem lq{ρ:Type}{n:Nat}{L:Nat->Int->Option (Way ρ Unit)}(g:Nat->Option ρ)(b:n<=140737488355328)
 (c:∀k (i:Nat),i<n->L (k+1) (i:Int)=hE (g i) (L k (bj ((i:Int)+1))))
 (d:∀k,L (k+1) (n:Int)=some (.go ())){F:Nat}(e:n<F):L F 0=some (cP ((fC n).findSome? g)):=by
 have h:=each (l:=fC n) (L:=L) g (by simpa using b) (λ k i x a=>by
  have hi:i<n:=by have:=(bb.1 a).1;simpa using this
  rw[List.getElem?_range hi]at a;simp only[aK]at a;subst a;exact c k i hi) (λ k=>by simpa using d k) (F:=F) (by simpa using e)
 exact h
theorem KG{σ:Type}{n:Nat}(T:Nat->Nat->Option σ)(fin:σ)(a:∀k i,i<n->T (k+1) i=T k (i+1))(b:∀k,T (k+1) n=some fin){F:Nat}(c:n<F):T F 0=some fin:=by
 have key:∀(d i k:Nat),i+d=n->d<k->T k i=some fin:=by
  intro d;induction d with
  |zero=>
   intro i k h e;obtain⟨k,rfl⟩:∃k',k=k'+1:=⟨k-1,by omega⟩
   have hi:i=n:=by omega
   subst hi;exact b k
  |succ d f=>
   intro i k h e;obtain⟨k,rfl⟩:∃k',k=k'+1:=⟨k-1,by omega⟩
   rw[a k i (by omega)];exact f (i+1) k (by omega) (by omega)
 exact key n 0 F (by omega) c
abbrev Small(F n:Nat):Prop:=n<=140737488355328/\n<F
def ot(b:UInt8):Bool:=((((decide (97<=(b.toNat:Int)))&&(decide ((b.toNat:Int)<=122)))||((decide (65<=(b.toNat:Int)))&&(decide ((b.toNat:Int)<=90))))||((decide (48<=(b.toNat:Int)))&&(decide ((b.toNat:Int)<=57))))||(decide ((b.toNat:Int)=95))
def fJ(s:List UInt8):Bool:=(s.findSome? λ b=>if ot b then none else some ()).isNone&&decide (s≠[])&&decide (s.length<=20)
theorem tI{F:Nat}{s:List UInt8}(h:Small F s.length):na F s=some (fJ s):=by
 unfold na;have l1:=each (l:=s) (L:=rB s) (λ b=>if ot b then none else some false) h.1 (λ k i x a=>by
  rw[rB,cc (bb.1 a).1,lY,bK a,ae];show cond (!ot x) _ _=_
  cases ot x<;>rfl) (λ k=>by rw[rB,cb];rfl) h.2
 rw[l1];unfold fJ;have e:∀s:List UInt8,s.findSome? (λ b=>if ot b then none else some false)=(s.findSome? (λ b=>if ot b then none else some ())).map (λ _=>false):=by
  intro s;induction s with
  |nil=>rfl
  |cons b r c=>simp only[iL];cases ot b<;>simp[c]
 rw[e];cases s.findSome? (λ b=>if ot b then none else some ())with
 |some _=>rfl
 |none=>simp only[iu,cP,xN,Option.isNone_none,lc];congr 1;rw[iN];cases s<;>first |(simp;done)|(simp;omega)
theorem w6{F:Nat}{s:List UInt8}(h:Small F s.length):kW F s=some (fJ s):=by
 rw[<-tI h];unfold kW na bytesOf;rw[lX h.1,ae];have e:∀k n,uI s k n=rB s k n:=by
  intro k;induction k with
  |zero=>intro n;rfl
  |succ k a=>
   intro n;rw[uI,rB];simp only[a];congr 1;congr 1;funext b;have hc:(((((decide ((b.toNat:Int)<97))||(decide (122<(b.toNat:Int))))&&((decide ((b.toNat:Int)<65))||(decide (90<(b.toNat:Int)))))&&((decide ((b.toNat:Int)<48))||(decide (57<(b.toNat:Int)))))&&(!decide ((b.toNat:Int)=95)))= !ot b:=by unfold ot;rw[iN];first |(simp;done)|(simp;omega)
   rw[hc];rfl
 rw[e];cases rB s F 0 with
 |none=>rfl
 |some w=>
  cases w with
  |out r=>rfl
  |go u=>simp only[xN];congr 1;rw[iN];cases s<;>first |(simp;done)|(simp;omega)
def kindOk(k:Kind):Bool:=if k.Kind=3\/k.Kind=4 then fJ k.ap else(decide (k.Kind=1)||decide (k.Kind=2))&&decide (k.ap=[])
theorem J0{F:Nat}{k:Kind}(h:Small F k.ap.length):qh F k=some (kindOk k):=by unfold qh DP kindOk;simp only[ae,w6 h];by_cases a:k.Kind=3\/k.Kind=4;rw[lX a];rcases a with e |e<;>simp[e];rw[lW a];have aL: ¬k.Kind=3:=λ e=>a (.inl e);have bB: ¬k.Kind=4:=λ e=>a (.inr e);simp[aL,bB]
theorem Gn{F:Nat}{k:Kind}(h:Small F k.ap.length):tJ F k=some (kindOk k):=by unfold tJ kindOk;simp only[tI h,ae];by_cases a:k.Kind=3\/k.Kind=4;rw[lX a];rcases a with e |e<;>simp[e];rw[lW a];have aL: ¬k.Kind=3:=λ e=>a (.inl e);have bB: ¬k.Kind=4:=λ e=>a (.inr e);by_cases I:k.Kind=1;simp[I];by_cases J:k.Kind=2;simp[J];simp[aL,bB,I,J]
def gx(n a b:Int):Bool:=decide (a<=n)&&decide (n<=b)
def oB(h:Handler):Option Int:=if fJ h.ap then(if gx h.From 0 200&&gx h.To 0 200&&gx h.dJ 0 200 then none else some 3)else some 1
def qj(k:Kind):Option Int:=if kindOk k then none else some 7
def u6(m:Method):Int:=
 if fJ m.Name then
  if 4<m.b9.length\/200<m.Code.length\/4<m.cj.length then 2
  else if gx m.gh 0 10&&gx m.gg 0 10 then
   match m.b9.findSome? qj with
   |some e=>e
   |none=>if m.Returns=⟨0,[]⟩\/kindOk m.Returns=true then(m.cj.findSome? oB).getD 0 else 7
  else 3
 else 1
structure Method.Fits (F:Nat) (m:Method):Prop where
 name:Small F m.Name.length
 args:Small F m.b9.length
 arg:∀k∈m.b9,Small F k.ap.length
 ret:Small F m.Returns.ap.length
 wP:Small F m.cj.length
 hand:∀h∈m.cj,Small F h.ap.length
structure ap.Fits (F:Nat) (c:ap):Prop where
 name:Small F c.Name.length
 super:Small F c.b_.length
 fields:Small F c.Fields.length
 field:∀f∈c.Fields,Small F f.Name.length/\Small F f.Kind.ap.length
 methods:Small F c.a1.length
 method:∀m∈c.a1,m.Fits F
def Fits(F:Nat)(l:List ap):Prop:=Small F l.length/\∀c∈l,c.Fits F
theorem VU{F:Nat}(o:Option Int)(d:Int):cT (α:=Unit) (some (cP o)) (λ _=>some d)=some (o.getD d):=by cases o<;>rfl
theorem VV{o:Option Int}{k:Option Int}:cT (α:=Unit) (some (cP o)) (λ _=>k)=(match o with|some e=>some e |none=>k):=by cases o<;>rfl
theorem afm{F:Nat}{m:Method}(h:m.Fits F):uL F m=some (u6 m):=by
 have l1:sb F m F 0=some (cP (m.b9.findSome? qj)):=each qj h.args.1 (λ k i x a=>by
  rw[sb,cc (bb.1 a).1,lY,bK a,ae,J0 (h.arg x (cU a)),ae];unfold qj;show cond (!kindOk x) _ _=_
  cases kindOk x<;>rfl) (λ k=>by rw[sb,cb];rfl) h.args.2
 have c:∀ {x:Handler}(_:x∈m.cj)(Y:Option (Way Int Unit)),((kW F x.ap).bind λ f=>
  cond (!f) (some (.out 1)) ((j9 x.From 0 200).bind λ g=>
  cond (!g) (some (.out 3)) ((j9 x.To 0 200).bind λ j=>
  cond (!j) (some (.out 3)) ((j9 x.dJ 0 200).bind λ l=>
  cond (!l) (some (.out 3)) Y))))=hE (oB x) Y:=by
  intro x a Y
  rw[w6 (h.hand x a)]
  unfold oB j9
  simp only[ae]
  show cond (!fJ x.ap) _ (cond (!gx x.From 0 200) _ (cond (!gx x.To 0 200) _ (cond (!gx x.dJ 0 200) _ _)))=_
  cases fJ x.ap<;>cases gx x.From 0 200<;>cases gx x.To 0 200<;>cases gx x.dJ 0 200<;>rfl
 have n:uM F m F 0=some (cP (m.cj.findSome? oB)):=each oB h.wP.1 (λ k i x a=>by rw[uM,cc (bb.1 a).1,lY,bK a,ae];exact c (cU a) _) (λ k=>by rw[uM,cb];rfl) h.wP.2;have o:nC F m F 0=some (cP (m.cj.findSome? oB)):=each oB h.wP.1 (λ k i x a=>by rw[nC,cc (bb.1 a).1,lY,bK a,ae];exact c (cU a) _) (λ k=>by rw[nC,cb];rfl) h.wP.2;unfold uL j9 u6;rw[w6 h.name,l1,n,o];have p:=J0 (F:=F) (k:=(⟨m.Returns.Kind,m.Returns.ap⟩:Kind)) h.ret;simp only[ae,p,VU (F:=F),VV];cases fJ m.Name with
 |false=>rfl
 |true=>
  simp only[gZ,l0,if_true];by_cases d:4<m.b9.length\/200<m.Code.length\/4<m.cj.length
  ·rw[lX d];have:((decide (4<(m.b9.length:Int)))||(decide (200<(m.Code.length:Int)))||(decide (4<(m.cj.length:Int))))=true:=by simp;omega
   rw[this];rfl
  ·rw[lW d];have:((decide (4<(m.b9.length:Int)))||(decide (200<(m.Code.length:Int)))||(decide (4<(m.cj.length:Int))))=false:=by simp;omega
   rw[this];show cond (!gx m.gh 0 10) _ (cond (!gx m.gg 0 10) _ _)=_
   cases gx m.gh 0 10<;>cases gx m.gg 0 10<;>try rfl
   simp only[gZ,l0,ld,if_true];cases m.b9.findSome? qj with
   |some e=>rfl
   |none=>
    simp only;by_cases b:m.Returns=⟨0,[]⟩
    ·rw[lX (.inl b),show(decide ((⟨m.Returns.Kind,m.Returns.ap⟩:Kind)=⟨0,[]⟩))=true from lP b];rfl
    ·rw[show(decide ((⟨m.Returns.Kind,m.Returns.ap⟩:Kind)=⟨0,[]⟩))=false from lQ b];simp only[ko,lY];show cond (!kindOk m.Returns) _ _=_
     cases DA:kindOk m.Returns with
     |true=>rw[lX (.inr rfl)];rfl
     |false=>rw[lW (by simp[b])];rfl
theorem YF{F:Nat}{m:Method}(h:m.Fits F):yJ F m=some (u6 m):=by
 have l1:yK F m F 0=some (cP (m.b9.findSome? qj)):=each qj h.args.1 (λ k i x c=>by rw[yK,cc (bb.1 c).1,lY,bK c,ae,Gn (h.arg x (cU c)),ae];unfold qj;cases kindOk x<;>rfl) (λ k=>by rw[yK,cb];rfl) h.args.2;have j:yL F m F 0=some (cP (m.cj.findSome? oB)):=each oB h.wP.1 (λ k i x c=>by
  rw[yL,cc (bb.1 c).1,lY,bK c,ae,tI (h.hand x (cU c))];unfold oB tL;simp only[ae];show cond (!fJ x.ap) _ (cond (!gx x.From 0 200) _ (cond (!gx x.To 0 200) _ (cond (!gx x.dJ 0 200) _ _)))=_
  cases fJ x.ap<;>cases gx x.From 0 200<;>cases gx x.To 0 200<;>cases gx x.dJ 0 200<;>rfl) (λ k=>by rw[yL,cb];rfl) h.wP.2
 unfold yJ tL u6;rw[tI h.name,l1,j];have l:=Gn (F:=F) (k:=(⟨m.Returns.Kind,m.Returns.ap⟩:Kind)) h.ret;simp only[ae,l,VU (F:=F),VV];cases fJ m.Name with
 |false=>rfl
 |true=>
  simp only[gZ,l0,if_true];by_cases f:4<m.b9.length\/200<m.Code.length\/4<m.cj.length
  ·rw[lX f];have:((decide (4<(m.b9.length:Int)))||(decide (200<(m.Code.length:Int)))||(decide (4<(m.cj.length:Int))))=true:=by simp;omega
   rw[this];rfl
  ·rw[lW f];have:((decide (4<(m.b9.length:Int)))||(decide (200<(m.Code.length:Int)))||(decide (4<(m.cj.length:Int))))=false:=by simp;omega
   rw[this];show cond (!gx m.gh 0 10) _ (cond (!gx m.gg 0 10) _ _)=_
   cases gx m.gh 0 10<;>cases gx m.gg 0 10<;>try rfl
   simp only[gZ,l0,ld,if_true];cases m.b9.findSome? qj with
   |some e=>rfl
   |none=>
    simp only;show cond ((!kindOk m.Returns)&&_) _ _=_
    by_cases d:m.Returns=⟨0,[]⟩
    ·rw[lX (.inl d),d];simp
    ·have n:((!decide (m.Returns.Kind=0))||(!decide (m.Returns.ap=[])))=true:=by
      rcases o:m.Returns with⟨a,b⟩;rw[o]at d;by_cases g:a=0
      ·by_cases ag:b=[]
       ·subst g;subst ag;exact absurd rfl d
       ·simp[ag]
      ·simp[g]
     rw[n];cases DA:kindOk m.Returns with
     |true=>rw[lX (.inr rfl)];rfl
     |false=>rw[lW (by simp[d])];rfl
def gN(f:Field):Option Int:=if fJ f.Name then(if kindOk f.Kind then none else some 7)else some 1
def fM(e:Int):Option Int:=if e=0 then none else some e
def fz(m:Method):Option Int:=fM (u6 m)
def wk(c:ap):Int:=
 if fJ c.Name&&(decide (c.b_=[])||fJ c.b_)then
  if 6<c.Fields.length\/8<c.a1.length then 2
  else(c.Fields.findSome? gN).getD ((c.a1.findSome? fz).getD 0)
 else 1
def nk(c:ap):Option Int:=fM (wk c)
def rM(l:List ap):Int:=if 10<l.length then 2 else(l.findSome? nk).getD 0
def o6{ρ:Type}(o:Option ρ)(y:Option ρ):Option ρ:=match o with
 |some e=>some e
 |none=>y
theorem Li{e:Int}{Y:Option (Way Int Unit)}:cond (!decide (e=0)) (some (.out e)) Y=hE (fM e) Y:=by unfold fM hE;by_cases h:e=0;rw[lX h,lP h];rfl;rw[lW h,lQ h];rfl
theorem Pw{a b:Nat}(x y:Nat):((decide ((x:Int)<(a:Int)))||(decide ((y:Int)<(b:Int))))=decide (x<a\/y<b):=by rw[iN];simp
theorem k8{o:Option Int}{k:Unit->Option (Way Int Unit)}:dj (α:=Unit) (some (cP o)) k=hE o (k ()):=by cases o<;>rfl
theorem kj{ρ:Type}{o:Option ρ}{k:Unit->Option ρ}:cT (α:=Unit) (some (cP o)) k=o6 o (k ()):=by cases o<;>rfl
theorem mX{o:Option Int}{Y:Option (Way Int Unit)}{k:Unit->Option (Way Int Unit)}:dj (α:=Unit) (hE o Y) k=hE o (dj (α:=Unit) Y k):=by cases o<;>rfl
section
variable{F:Nat}
theorem afl{c:ap}(h:c.Fits F):Ad F c=some (wk c):=by
 have d:∀ {x:Field}(_:x∈c.Fields)(Y:Option (Way Int Unit)),((kW F x.Name).bind λ n=>
  cond (!n) (some (.out 1)) ((qh F (⟨x.Kind.Kind,x.Kind.ap⟩:Kind)).bind λ o=>
  cond (!o) (some (.out 7)) Y))=hE (gN x) Y:=by
  intro x a Y
  rw[w6 (h.field x a).1,J0 (k:=(⟨x.Kind.Kind,x.Kind.ap⟩:Kind)) (h.field x a).2]
  unfold gN
  simp only[ae]
  show cond (!fJ x.Name) _ (cond (!kindOk x.Kind) _ _)=_
  cases fJ x.Name<;>cases kindOk x.Kind<;>rfl
 have f:∀ {x:Method}(_:x∈c.a1)(Y:Option (Way Int Unit)),((uL F (⟨x.Name,x.Static,x.b9,(⟨x.Returns.Kind,x.Returns.ap⟩:Kind),x.gh,x.gg,x.Code,x.cj⟩:Method)).bind λ g=>
  cond (!decide (g=0)) (some (.out g)) Y)=hE (fz x) Y:=by
  intro x a Y
  have:=afm (F:=F) (m:=(⟨x.Name,x.Static,x.b9,(⟨x.Returns.Kind,x.Returns.ap⟩:Kind),x.gh,x.gg,x.Code,x.cj⟩:Method)) (h.method x a)
  rw[this,ae]
  exact Li
 have l1:uJ F c F 0=some (cP (c.Fields.findSome? gN)):=each gN h.fields.1 (λ k i x a=>by rw[uJ,cc (bb.1 a).1,lY,bK a,ae];exact d (cU a) _) (λ k=>by rw[uJ,cb];rfl) h.fields.2;have q:qg F c F 0=some (cP (c.Fields.findSome? gN)):=each gN h.fields.1 (λ k i x a=>by rw[qg,cc (bb.1 a).1,lY,bK a,ae];exact d (cU a) _) (λ k=>by rw[qg,cb];rfl) h.fields.2;have r:uK F c F 0=some (cP (c.a1.findSome? fz)):=each fz h.methods.1 (λ k i x a=>by rw[uK,cc (bb.1 a).1,lY,bK a,ae];exact f (cU a) _) (λ k=>by rw[uK,cb];rfl) h.methods.2;have s:nB F c F 0=some (cP (c.a1.findSome? fz)):=each fz h.methods.1 (λ k i x a=>by rw[nB,cc (bb.1 a).1,lY,bK a,ae];exact f (cU a) _) (λ k=>by rw[nB,cb];rfl) h.methods.2;unfold Ad wk;rw[w6 h.name,w6 h.super,l1,r,q,s];simp only[ae,kj,show(6 :Int)=((6 :Nat):Int) from rfl,show(8 :Int)=((8 :Nat):Int) from rfl,Pw];cases fJ c.Name with
 |false=>rfl
 |true=>
  simp only[gZ,l0,lc]
  have j:∀p:Bool,p=decide (6<c.Fields.length\/8<c.a1.length)->cond p (some (2 :Int)) (o6 (c.Fields.findSome? gN) (o6 (c.a1.findSome? fz) (some 0)))=
   some (if 6<c.Fields.length\/8<c.a1.length then 2 else(c.Fields.findSome? gN).getD ((c.a1.findSome? fz).getD 0)):=by
   intro p t
   subst t
   by_cases b:6<c.Fields.length\/8<c.a1.length
   ·rw[lX b,lP b];rfl
   ·rw[lW b,lQ b];cases c.Fields.findSome? gN with
    |some e=>rfl
    |none=>cases c.a1.findSome? fz<;>rfl
  by_cases l:c.b_=[]
  ·rw[lP l];simp only[gZ,l0,Bool.true_or,if_true];exact j _ rfl
  ·rw[lQ l];simp only[ko,lY,Bool.false_or];cases fJ c.b_ with
   |false=>rfl
   |true=>simp only[gZ,l0,if_true];exact j _ rfl
theorem afk{l:List ap}(h:Fits F l):Ac F l=some (rM l):=by have l1:sa F l F 0=some (cP (l.findSome? nk)):=each nk h.1.1 (λ k i x a=>by rw[sa,cc (bb.1 a).1,lY,bK a,ae,afl (c:=(⟨x.Name,x.b_,x.Fields,x.a1⟩:ap)) (h.2 x (cU a)),ae];exact Li) (λ k=>by rw[sa,cb];rfl) h.1.2;unfold Ac rM;rw[l1,kj];by_cases b:10<l.length;rw[lX b,lP (show(10 :Int)<(l.length:Int) by omega)];rfl;rw[lW b,lQ (show¬(10 :Int)<(l.length:Int) by omega)];cases l.findSome? nk<;>rfl
theorem YE{l:List ap}(h:Fits F l):Gl F l=some (rM l):=by
 have body:∀ {c:ap}(_:c.Fits F),yr F c F 0=some (cP (c.Fields.findSome? gN))/\yu F c F 0=some (cP (c.Fields.findSome? gN))/\yt F c F 0=some (cP (c.a1.findSome? fz))/\yv F c F 0=some (cP (c.a1.findSome? fz)):=by
  intro c hc
  have b:∀ {x:Field}(_:x∈c.Fields)(i:Int)(_:idx c.Fields i=some x)(Y:Option (Way Int Unit)),((na F x.Name).bind λ r=>
   cond (!r) (some (.out 1)) ((idx c.Fields i).bind λ x=>(tJ F (⟨x.Kind.Kind,x.Kind.ap⟩:Kind)).bind λ s=>
   cond (!s) (some (.out 7)) Y))=hE (gN x) Y:=by
   intro x a i hi Y
   rw[tI (hc.field x a).1,hi]
   unfold gN
   simp only[ae]
   rw[Gn (k:=(⟨x.Kind.Kind,x.Kind.ap⟩:Kind)) (hc.field x a).2,ae]
   show cond (!fJ x.Name) _ (cond (!kindOk x.Kind) _ _)=_
   cases fJ x.Name<;>cases kindOk x.Kind<;>rfl
  have d:∀ {x:Method}(_:x∈c.a1)(Y:Option (Way Int Unit)),((yJ F x).bind λ m=>
   cond (!decide (m=0)) (some (.out m)) Y)=hE (fz x) Y:=by
   intro x a Y
   rw[YF (hc.method x a),ae]
   exact Li
  refine⟨each gN hc.fields.1 (λ k i x a=>?_) (λ k=>by rw[yr,cb];rfl) hc.fields.2,each gN hc.fields.1 (λ k i x a=>?_) (λ k=>by rw[yu,cb];rfl) hc.fields.2,
   each fz hc.methods.1 (λ k i x a=>?_) (λ k=>by rw[yt,cb];rfl) hc.methods.2,each fz hc.methods.1 (λ k i x a=>?_) (λ k=>by rw[yv,cb];rfl) hc.methods.2⟩
  ·rw[yr,cc (bb.1 a).1,lY,bK a,ae];rw[<-bK a];exact b (cU a) _ (bK a) _
  ·rw[yu,cc (bb.1 a).1,lY,bK a,ae];rw[<-bK a];exact b (cU a) _ (bK a) _
  ·rw[yt,cc (bb.1 a).1,lY,bK a,ae];exact d (cU a) _
  ·rw[yv,cc (bb.1 a).1,lY,bK a,ae];exact d (cU a) _
 have l1:yq F l F 0=some (cP (l.findSome? nk)):=each nk h.1.1 (λ k i c a=>by
  have hc:=h.2 c (cU a);obtain⟨t,u,v,w⟩:=body hc;rw[yq,cc (bb.1 a).1,lY,bK a,ae,tI hc.name,tI hc.super,t,v,u,w];simp only[ae,k8,show(6 :Int)=((6 :Nat):Int) from rfl,show(8 :Int)=((8 :Nat):Int) from rfl,Pw];unfold nk wk;cases fJ c.Name with
  |false=>rfl
  |true=>
   simp only[gZ,l0,lc]
   have n:∀(p:Bool)(Y:Option (Way Int Unit)),p=decide (6<c.Fields.length\/8<c.a1.length)->dj (α:=Unit) (cond p (some (.out (2 :Int))) (hE (c.Fields.findSome? gN) (hE (c.a1.findSome? fz) (some (.go ()))))) (λ _=>Y)=
    hE (fM (if 6<c.Fields.length\/8<c.a1.length then 2 else(c.Fields.findSome? gN).getD ((c.a1.findSome? fz).getD 0))) Y:=by
    intro p Y y
    subst y
    by_cases f:6<c.Fields.length\/8<c.a1.length
    ·rw[lX f,lP f];rfl
    ·rw[lW f,lQ f,l0];have g:∀e,c.Fields.findSome? gN=some e->fM e=some e:=by intro e j;obtain⟨x,_,a⟩:=ee j;unfold gN at a;split at a;split at a;cases a;injection a with a;subst a;rfl;injection a with a;subst a;rfl
     have z:∀e,c.a1.findSome? fz=some e->fM e=some e:=by intro e j;obtain⟨x,_,a⟩:=ee j;unfold fz at a;unfold fM at a⊢;split at a;cases a;rename_i A;injection a with a;subst a;rw[lW A]
     cases b:c.Fields.findSome? gN with
     |some e=>simp only[ia,g e b];rfl
     |none=>
      cases d:c.a1.findSome? fz with
      |some e=>simp only[ia,iT,z e d];rfl
      |none=>rfl
   by_cases o:c.b_=[]
   ·rw[lP o];simp only[gZ,l0,Bool.true_or,if_true];exact n _ _ rfl
   ·rw[lQ o];simp only[ko,lY,Bool.false_or];cases fJ c.b_ with
    |false=>rfl
    |true=>simp only[gZ,l0,if_true];exact n _ _ rfl) (λ k=>by rw[yq,cb];rfl) h.1.2
 unfold Gl rM;rw[l1,kj];by_cases q:10<l.length;rw[lX q,lP (show(10 :Int)<(l.length:Int) by omega)];rfl;rw[lW q,lQ (show¬(10 :Int)<(l.length:Int) by omega)];cases l.findSome? nk<;>rfl
end
structure Right (l:List ap):Prop where
 len:l.length<=10
 name:∀c∈l,fJ c.Name=true
 fields:∀c∈l,c.Fields.length<=6
 methods:∀c∈l,c.a1.length<=8
 method:∀c∈l,∀m∈c.a1,m.b9.length<=4/\m.cj.length<=4
theorem ag7{m:Method}(h:u6 m=0):m.b9.length<=4/\m.cj.length<=4:=by unfold u6 at h;split at h;split at h;exact absurd h (by decide);rename_i I;exact⟨by omega,by omega⟩;exact absurd h (by decide)
theorem ah6{e:Int}(h:fM e=none):e=0:=by unfold fM at h;split at h;assumption;cases h
theorem ah7{e x:Int}(h:fM e=some x):x≠0:=by unfold fM at h;split at h;cases h;rename_i a;injection h with h;subst h;exact a
theorem afw{s:List UInt8}(h:fJ s=true):s≠[]:=by unfold fJ at h;simp only[bL,decide_eq_true_eq]at h;exact h.1.2
theorem Zm{l:List ap}(h:rM l=0):Right l:=by
 unfold rM at h;by_cases g:10<l.length;rw[lX g]at h;exact absurd h (by decide)
 ·rw[lW g]at h
  have i:∀c∈l,wk c=0:=by
   intro c hc;cases d:l.findSome? nk with
   |some e=>rw[d]at h;simp only[ia]at h;subst h;obtain⟨x,_,a⟩:=ee d;unfold nk fM at a;split at a;cases a;rename_i j;injection a with a;exact absurd a j
   |none=>have:=fQ.1 d c hc;unfold nk fM at this;split at this;assumption;cases this
  have key:∀c∈l,fJ c.Name=true/\c.Fields.length<=6/\c.a1.length<=8/\∀m∈c.a1,m.b9.length<=4/\m.cj.length<=4:=by
   intro c hc;have b:=i c hc;unfold wk at b;split at b
   ·rename_i I;simp only[bL]at I;split at b;exact absurd b (by decide)
    ·rename_i J;refine⟨I.1,by omega,by omega,λ m k=>?_⟩;cases d:c.Fields.findSome? gN with
     |some e=>rw[d]at b;simp only[ia]at b;subst b;obtain⟨x,_,a⟩:=ee d;unfold gN at a;split at a;split at a;cases a;injection a with a;exact absurd a (by decide);injection a with a;exact absurd a (by decide)
     |none=>
      rw[d]at b;simp only[iT]at b;cases f:c.a1.findSome? fz with
      |some e=>rw[f]at b;simp only[ia]at b;subst b;obtain⟨x,_,a⟩:=ee f;exact absurd rfl (ah7 a)
      |none=>exact ag7 (ah6 (fQ.1 f m k))
   ·exact absurd b (by decide)
  exact⟨by omega,λ c hc=>(key c hc).1,λ c hc=>(key c hc).2.1,λ c hc=>(key c hc).2.2.1,λ c hc=>(key c hc).2.2.2⟩
def dH{α:Type}(p:α->Bool):List α->Option Nat
 |[]=>none
 |x::r=>if p x then some 0 else(dH p r).map (·+1)
theorem xw{α:Type}{p:α->Bool}:∀ {l:List α}{i:Nat},dH p l=some i->∃x,l[i]? =some x/\p x=true/\∀j y,j<i->l[j]? =some y->p y=false
 |[],i,h=>by simp[dH]at h
 |x::r,i,h=>by
  simp only[dH]at h;split at h;rename_i a;injection h with h;subst h;exact⟨x,rfl,a,λ j y d=>absurd d (by omega)⟩
  ·rename_i a;cases b:dH p r with
   |none=>rw[b]at h;cases h
   |some k=>
    rw[b]at h;simp only[fU,aK]at h;subst h;obtain⟨y,I,J,e⟩:=xw b;refine⟨y,by simpa using I,J,λ j z d c=>?_⟩;cases j with
    |zero=>simp only[dX,aK]at c;subst c;simpa using a
    |succ j=>exact e j z (by omega) (by simpa using c)
theorem LA{α:Type}{p:α->Bool}:∀ {l:List α},dH p l=none->∀x∈l,p x=false
 |[],_,x,a=>by cases a
 |y::r,h,x,a=>by
  simp only[dH]at h;split at h;cases h
  ·rename_i b;have c:dH p r=none:=by simpa using h
   rcases dc.1 a with rfl |e;simpa using b;exact LA c x e
theorem air{α:Type}{p:α->Bool}{l:List α}{i:Nat}{x:α}(hi:l[i]? =some x)(a:p x=true)(ag:∀j y,j<i->l[j]? =some y->p y=false):dH p l=some i:=by
 cases h:dH p l with
 |none=>have:=LA h x (cU hi);rw[a]at this;cases this
 |some j=>obtain⟨y,I,J,b⟩:=xw h;rcases Nat.lt_trichotomy i j with e |e |e;have:=b i x e hi;rw[a]at this;cases this;rw[e];have:=ag j y e I;rw[J]at this;cases this
theorem Lz{α:Type}{p:α->Bool}{l:List α}{i:Nat}(h:dH p l=some i):i<l.length:=by obtain⟨x,I,_⟩:=xw h;exact(bb.1 I).1
theorem HS{α ρ:Type}{l:List α}{L:Nat->Int->Option (Way ρ Unit)}(p:α->Bool)(f:Nat->ρ)(a:l.length<=140737488355328)
 (b:∀k (i:Nat) x,l[i]? =some x->L (k+1) (i:Int)=cond (p x) (some (.out (f i))) (L k (bj ((i:Int)+1))))
 (c:∀k,L (k+1) (l.length:Int)=some (.go ())){F:Nat}(e:l.length<F):L F 0=some (cP ((dH p l).map f)):=by
 have key:∀(d i k:Nat),i+d=l.length->d<k->L k (i:Int)=some (cP ((dH p (l.drop i)).map λ j=>f (i+j))):=by
  intro d;induction d with
  |zero=>
   intro i k h g;obtain⟨k,rfl⟩:∃k',k=k'+1:=⟨k-1,by omega⟩
   have hi:i=l.length:=by omega
   subst hi;rw[c];simp[cP,dH]
  |succ d m=>
   intro i k h g;obtain⟨k,rfl⟩:∃k',k=k'+1:=⟨k-1,by omega⟩
   have hi:i<l.length:=by omega
   rw[b k i l[i] (bu hi),hO hi,dH];cases n:p l[i]with
   |true=>simp[cP]
   |false=>simp only[l0,ie,if_false];rw[gJ hi a,m (i+1) k (by omega) (by omega)];congr 2;rw[Option.map_map];congr 1;funext j;simp only[Function.comp];congr 1;omega
 have:=key l.length 0 F (by omega) e
 simpa using this
def gp(nm:List UInt8)(c:ap):Bool:=decide (c.Name=nm)
def bt(l:List ap)(nm:List UInt8):Int:=((dH (gp nm) l).map λ n:Nat=>(n:Int)).getD (-1)
theorem rA{F:Nat}{l:List ap}(h:Small F l.length)(nm:List UInt8):m' F l nm=some (bt l nm):=by unfold m' bt;have l1:yM l nm F 0=some (cP ((dH (gp nm) l).map λ n:Nat=>(n:Int))):=HS (gp nm) _ h.1 (λ k i x a=>by rw[yM,cc (bb.1 a).1,lY,bK a,ae];rfl) (λ k=>by rw[yM,cb];rfl) h.2;rw[l1,kj];cases dH (gp nm) l<;>rfl
theorem hP{l:List ap}{nm:List UInt8}:bt l nm<l.length:=by
 unfold bt;cases h:dH (gp nm) l with
 |none=>simp only[iu,iT];omega
 |some i=>have:=Lz h;simp only[fU,ia];omega
theorem Ph{l:List ap}{nm:List UInt8}:bt l nm<0↔dH (gp nm) l=none:=by
 unfold bt;cases h:dH (gp nm) l with
 |none=>simp
 |some i=>simp only[fU,ia];constructor<;>intro h<;>first |omega |cases h
theorem vq{α:Type}{l:List α}{i:Nat}{x:α}(h:l[i]? =some x):l.set i x=l:=by obtain⟨a,e⟩:=bb.1 h;rw[<-e,lv]
theorem CN{α:Type}{b:Nat}{l:List α}(h:l.length*b<=140737488355328):(b2 b ([]:List α) l).bind (λ l=>some l)=some l:=by unfold b2;rw[lX (by simpa using h)];simp
theorem aij{F:Nat}{l:List ap}(p:100<F)(h:Right l):Av F l=some l:=by
 have f:∀(dV:List Method),dV.length<=8 ->(∀m∈dV,m.b9.length<=4/\m.cj.length<=4)->oX F dV (dV.length:Int) 0=some dV:=by
  intro dV g b;refine KG (n:=dV.length) (λ k i=>oX k dV (dV.length:Int) (i:Int)) dV (λ k i hi=>?_) (λ k=>?_) (F:=F) (by omega)
  ·obtain⟨x,a⟩:∃x,dV[i]? =some x:=⟨dV[i],bu hi⟩
   have ag:=b x (cU a);show oX (k+1) dV (dV.length:Int) (i:Int)=_
   rw[oX,cc hi,lY,bK a,ae];unfold MQ MP;rw[CN (by omega),ae,CN (by omega),ae,ae,ae];have j:dV.set (i:Int).toNat (⟨x.Name,x.Static,x.b9,(⟨x.Returns.Kind,x.Returns.ap⟩:Kind),x.gh,x.gg,x.Code,x.cj⟩:Method)=dV:=vq (i:=i) a;simp only[j,bK a,ae];rw[gJ hi (by omega)]
  ·show oX (k+1) dV (dV.length:Int) (dV.length:Int)=_
   rw[oX,cb];rfl
 unfold Av;have o:nM F l F [] 0=some l:=by
  refine KG (n:=l.length) (λ k i=>nM F l k (l.take i) (i:Int)) l (λ k i hi=>?_) (λ k=>?_) (F:=F) (by have:=h.len;omega)
  ·obtain⟨x,a⟩:∃x,l[i]? =some x:=⟨l[i],bu hi⟩
   have c:=cU a;have q:=h.fields x c;have b:=h.methods x c;have d:=h.len;show nM F l (k+1) (l.take i) (i:Int)=_
   rw[nM,cc hi,lY,bK a,ae];unfold MO MR;rw[CN (by omega),ae,CN (by omega),ae,f x.a1 b (h.method x c),ae];unfold b2;rw[lX (by simp only[gf,df,gw];omega)];simp only[ae];rw[gJ hi (by omega)];have e:l.take i++[(⟨x.Name,x.b_,x.Fields,x.a1⟩:ap)]=l.take (i+1):=by rw[j7,a];rfl
   rw[e]
  ·show nM F l (k+1) (l.take l.length) (l.length:Int)=_
   rw[nM,cb,kg];rfl
 rw[o];rfl
def dZ:Nat->List ap->List (List UInt8×Int)
 |_,[]=>[]
 |k,c::r=>(c.Name,(k:Int))::dZ (k+1) r
theorem xl(nm:List UInt8):∀(l:List ap)(k:Nat),eU (dZ k l) nm=(dH (gp nm) l).map λ n:Nat=>((n+k:Nat):Int)
 |[],k=>rfl
 |c::r,k=>by simp only[dZ,eU,dH,gp];by_cases h:c.Name=nm;simp[h];simp only[h,if_false,decide_false,ie];rw[xl nm r (k+1),Option.map_map];congr 1;funext j;simp only[Function.comp];congr 1;omega
theorem TP(c:ap):∀(l:List ap)(k:Nat),dZ k (l++[c])=dZ k l++[(c.Name,((k+l.length:Nat):Int))]
 |[],k=>by simp[dZ]
 |d::r,k=>by simp only[iO,dZ,df];rw[TP c r (k+1)];congr 4;omega
theorem TF{b6 β:Type} [DecidableEq b6]{k:b6}{v:β}:∀ {m:List (b6×β)},eU m k=none->k0 m k v=m++[(k,v)]
 |[],_=>rfl
 |p::r,h=>by simp only[eU]at h;split at h;cases h;rename_i a;simp only[k0,lW a,iO];rw[TF h]
def tF(l:List ap):Prop:=∀(i j:Nat)(x y:ap),l[i]? =some x->l[j]? =some y->x.Name=y.Name->i=j
theorem Ln{l:List ap}(h:tF l){i:Nat}{x:ap}(hi:l[i]? =some x):bt l x.Name=(i:Int):=by unfold bt;rw[air (i:=i) hi (by simp[gp]) (λ j y a hy=>by simp only[gp,decide_eq_false_iff_not];intro e;have:=h j i y x hy hi e;omega)];rfl
theorem ahA{F:Nat}{l:List ap}(Q:100<F)(h:Right l) :
 (tF l/\lJ ⟨l,[],[]⟩ F [] 0=some (.go (dZ 0 l))/\tH F l F 0=some (.go ()))\/
 (¬tF l/\(∃m,lJ ⟨l,[],[]⟩ F [] 0=some (.out (6,m)))/\tH F l F 0=some (.out 6)):=by
 have w:=h.len
 have dg:tH F l F 0=some (cP ((fC l.length).findSome? λ i:Nat=>(l[i]?).bind λ x:ap=>if bt l x.Name=(i:Int)then none else some 6)):=lq _ (by omega) (λ k i hi=>by
  obtain⟨x,c⟩:∃x,l[i]? =some x:=⟨l[i],bu hi⟩
  rw[tH,cc hi,lY,bK c,ae,rA ⟨by omega,by omega⟩,ae,c,ae];by_cases e:bt l x.Name=(i:Int)
  ·rw[lX e,lP e];rfl
  ·rw[lW e,lQ e];rfl) (λ k=>by rw[tH,cb];rfl) (by omega)
 have key:∀(d i k:Nat),i+d=l.length->d<k->tF (l.take i) ->
  (tF l/\lJ ⟨l,[],[]⟩ k (dZ 0 (l.take i)) i=some (.go (dZ 0 l)))\/(¬tF l/\∃m,lJ ⟨l,[],[]⟩ k (dZ 0 (l.take i)) i=some (.out (6,m))):=by
  intro d
  induction d with
  |zero=>
   intro i k hi G n;obtain⟨k,rfl⟩:∃k',k=k'+1:=⟨k-1,by omega⟩
   have e:i=l.length:=by omega
   subst e;rw[kg]at n⊢;left;refine⟨n,?_⟩;rw[lJ,cb];rfl
  |succ d H=>
   intro i k hi G n;obtain⟨k,rfl⟩:∃k',k=k'+1:=⟨k-1,by omega⟩
   have o:i<l.length:=by omega
   obtain⟨x,c⟩:∃x,l[i]? =some x:=⟨l[i],bu o⟩
   rw[lJ,cc o,lY,bK c,ae,xl];cases p:dH (gp x.Name) (l.take i)with
   |some j=>
    right;obtain⟨y,I,J,_⟩:=xw p;refine⟨λ g=>?_,_,rfl⟩;have e6:j<i:=by have:=(bb.1 I).1;simp only[gf]at this;omega
    have hy:l[j]? =some y:=by rw[hG]at I;rw[lX e6]at I;exact I
    have:=g j i y x hy c (by simpa[gp]using J);omega
   |none=>
    simp only[iu,Option.isSome_none,l0];have r:eU (dZ 0 (l.take i)) x.Name=none:=by rw[xl,p];rfl
    rw[TF r,gJ o (by omega)];have K:l.take (i+1)=l.take i++[x]:=by rw[j7,c];rfl
    have al:dZ 0 (l.take i)++[(x.Name,(i:Int))]=dZ 0 (l.take (i+1)):=by rw[K,TP];congr 4;simp only[gf];omega
    rw[al];refine H (i+1) k (by omega) (by omega) ?_;intro a b u v f ag s;rw[hG]at f ag;split at f
    ·split at ag
     ·rename_i L R;have M:=LA p;have A:∀(q:Nat)(z:ap),q<i->l[q]? =some z->z.Name≠x.Name:=λ q z N O e=>by have:=M z (cU (i:=q) (by rw[hG,lX N];exact O));simp[gp,e]at this
      by_cases t:a=i;by_cases B:b=i;omega;subst t;rw[c]at f;injection f with f;subst f;exact absurd s.symm (A b v (by omega) ag);by_cases B:b=i;subst B;rw[c]at ag;injection ag with ag;subst ag;exact absurd s (A a u (by omega) f);exact n a b u v (by rw[hG,lX (by omega)];exact f) (by rw[hG,lX (by omega)];exact ag) s
     ·cases ag
    ·cases f
 have C:=key l.length 0 F (by omega) (by omega) (λ i j x y hi=>by simp at hi)
 have P:dZ 0 (l.take 0)=[]:=by simp[dZ]
 rw[P]at C
 rcases C with⟨g,I⟩|⟨g,I⟩
 ·left;refine⟨g,I,?_⟩;rw[dg]
  have:((fC l.length).findSome? λ i:Nat=>(l[i]?).bind λ x:ap=>if bt l x.Name=(i:Int)then none else some (6 :Int))=none:=by
   rw[fQ];intro i hi;obtain⟨x,c⟩:∃x,l[i]? =some x:=⟨l[i]'(by simpa using hi),bu _⟩
   rw[c,ae,lX (Ln g c)]
  rw[this];rfl
 ·right;refine⟨g,I,?_⟩;rw[dg];cases D:((fC l.length).findSome? λ i:Nat=>(l[i]?).bind λ x:ap=>if bt l x.Name=(i:Int)then none else some (6 :Int))with
  |some e=>
   obtain⟨i,_,hi⟩:=ee D;cases c:l[i]? with
   |none=>rw[c]at hi;cases hi
   |some x=>rw[c,ae]at hi;split at hi;cases hi;injection hi with hi;subst hi;rfl
  |none=>
   exfalso
   apply g
   have E:∀(i:Nat)(x:ap),l[i]? =some x->bt l x.Name=(i:Int):=by intro i x c;have:=fQ.1 D i (by have:=(bb.1 c).1;simpa using this);rw[c,ae]at this;split at this;assumption;cases this
   intro i j x y c hy e
   have I:=E i x c
   have J:=E j y hy
   rw[e]at I
   omega
def vF{ρ σ:Type}(o:Option ρ)(a:σ):Way ρ σ:=match o with
 |some r=>.out r
 |none=>.go a
def VY{ρ σ:Type}(o:Option ρ)(y:Option (Way ρ σ)):Option (Way ρ σ):=match o with
 |some r=>some (.out r)
 |none=>y
theorem Gu{ρ σ:Type}{n:Nat}(T:Nat->Nat->Option (Way ρ σ))(g:Nat->Option ρ)(fin:σ)(a:∀k i,i<n->T (k+1) i=VY (g i) (T k (i+1)))(b:∀k,T (k+1) n=some (.go fin)){F:Nat}(c:n<F) :
 T F 0=some (vF ((fC n).findSome? g) fin):=by
 have key:∀(d i k:Nat),i+d=n->d<k->T k i=some (vF (((fC n).drop i).findSome? g) fin):=by
  intro d;induction d with
  |zero=>
   intro i k h e;obtain⟨k,rfl⟩:∃k',k=k'+1:=⟨k-1,by omega⟩
   have hi:i=n:=by omega
   subst hi;rw[b,ig (by simp)];rfl
  |succ d f=>
   intro i k h e;obtain⟨k,rfl⟩:∃k',k=k'+1:=⟨k-1,by omega⟩
   have hi:i<n:=by omega
   rw[a k i hi,hO (by simpa using hi),iL];simp only[List.getElem_range];cases j:g i with
   |some r=>rfl
   |none=>simp only[VY];exact f (i+1) k (by omega) (by omega)
 have:=key n 0 F (by omega) c
 simpa using this
theorem Dg{α β ck:Type}(g:α->Option β)(f:β->ck):∀l:List α,l.findSome? (λ c=>(g c).map f)=(l.findSome? g).map f
 |[]=>rfl
 |c::r=>by
  simp only[iL];cases g c with
  |some e=>rfl
  |none=>simp only[iu];exact Dg g f r
def ct(l:List ap):List Int:=l.map λ c=>bt l c.b_
theorem MU{l:List ap}{i:Nat}{x:ap}(h:l[i]? =some x):(ct l)[i]? =some (bt l x.b_):=by simp[ct,h]
def n2(c:ap):Option Int:=if(decide (c.Name=[79,98,106,101,99,116]))==(decide (c.b_=[]))then none else some 4
def mL(l:List ap)(c:ap):Option Int:=if c.b_=[]\/0<=bt l c.b_ then none else some 5
section
variable{F:Nat}{l:List ap}
theorem akU(b:100<F)(h:Right l):yD l F 0=some (cP (l.findSome? n2)):=each n2 (by have:=h.len;omega) (λ k i x a=>by rw[yD,cc (bb.1 a).1,lY,bK a,ae,ae];unfold n2;cases(decide (x.Name=[79,98,106,101,99,116]))==(decide (x.b_=[]))<;>rfl) (λ k=>by rw[yD,cb];rfl) (by have:=h.len;omega)
theorem akT(b:100<F)(h:Right l)(m:List (List UInt8×Int))(s:List Int):qF ⟨l,m,s⟩ F 0=some (cP ((l.findSome? n2).map λ e=>(e,(⟨l,m,s⟩:a4)))):=by
 have:=each (l:=l) (L:=qF ⟨l,m,s⟩) (λ c=>(n2 c).map λ e=>(e,(⟨l,m,s⟩:a4))) (by have:=h.len;omega) (λ k i x a=>by
  rw[qF];show cond (decide ((i:Int)<(l.length:Int))) ((idx l (i:Int)).bind _) _=_
  rw[cc (bb.1 a).1,lY,bK a,ae];unfold n2;cases(decide (x.Name=[79,98,106,101,99,116]))==(decide (x.b_=[]))<;>rfl) (λ k=>by
   rw[qF];show cond (decide ((l.length:Int)<(l.length:Int))) _ _=_
   rw[cb];rfl) (F:=F) (by have:=h.len;omega)
 rw[this,Dg]
theorem ahn(d:100<F)(h:Right l):v3 F l F 0=some (cP (l.findSome? (mL l))):=each (mL l) (by have:=h.len;omega) (λ k i x b=>by
 have c:=h.len;rw[v3,cc (bb.1 b).1,lY,bK b,ae,ae,rA ⟨by omega,by omega⟩,ae];unfold mL;by_cases a:x.b_=[]
 ·rw[lX (.inl a),lP a];rfl
 ·rw[lQ a];by_cases hc:0<=bt l x.b_;rw[lX (.inr hc),lQ (show¬bt l x.b_<0 by omega)];rfl
  ·rw[lW (by simp[a,hc]),lP (show bt l x.b_<0 by omega)];rfl) (λ k=>by rw[v3,cb];rfl) (by have:=h.len;omega)
theorem Zo(h:Right l):bt l []= -1:=by
 unfold bt;cases a:dH (gp []) l with
 |none=>rfl
 |some i=>obtain⟨x,I,J,_⟩:=xw a;have:=afw (h.name x (cU I));simp[gp]at J;exact absurd J this
theorem ahm(v:100<F)(h:Right l):∃o:Option (Int×a4),o.map (·.1)=l.findSome? (mL l)/\kd ⟨l,dZ 0 l,[]⟩ F [] 0=some (vF o (ct l)):=by
 have d:=h.len;refine⟨(fC l.length).findSome? λ i=>((l[i]?).bind (mL l)).map λ e=>(e,(⟨l,dZ 0 l,(ct l).take i⟩:a4)),?_,?_⟩
 ·have m:∀(n:Nat),n<=l.length->((List.range' (l.length-n) n).findSome? λ i=>((l[i]?).bind (mL l)).map λ e=>(e,(⟨l,dZ 0 l,(ct l).take i⟩:a4))).map (·.1)=(l.drop (l.length-n)).findSome? (mL l):=by
   intro n;induction n with
   |zero=>intro _;simp
   |succ n p=>
    intro f;have hi:l.length- (n+1)<l.length:=by omega
    rw[List.range'_succ,iL,hO hi,iL,bu hi,ae];cases mL l l[l.length- (n+1)]with
    |some e=>rfl
    |none=>simp only[iu];rw[show l.length- (n+1)+1=l.length-n by omega];exact p (by omega)
  have:=m l.length (da _);simpa[List.range_eq_range']using this
 ·refine Gu (n:=l.length) (λ k i=>kd ⟨l,dZ 0 l,[]⟩ k ((ct l).take i) (i:Int)) _ (ct l) (λ k i hi=>?_) (λ k=>?_) (F:=F) (by omega)
  ·obtain⟨x,c⟩:∃x,l[i]? =some x:=⟨l[i],bu hi⟩
   show kd ⟨l,dZ 0 l,[]⟩ (k+1) ((ct l).take i) (i:Int)=_
   rw[kd];show cond (decide ((i:Int)<(l.length:Int))) (dj (α:=List Int) ((idx l (i:Int)).bind _) _) _=_
   rw[cc hi,lY,bK c,ae,c,ae];have g:eU (dZ 0 l) x.b_=(dH (gp x.b_) l).map λ n:Nat=>((n+0 :Nat):Int):=xl x.b_ l 0;have aL:(ct l).take (i+1)=(ct l).take i++[bt l x.b_]:=by rw[j7,MU c];rfl
   have q:b2 8 ((ct l).take i) [bt l x.b_]=some ((ct l).take (i+1)):=by unfold b2;rw[lX (by simp only[gf,df,gw];omega),aL]
   have fin:∀n:Int,n=bt l x.b_->dj (α:=List Int) (dj (α:=Int) (ρ:=Int×a4) (some (.go n)) λ(r:Int)=>(b2 8 ((ct l).take i) [r]).bind λ s=>some (.go s)) (λ(t:List Int)=>kd ⟨l,dZ 0 l,[]⟩ k t (bj ((i:Int)+1)))=kd ⟨l,dZ 0 l,[]⟩ k ((ct l).take (i+1)) ((i+1 :Nat):Int):=by intro n f;subst f;rw[k6,q,ae,k6,gJ hi (by omega)]
   unfold mL;by_cases a:x.b_=[]
   ·rw[lX (.inl a),lP a,lY];exact fin (-1) (by rw[a,Zo h])
   ·rw[lQ a,l0];cases b:dH (gp x.b_) l with
    |none=>have w:bt l x.b_<0:=Ph.2 b;rw[lW (by simp[a];omega),g,b];rfl
    |some j=>
     have u:bt l x.b_=(j:Int):=by unfold bt;rw[b];rfl
     rw[lX (.inr (by omega)),g,b];exact fin _ (by rw[u];simp)
  ·show kd ⟨l,dZ 0 l,[]⟩ (k+1) ((ct l).take l.length) (l.length:Int)=_
   rw[kd];show cond (decide ((l.length:Int)<(l.length:Int))) _ _=_
   rw[cb,l0,hM (by simp[ct])]
def cC(S:List Int):Nat->Int->Option (List Int)
 |0,n=>if n<0 then some []else none
 |k+1,n=>if n<0 then some []else(idx S n).bind λ m=>(cC S k m).map (n:: ·)
theorem M5{S:List Int}:∀ {k:Nat}{n:Int}{c:List Int},cC S k n=some c->cC S (k+1) n=some c
 |0,n,c,h=>by simp only[cC]at h⊢;split at h;rename_i a;rw[lX a];exact h;cases h
 |k+1,n,c,h=>by
  rw[cC]at h⊢;split at h;rename_i a;rw[lX a];exact h
  ·rename_i a;rw[lW a];cases hi:idx S n with
   |none=>rw[hi]at h;cases h
   |some m=>
    rw[hi,ae]at h;rw[ae];cases b:cC S k m with
    |none=>rw[b]at h;cases h
    |some d=>rw[b]at h;rw[M5 b];exact h
theorem Fw{S:List Int}{k k':Nat}{n:Int}{c:List Int}(h:cC S k n=some c)(a:k<=k'):cC S k' n=some c:=by
 obtain⟨d,rfl⟩:∃d,k'=k+d:=⟨k'-k,by omega⟩
 clear a;induction d with
 |zero=>exact h
 |succ d b=>exact M5 b
theorem ak'{S:List Int}{k k':Nat}{n:Int}{c a:List Int}(h:cC S k n=some c)(h':cC S k' n=some a):c=a:=by have I:=Fw h (Nat.le_max_left k k');have J:=Fw h' (Nat.le_max_right k k');rw[I]at J;exact eR J
theorem VF{S:List Int}:∀ {k:Nat}{n:Int}{c:List Int},cC S k n=some c->c.length<=k/\cC S c.length n=some c
 |0,n,c,h=>by simp only[cC]at h;split at h;rename_i a;injection h with h;subst h;simp[cC,a];cases h
 |k+1,n,c,h=>by
  have d:=h;rw[cC]at h;split at h;rename_i a;injection h with h;subst h;simp[cC,a]
  ·rename_i a;cases hi:idx S n with
   |none=>rw[hi]at h;cases h
   |some m=>
    rw[hi,ae]at h;cases b:cC S k m with
    |none=>rw[b]at h;cases h
    |some e=>rw[b]at h;simp only[fU,aK]at h;subst h;obtain⟨I,J⟩:=VF b;refine⟨by simpa using I,?_⟩;rw[df,cC,lW a,hi,ae,J];rfl
theorem Fx{S:List Int}:∀ {k:Nat}{n:Int}{c:List Int},cC S k n=some c->∀x∈c,(0<=x/\x<S.length)/\∃k' a,cC S k' x=some a/\a.length<=c.length/\a≠[]
 |0,n,c,h,x,b=>by simp only[cC]at h;split at h;injection h with h;subst h;cases b;cases h
 |k+1,n,c,h,x,b=>by
  have f:=h;rw[cC]at h;split at h;injection h with h;subst h;cases b
  ·rename_i j;cases hi:idx S n with
   |none=>rw[hi]at h;cases h
   |some m=>
    rw[hi,ae]at h;cases d:cC S k m with
    |none=>rw[d]at h;cases h
    |some a=>rw[d]at h;simp only[fU,aK]at h;subst h;obtain⟨o,p,_⟩:=hY hi;rcases dc.1 b with rfl |e;exact⟨⟨by omega,by omega⟩,k+1,_,f,da _,by simp⟩;obtain⟨I,k',g,J,q,i⟩:=Fx d x e;exact⟨I,k',g,J,by simp only[df];omega,i⟩
theorem M4{S:List Int}:∀ {k:Nat}{n:Int}{c:List Int},cC S k n=some c->c.Nodup
 |0,n,c,h=>by simp only[cC]at h;split at h;injection h with h;subst h;simp;cases h
 |k+1,n,c,h=>by
  have b:=h;rw[cC]at h;split at h;injection h with h;subst h;simp
  ·cases hi:idx S n with
   |none=>rw[hi]at h;cases h
   |some m=>
    rw[hi,ae]at h;cases a:cC S k m with
    |none=>rw[a]at h;cases h
    |some f=>rw[a]at h;simp only[fU,aK]at h;subst h;refine jr.2 ⟨λ d=>?_,M4 a⟩;obtain⟨_,k',g,J,e,_⟩:=Fx a n d;have:=ak' b J;subst this;simp only[df]at e;omega
theorem Ly:∀(n:Nat)(c:List Nat),c.Nodup->(∀x∈c,x<n)->c.length<=n
 |0,c,_,h=>by
  cases c with
  |nil=>simp
  |cons x r=>exact absurd (h x (by simp)) (by omega)
 |n+1,c,aE,h=>by
  by_cases b:n∈c
  ·have I:=Ly n (c.erase n) (aE.erase n) (λ x a=>by
    have J:=(aE.mem_erase_iff).1 a;have:=h x J.2;omega)
   rw[List.length_erase_of_mem b]at I;omega
  ·have:=Ly n c aE (λ x a=>by
    have I:=h x a;have:x≠n:=λ e=>b (e▸a);omega)
   omega
theorem VD{S:List Int}{k:Nat}{n:Int}{c:List Int}(h:cC S k n=some c):c.length<=S.length:=by
 have d:=Fx h;have aE:=M4 h;have:=Ly S.length (c.map Int.toNat) (by
  rw[List.Nodup,List.pairwise_map];refine List.Pairwise.imp_of_mem ?_ aE;intro a b f ag g e;have I:=(d a f).1;have J:=(d b ag).1;exact g (by omega)) (λ x i=>by
  obtain⟨y,hy,rfl⟩:=jP.1 i;have I:=(d y hy).1;omega)
 simpa using this
theorem ak_{S:List Int}{k:Nat}{n:Int}(a:S.length<=k):cC S k n=cC S S.length n:=by
 cases h:cC S k n with
 |some c=>obtain⟨_,J⟩:=VF h;exact(Fw J (VD h)).symm
 |none=>
  cases h':cC S S.length n with
  |none=>rfl
  |some c=>rw[Fw h' a]at h;cases h
theorem Zj{m:List (List UInt8×Int)}{S:List Int}{k:Nat}{n:Int}{c:List Int}(h:cC S k n=some c)(hc:c.length<=1000)(j:1001<F):nG F ⟨l,m,S⟩ n=some c:=by
 have key:∀(k:Nat)(n:Int)(c acc:List Int)(f:Nat),cC S k n=some c->c.length<f->acc.length+c.length<=1000 ->nH ⟨l,m,S⟩ f acc n=some (acc++c):=by
  intro k;induction k with
  |zero=>
   intro n c acc f h d _;obtain⟨f,rfl⟩:∃a,f=a+1:=⟨f-1,by omega⟩
   simp only[cC]at h;split at h;injection h with h;subst h;rw[nH,lQ (by omega)];simp;cases h
  |succ k e=>
   intro n c acc f h d g;obtain⟨f,rfl⟩:∃a,f=a+1:=⟨f-1,by omega⟩
   rw[cC]at h;split at h;injection h with h;subst h;rw[nH,lQ (by omega)];simp
   ·rename_i o;cases hi:idx S n with
    |none=>rw[hi]at h;cases h
    |some x=>
     rw[hi,ae]at h;cases b:cC S k x with
     |none=>rw[b]at h;cases h
     |some i=>
      rw[b]at h;simp only[fU,aK]at h;subst h;simp only[df]at d g;rw[nH,lP (by omega),lY];unfold b2;rw[lX (by simp only[df,gw];omega)];show((some (acc++[n])).bind λ p=>(idx S n).bind λ q=>_)=_
      rw[ae,hi,ae,e x i (acc++[n]) f b (by omega) (by simp only[fD,df,gw];omega)];simp
 unfold nG;rw[key k n c [] F h (by omega) (by simp;omega)];rfl
end
section
variable{F:Nat}{l:List ap}
theorem vv:(ct l).length=l.length:=by simp[ct]
theorem pb{n:Int}(a:0<=n)(I:n<l.length):∃x,idx l n=some x/\idx (ct l) n=some (bt l x.b_):=by
 obtain⟨x,b⟩:∃x,l[n.toNat]? =some x:=⟨l[n.toNat]'(by omega),bu _⟩
 refine⟨x,?_,?_⟩;unfold idx;rw[lX a,b];unfold idx;rw[lX a,MU b]
def M6(o:Option (List Int))(acc:List Int):Way (List Int) (List Int):=match o with
 |some c=>.go (c.reverse++acc)
 |none=>.out []
def bH(l:List ap)(n:Int):List Int:=(cC (ct l) l.length n).getD []
theorem Fv(q:1100<F)(h:Right l){n:Int}(I:n<l.length):v9 F l n=some (bH l n).reverse:=by
 have e:=h.len;have key:∀(d:Nat)(acc:List Int)(n:Int)(f:Nat),acc.length+d=l.length+1 ->d+1<f->n<l.length->yQ F l f n acc=some (M6 (cC (ct l) d n) acc):=by
  intro d;induction d with
  |zero=>
   intro acc n f i j g;obtain⟨f,rfl⟩:∃b,f=b+1:=⟨f-1,by omega⟩
   rw[yQ,cC];by_cases a:n<0;rw[lX a,lQ (by omega)];rfl;rw[lW a,lP (by omega),lY,lP (by omega)];rfl
  |succ d m=>
   intro acc n f i j g;obtain⟨f,rfl⟩:∃b,f=b+1:=⟨f-1,by omega⟩
   rw[yQ,cC];by_cases a:n<0;rw[lX a,lQ (by omega)];rfl
   ·obtain⟨x,o,p⟩:=pb (l:=l) (n:=n) (by omega) g;rw[lW a,lP (by omega),lY,lQ (by omega),l0];unfold b2;rw[lX (by simp only[df,gw];omega)];show((some ([n]++acc)).bind λ r=>(idx l n).bind λ s=>_)=_
    rw[ae,o,ae,rA ⟨by omega,by omega⟩,ae,p,ae,m ([n]++acc) _ f (by simp only[fD,df,gw];omega) (by omega) hP];cases cC (ct l) d (bt l x.b_)with
    |none=>rfl
    |some c=>simp[M6]
 unfold v9;rw[key (l.length+1) [] n F (by simp) (by omega) I,ak_ (k:=l.length+1) (by rw[vv];omega),vv];unfold bH;cases cC (ct l) l.length n with
 |none=>rfl
 |some c=>simp[M6,cT]
def pM(l:List ap)(i:Nat):Option Int:=if(cC (ct l) l.length (i:Int)).isSome then none else some 4
theorem M3{S:List Int}{k:Nat}{n:Int}{c:List Int}(h:cC S k n=some c)(d:0<=n):∃r,c=n::r:=by
 cases k with
 |zero=>simp only[cC]at h;rw[lW (by omega)]at h;cases h
 |succ k=>
  rw[cC,lW (by omega)]at h;cases hi:idx S n with
  |none=>rw[hi]at h;cases h
  |some m=>
   rw[hi,ae]at h;cases a:cC S k m with
   |none=>rw[a]at h;cases h
   |some b=>rw[a]at h;simp only[fU,aK]at h;exact⟨b,h.symm⟩
theorem ZG(a:1100<F)(h:Right l):yE F l F 0=some (cP ((fC l.length).findSome? (pM l))):=lq _ (by have:=h.len;omega) (λ k i hi=>by
 rw[yE,cc hi,lY,Fv a h (by omega),ae];unfold pM bH;cases b:cC (ct l) l.length (i:Int)with
 |none=>rfl
 |some c=>obtain⟨r,rfl⟩:=M3 b (by omega);rw[lQ (by simp;omega)];rfl) (λ k=>by rw[yE,cb];rfl) (by have:=h.len;omega)
theorem Pv(h:Right l)(m:List (List UInt8×Int))(s:List Int):∀(d i f:Nat)(n:Int),i+d=l.length->d<f->0<=n->n<l.length->∃r,oV ⟨l,m,s⟩ (ct l) f n i=some r/\(r<0↔(cC (ct l) d n).isSome=true)
 |0,i,f,n,hi,k,c,e=>by
  obtain⟨f,rfl⟩:∃b,f=b+1:=⟨f-1,by omega⟩
  have:i=l.length:=by omega
  subst this;refine⟨n,?_,?_⟩
  ·rw[oV];show cond (decide ((l.length:Int)<(l.length:Int))) _ _=_
   rw[cb];rfl
  ·rw[cC,lW (by omega)];simp;omega
 |d+1,i,f,n,hi,k,c,e=>by
  obtain⟨f,rfl⟩:∃b,f=b+1:=⟨f-1,by omega⟩
  obtain⟨x,o,g⟩:=pb (l:=l) (n:=n) c e;have j:=h.len;rw[oV];have hc:decide ((i:Int)<((⟨l,m,s⟩:a4).l.length:Int))=true:=cc (n:=l.length) (by omega);rw[hc,lY,g,ae,cC,lW (by omega),g,ae];by_cases a:bt l x.b_<0
  ·rw[lP a,lY];refine⟨_,rfl,?_⟩;have:cC (ct l) d (bt l x.b_)=some []:=by cases d<;>simp[cC,a]
   rw[this];simp[a]
  ·rw[lQ a,l0,gJ (n:=l.length) (by omega) (by omega)];obtain⟨r,I,J⟩:=Pv h m s d (i+1) f (bt l x.b_) (by omega) (by omega) (by omega) hP;refine⟨r,I,J.trans ?_⟩;simp
theorem ZF(c:1100<F)(h:Right l)(m:List (List UInt8×Int))(s:List Int):nF F ⟨l,m,s⟩ (ct l) F 0=some (cP (((fC l.length).findSome? (pM l)).map λ e=>(e,(⟨l,m,ct l⟩:a4)))):=by
 have a:=h.len;have:=lq (n:=l.length) (L:=nF F ⟨l,m,s⟩ (ct l)) (λ i=>(pM l i).map λ e=>(e,(⟨l,m,ct l⟩:a4))) (by omega) (λ k i hi=>by
  rw[nF];have hc:decide ((i:Int)<((⟨l,m,s⟩:a4).l.length:Int))=true:=cc (n:=l.length) hi;obtain⟨r,I,J⟩:=Pv h m s l.length 0 F (i:Int) (by omega) (by omega) (by omega) (by omega);rw[hc,lY,show(0 :Int)=((0 :Nat):Int) from rfl,I];simp only[ae];unfold pM;cases b:(cC (ct l) l.length (i:Int)).isSome with
  |true=>rw[lX rfl,lQ (show¬((0 :Nat):Int)<=r from λ aC=>by have:=J.2 b;omega)];rfl
  |false=>rw[lW (by simp),lP (show((0 :Nat):Int)<=r from by
   rcases Int.lt_or_le r 0 with aC |aC;have:=J.1 aC;rw[b]at this;cases this
   ·exact aC)];rfl) (λ k=>by
    rw[nF];show cond (decide ((l.length:Int)<(l.length:Int))) _ _=_
    rw[cb];rfl) (F:=F) (by omega)
 rw[this,Dg]
structure cz (l:List ap):Prop where
 right:Right l
 TZ:tF l
 ahl:∀c∈l,c.b_=[]\/0<=bt l c.b_
 up:∀i,i<l.length->∃c,cC (ct l) l.length (i:Int)=some c
 top:∀c∈l,n2 c=none
 obj:0<=bt l [79,98,106,101,99,116]
theorem cz.chain(h:cz l){n:Int}(b:0<=n)(I:n<l.length):cC (ct l) l.length n=some (bH l n)/\(bH l n).length<=10/\(∀x∈bH l n,0<=x/\x<l.length):=by
 obtain⟨c,hc⟩:=h.up n.toNat (by omega);rw[show((n.toNat:Nat):Int)=n by omega]at hc;have e:bH l n=c:=by unfold bH;rw[hc];rfl
 rw[e];refine⟨hc,?_,λ x a=>?_⟩;have:=VD hc;rw[vv]at this;have:=h.right.len;omega;have:=(Fx hc x a).1;rw[vv]at this;exact this
theorem cz.KA(h:cz l)(b:1100<F)(m:List (List UInt8×Int)){n:Int}(a:0<=n)(I:n<l.length):nG F ⟨l,m,ct l⟩ n=some (bH l n):=by obtain⟨hc,c,_⟩:=h.chain a I;exact Zj (l:=l) hc (by omega) (by omega)
def js(l:List ap)(i:Int):List Field:=((idx l i).map (·.Fields)).getD []
def et(l:List ap)(n:Int):List Field:=(bH l n).reverse.flatMap (js l)
theorem HV(h:Right l)(i:Int):(js l i).length<=6:=by
 unfold js;cases a:idx l i with
 |none=>simp
 |some x=>obtain⟨_,_,J⟩:=hY a;exact h.fields x (cU J)
theorem HW(h:Right l):∀r:List Int,(r.flatMap (js l)).length<=6*r.length
 |[]=>by simp
 |x::r=>by have I:=HV h x;have J:=HW h r;simp only[iw,fD,df];omega
theorem Q7(h:Right l)(m:List (List UInt8×Int))(s:List Int):∀(rem:List Int)(acc:List Field),(∀x∈rem,0<=x/\x<l.length)->acc.length+6*rem.length<=1000 ->sp ⟨l,m,s⟩ rem acc=some (acc++rem.flatMap (js l))
 |[],acc,_,_=>by simp[sp]
 |x::rem,acc,a,d=>by
  obtain⟨c,hc,_⟩:=pb (l:=l) (a x (by simp)).1 (a x (by simp)).2;have b:js l x=c.Fields:=by unfold js;rw[hc];rfl
  have I:=HV h x;rw[b]at I;simp only[df]at d;rw[sp];show((idx l x).bind λ e=>_)=_
  rw[hc,ae];unfold b2;rw[lX (by omega),ae,Q7 h m s rem _ (λ y hy=>a y (by simp[hy])) (by simp only[fD];omega),iw,b];simp
theorem cz.KB(h:cz l)(b:1100<F)(m:List (List UInt8×Int)){n:Int}(a:0<=n)(I:n<l.length):oW F ⟨l,m,ct l⟩ n=some (et l n):=by obtain⟨_,e,c⟩:=h.chain a I;unfold oW;have:=h.KA b m a I;simp only at this⊢;rw[this,ae];unfold Bg;rw[ae,Q7 h.right m (ct l) _ [] (λ x d=>c x (by simpa using d)) (by simp;omega)];simp[et]
theorem cz.Mv(h:cz l)(d:1100<F){n:Int}(e:0<=n)(I:n<l.length):yp F l n=some (et l n):=by
 obtain⟨_,j,f⟩:=h.chain e I;unfold yp;rw[Fv d h.right I,ae];have:rz l (bH l n).reverse F [] 0=some (et l n):=by
  refine KG (n:=(bH l n).reverse.length) (λ k i=>rz l (bH l n).reverse k (((bH l n).reverse.take i).flatMap (js l)) (i:Int)) (et l n) (λ k i hi=>?_) (λ k=>?_) (F:=F) (by simp;omega)
  ·obtain⟨x,a⟩:∃x,(bH l n).reverse[i]? =some x:=⟨(bH l n).reverse[i],bu hi⟩
   have ag:=f x (by simpa using cU a);obtain⟨c,hc,_⟩:=pb (l:=l) ag.1 ag.2;have b:js l x=c.Fields:=by unfold js;rw[hc];rfl
   have J:=HV h.right x;rw[b]at J;have g:=HW h.right ((bH l n).reverse.take i);simp only[gf,jJ]at g hi;show rz l (bH l n).reverse (k+1) (((bH l n).reverse.take i).flatMap (js l)) (i:Int)=_
   rw[rz,cc (by simpa using hi),lY,bK a,ae,hc,ae];unfold b2;rw[lX (by omega),ae,gJ (n:=(bH l n).length) hi (by omega),j7,a,List.flatMap_append];simp[b]
  ·show rz l (bH l n).reverse (k+1) (((bH l n).reverse.take (bH l n).reverse.length).flatMap (js l)) ((bH l n).reverse.length:Int)=_
   rw[rz,cb,kg];rfl
 rw[this];rfl
end
section
variable{F:Nat}{l:List ap}
abbrev bA:=List (List UInt8)×List Target
def lF(nm:List UInt8)(x:List UInt8):Bool:=decide (nm=x)
def pB(p:bA)(nm:List UInt8)(t:Target):bA:=match dH (lF nm) p.1 with
 |some k=>(p.1,p.2.set k t)
 |none=>(p.1++[nm],p.2++[t])
def nf(ci:Int):List Method->Nat->bA->bA
 |[],_,p=>p
 |m::r,k,p=>nf ci r (k+1) (pB p m.Name ⟨ci,k⟩)
def dV(l:List ap)(i:Int):List Method:=((idx l i).map (·.a1)).getD []
def lj(l:List ap):List Int->bA->bA
 |[],p=>p
 |ci::r,p=>lj l r (nf ci (dV l ci) 0 p)
def eK(l:List ap)(n:Int):bA:=lj l (bH l n).reverse ([],[])
theorem Gv{p:bA}{nm:List UInt8}{t:Target}(h:p.1.length=p.2.length):(pB p nm t).1.length=(pB p nm t).2.length/\(pB p nm t).1.length<=p.1.length+1:=by
 unfold pB;cases dH (lF nm) p.1 with
 |some k=>simp[h]
 |none=>simp[h]
theorem Ct{ci:Int}:∀ {r:List Method}{k:Nat}{p:bA},p.1.length=p.2.length->(nf ci r k p).1.length=(nf ci r k p).2.length/\(nf ci r k p).1.length<=p.1.length+r.length
 |[],_,p,h=>⟨h,da _⟩
 |m::r,k,p,h=>by obtain⟨I,J⟩:=Gv (nm:=m.Name) (t:=⟨ci,k⟩) h;obtain⟨a,b⟩:=Ct (ci:=ci) (r:=r) (k:=k+1) I;exact⟨a,by simp only[nf,df];omega⟩
theorem afo{a:List (List UInt8)}(h:Small F a.length)(nm:List UInt8):Bp F a nm=some (((dH (lF nm) a).map λ n:Nat=>(n:Int)).getD (-1)):=by unfold Bp;have l1:tj a nm F 0=some (cP ((dH (lF nm) a).map λ n:Nat=>(n:Int))):=HS (lF nm) _ h.1 (λ k i x b=>by rw[tj,cc (bb.1 b).1,lY,bK b,ae];rfl) (λ k=>by rw[tj,cb];rfl) h.2;rw[l1,kj];cases dH (lF nm) a<;>rfl
theorem Vm(g:1100<F)(ci:Int)(c:ap)(hc:c.a1.length<=8):∀(d i f:Nat)(p:bA),i+d=c.a1.length->d<f->p.1.length=p.2.length->p.1.length+d<=1000 ->
 sv F ci c f p.1 p.2 (i:Int)=some (nf ci (c.a1.drop i) i p)
 |0,i,f,p,hi,h,e,_=>by
  obtain⟨f,rfl⟩:∃b,f=b+1:=⟨f-1,by omega⟩
  have:i=c.a1.length:=by omega
  subst this;rw[sv,cb,ig (da _)];rfl
 |d+1,i,f,p,hi,h,e,m=>by
  obtain⟨f,rfl⟩:∃b,f=b+1:=⟨f-1,by omega⟩
  have a:i<c.a1.length:=by omega
  obtain⟨I,J⟩:=Gv (nm:=c.a1[i].Name) (t:=⟨ci,i⟩) e;have next:=Vm g ci c hc d (i+1) f (pB p c.a1[i].Name ⟨ci,i⟩) (by omega) (by omega) I (by omega)
  rw[sv,cc a,lY,bK (bu a),ae,afo ⟨by omega,by omega⟩,ae,hO a,nf,<-next];unfold pB;cases j:dH (lF c.a1[i].Name) p.1 with
  |some k=>have n:=Lz j;simp only[fU,ia];rw[lP (show(0 :Int)<=(k:Int) by omega),lY,bK (bu (show k<p.2.length by omega)),ae,ae,ae,gJ a (by omega)];simp
  |none=>simp only[iu,iT];rw[lQ (show¬(0 :Int)<= -1 by decide),l0];unfold b2;rw[lX (by simp only[df,gw];omega),ae,lX (by simp only[df,gw];omega),ae,ae,gJ a (by omega)]
theorem KU(h:Right l)(i:Int):(dV l i).length<=8:=by
 unfold dV;cases a:idx l i with
 |none=>simp
 |some x=>obtain⟨_,_,J⟩:=hY a;exact h.methods x (cU J)
theorem Vl(b:1100<F)(h:Right l)(m:List (List UInt8×Int))(s:List Int):∀(rem:List Int)(p:bA),(∀x∈rem,0<=x/\x<l.length)->p.1.length=p.2.length->p.1.length+8*rem.length<=900 ->
 su F ⟨l,m,s⟩ rem p.1 p.2=some (lj l rem p)
 |[],p,_,_,_=>by simp[su,lj]
 |x::rem,p,a,d,g=>by
  obtain⟨c,hc,_⟩:=pb (l:=l) (a x (by simp)).1 (a x (by simp)).2;have e:dV l x=c.a1:=by unfold dV;rw[hc];rfl
  have i:=KU h x;have f:=i;rw[e]at f;simp only[df]at g;obtain⟨j,n⟩:=Ct (ci:=x) (r:=dV l x) (k:=0) d;rw[su];show(fs (α:=(List (List UInt8))×(List Target)) ((idx l x).bind λ o=>_) _)=_
  rw[hc,ae];have:=Vm b x c f c.a1.length 0 F p (by omega) (by omega) d (by omega);rw[show((0 :Nat):Int)=0 from rfl]at this;rw[this,kl,ae,ae,lj,<-e];exact Vl b h m s rem _ (λ y hy=>a y (by simp[hy])) j (by omega)
theorem cz.agS(h:cz l)(a:1100<F)(m:List (List UInt8×Int)){n:Int}(b:0<=n)(I:n<l.length):u3 F ⟨l,m,ct l⟩ n=some (eK l n):=by obtain⟨_,e,c⟩:=h.chain b I;unfold u3;have:=h.KA a m b I;simp only at this⊢;rw[this,ae];unfold Bg;rw[ae,Vl a h.right m (ct l) _ ([],[]) (λ x d=>c x (by simpa using d)) rfl (by simp;omega)];rfl
theorem akN(a:List (List UInt8))(m:Method)(h:Small F a.length):v7 a m F 0=some (((dH (lF m.Name) a).getD a.length:Nat):Int):=by
 have key:∀(d i f:Nat),i+d=a.length->d<f->v7 a m f (i:Int)=some ((i+(dH (lF m.Name) (a.drop i)).getD d:Nat):Int):=by
  intro d;induction d with
  |zero=>
   intro i f hi g;obtain⟨f,rfl⟩:∃c,f=c+1:=⟨f-1,by omega⟩
   have:i=a.length:=by omega
   subst this;rw[v7,cb,ig (da _)];rfl
  |succ d j=>
   intro i f hi g;obtain⟨f,rfl⟩:∃c,f=c+1:=⟨f-1,by omega⟩
   have b:i<a.length:=by omega
   rw[v7,cc b,lY,bK (bu b),ae,hO b,dH];by_cases e:a[i]=m.Name;rw[lP e,lX (by simp[lF,e])];simp
   ·rw[lQ e,lW (by simp[lF];exact λ h=>e h.symm)];simp only[ko,lY];rw[gJ b h.1,j (i+1) f (by omega) (by omega)];congr 2;cases dH (lF m.Name) (a.drop (i+1))with
    |none=>simp;omega
    |some k=>simp;omega
 have:=key a.length 0 F (by omega) h.2;simpa using this
theorem Vr(j:1100<F)(gG:List Int)(n:Nat)(ci:Int)(c:ap)(a:gG[n]? =some ci)(e:idx l ci=some c)(hc:c.a1.length<=8):∀(d i f:Nat)(p:bA),i+d=c.a1.length->d<f->p.1.length=p.2.length->p.1.length+d<=1000 ->
 yO F l gG (n:Int) f p.2 p.1 (i:Int)=some ((nf ci (c.a1.drop i) i p).2,(nf ci (c.a1.drop i) i p).1)
 |0,i,f,p,hi,m,g,_=>by
  obtain⟨f,rfl⟩:∃h,f=h+1:=⟨f-1,by omega⟩
  have:i=c.a1.length:=by omega
  subst this;rw[yO,bK a,ae,e,ae,cb,ig (da _)];rfl
 |d+1,i,f,p,hi,m,g,q=>by
  obtain⟨f,rfl⟩:∃h,f=h+1:=⟨f-1,by omega⟩
  have b:i<c.a1.length:=by omega
  obtain⟨I,J⟩:=Gv (nm:=c.a1[i].Name) (t:=⟨ci,i⟩) g;have next:=Vr j gG n ci c a e hc d (i+1) f (pB p c.a1[i].Name ⟨ci,i⟩) (by omega) (by omega) I (by omega)
  rw[yO,bK a,ae,e,ae,cc b,lY,ae,e,ae,bK (bu b),ae,akN p.1 _ ⟨by omega,by omega⟩,ae,hO b,nf,<-next];unfold pB;cases o:dH (lF c.a1[i].Name) p.1 with
  |some k=>have r:=Lz o;simp only[ia];rw[lQ (show¬((k:Nat):Int)=(p.1.length:Int) by omega),l0,ae];simp only[bK a,ae];rw[bK (bu (show k<p.2.length by omega)),ae,ae,gJ b (by omega)];simp
  |none=>simp only[iT,decide_true,lY];unfold b2;rw[lX (by simp only[df,gw];omega),ae,lX (by simp only[df,gw];omega),ae,ae];simp only[bK a,ae];rw[bK (i:=p.1.length) (x:=(⟨0,0⟩:Target)) (by rw[g];simp),ae,ae,gJ b (by omega)];simp[g,List.set_append]
theorem cz.aj5(h:cz l)(m:1100<F){n:Int}(u:0<=n)(I:n<l.length):Gp F l n=some (eK l n):=by
 obtain⟨_,B,v⟩:=h.chain u I;unfold Gp;rw[Fv m h.right I,ae];have key:∀(d i f:Nat)(p:bA),i+d=(bH l n).reverse.length->d<f->p.1.length=p.2.length->p.1.length+8*d<=900 ->yN F l (bH l n).reverse f p.2 p.1 (i:Int)=some ((lj l ((bH l n).reverse.drop i) p).2,(lj l ((bH l n).reverse.drop i) p).1):=by
  intro d;induction d with
  |zero=>
   intro i f p hi w _ _;obtain⟨f,rfl⟩:∃b,f=b+1:=⟨f-1,by omega⟩
   have:i=(bH l n).reverse.length:=by omega
   subst this;rw[yN,cb,ig (da _)];rfl
  |succ d y=>
   intro i f p hi w o C;obtain⟨f,rfl⟩:∃b,f=b+1:=⟨f-1,by omega⟩
   have a:i<(bH l n).reverse.length:=by omega
   obtain⟨ci,e⟩:∃x,(bH l n).reverse[i]? =some x:=⟨(bH l n).reverse[i],bu a⟩
   have ag:=v ci (by simpa using cU e);obtain⟨c,hc,_⟩:=pb (l:=l) ag.1 ag.2;have g:dV l ci=c.a1:=by unfold dV;rw[hc];rfl
   have z:=KU h.right ci;have q:=z;rw[g]at q;obtain⟨s,A⟩:=Ct (ci:=ci) (r:=dV l ci) (k:=0) o;have t:=Vr (l:=l) m (bH l n).reverse i ci c e hc q c.a1.length 0 F p (by omega) (by omega) o (by omega);rw[show((0 :Nat):Int)=0 from rfl]at t;have j:(bH l n).reverse[i]=ci:=by have:=bu a;rw[e]at this;exact(eR this).symm
   rw[yN,cc a,lY,t,kl,ae,ae,gJ (n:=(bH l n).length) (by simpa using a) (by omega),hO a,j,lj,g];rw[g]at s A;exact y (i+1) f _ (by omega) (by omega) s (by omega)
 have:=key (bH l n).reverse.length 0 F ([],[]) (by omega) (by simp;omega) rfl (by simp;omega);rw[show((0 :Nat):Int)=0 from rfl,kl]at this;simp only at this;rw[this];rfl
end
theorem tT{α β:Type}{l:List α}(T:Nat->List β->Nat->Option (List β))(g:α->List β)(B M:Nat)(a:∀x∈l,(g x).length<=B)
 (b:∀k (i:Nat) x acc,l[i]? =some x->acc.length+B<=M->T (k+1) acc i=T k (acc++g x) (i+1))(c:∀k acc,T (k+1) acc l.length=some acc){F:Nat}(e:l.length<F){acc:List β}(f:acc.length+B*l.length<=M) :
 T F acc 0=some (acc++l.flatMap g):=by
 have key:∀(d i k:Nat)(acc:List β),i+d=l.length->d<k->acc.length+B*d<=M->T k acc i=some (acc++(l.drop i).flatMap g):=by
  intro d;induction d with
  |zero=>
   intro i k acc h j _;obtain⟨k,rfl⟩:∃k',k=k'+1:=⟨k-1,by omega⟩
   have hi:i=l.length:=by omega
   subst hi;rw[c,ig (da _)];simp
  |succ d m=>
   intro i k acc h j n;obtain⟨k,rfl⟩:∃k',k=k'+1:=⟨k-1,by omega⟩
   have hi:i<l.length:=by omega
   have ag:=a l[i] (List.getElem_mem hi);rw[Nat.mul_succ]at n;rw[b k i l[i] acc (bu hi) (by omega),m (i+1) k _ (by omega) (by omega) (by simp only[fD];omega),hO hi,iw,iV]
 have:=key l.length 0 F acc (by omega) e f
 simpa using this
theorem T0{α β:Type}{g:α->Option β}{a:α}:[a].findSome? g=g a:=by rw[iL];cases g a<;>rfl
theorem zd{α β ck:Type}(f:α->List β)(g:β->Option ck):∀l:List α,(l.flatMap f).findSome? g=l.findSome? λ x=>(f x).findSome? g
 |[]=>rfl
 |x::r=>by rw[iw,kq,iL,zd f g r];cases(f x).findSome? g<;>rfl
theorem uh{α β:Type}{g:α->List β}{B:Nat}:∀ {l:List α},(∀x∈l,(g x).length<=B)->(l.flatMap g).length<=B*l.length
 |[],_=>by simp
 |x::r,h=>by have I:=h x (by simp);have J:=uh (l:=r) (λ y hy=>h y (by simp[hy]));simp only[iw,fD,df,Nat.mul_succ];omega
def dh(k:Kind):List (List UInt8):=if k.ap=[]then[]else[k.ap]
def mt(m:Method):List (List UInt8):=m.b9.flatMap dh++dh m.Returns++m.cj.map (·.ap)
def gC(c:ap):List (List UInt8):=c.Fields.flatMap (λ f=>dh f.Kind)++c.a1.flatMap mt
def n1(l:List ap):List (List UInt8):=l.flatMap gC
def h5(l:List ap)(s:List UInt8):Option Int:=if 0<=bt l s then none else some 5
theorem qm(k:Kind):(dh k).length<=1:=by unfold dh;split<;>simp
section
variable{F:Nat}{l:List ap}
theorem TH(h:Right l){c:ap}(hc:c∈l){m:Method}(a:m∈c.a1):(mt m).length<=9:=by have I:=h.method c hc m a;have J:=uh (l:=m.b9) (g:=dh) (B:=1) (λ k _=>qm k);have b:=qm m.Returns;unfold mt;simp only[fD,iY];omega
theorem Ps(h:Right l){c:ap}(hc:c∈l):(gC c).length<=78:=by have I:=uh (l:=c.Fields) (g:=λ f=>dh f.Kind) (B:=1) (λ f _=>qm f.Kind);have J:=uh (l:=c.a1) (g:=mt) (B:=9) (λ m a=>TH h hc a);have b:=h.fields c hc;have d:=h.methods c hc;unfold gC;simp only[fD];omega
theorem ng{b:Nat}{α:Type}{acc r:List α}(h:(acc.length+r.length)*b<=140737488355328):b2 b acc r=some (acc++r):=by unfold b2;rw[lX h]
theorem M1{acc:List (List UInt8)}(h:acc.length<=5000)(k:Kind):u4 k acc=some (acc++dh k):=by
 unfold u4 dh;by_cases e:k.ap=[]
 ·rw[lP e,lX e];simp
 ·rw[lQ e,lW e];simp only[ko,lY];rw[ng (by simp only[df,gw];omega)];rfl
theorem akQ(A:1100<F)(h:Right l)(m:List (List UInt8×Int))(s:List Int):qH F ⟨l,m,s⟩ F [] 0=some (n1 l):=by
 have o:=h.len;have:=tT (l:=l) (λ k acc i=>qH F ⟨l,m,s⟩ k acc (i:Int)) gC 78 2000 (λ c hc=>Ps h hc) (λ k i c acc a b=>by
  have hc:=cU a;have C:=h.fields c hc;have D:=h.methods c hc;have hi:=(bb.1 a).1;have q:∀acc:List (List UInt8),acc.length<=2000 ->qI c F acc 0=some (acc++c.Fields.flatMap λ f=>dh f.Kind):=λ acc p=>tT (l:=c.Fields) (λ k acc i=>qI c k acc (i:Int)) (λ f=>dh f.Kind) 1 3000 (λ f _=>qm f.Kind) (λ k i f acc a b=>by have hi:=(bb.1 a).1;rw[qI,cc hi,lY,bK a,ae,M1 (by omega),ae,gJ hi (by omega)]) (λ k acc=>by rw[qI,cb];rfl) (by omega) (by omega)
  have t:∀acc:List (List UInt8),acc.length<=2100 ->nK F c F acc 0=some (acc++c.a1.flatMap mt):=λ acc p=>
   tT (l:=c.a1) (λ k acc i=>nK F c k acc (i:Int)) mt 9 3000 (λ m d=>TH h hc d) (λ k i m acc a b=>by
    have d:=cU a;have hi:=(bb.1 a).1;obtain⟨E,G⟩:=h.method c hc m d;have u:qJ m F acc 0=some (acc++m.b9.flatMap dh):=tT (l:=m.b9) (λ k acc i=>qJ m k acc (i:Int)) dh 1 3100 (λ k _=>qm k) (λ k i x acc a b=>by have hi:=(bb.1 a).1;rw[qJ,cc hi,lY,bK a,ae,M1 (by omega),ae,gJ hi (by omega)]) (λ k acc=>by rw[qJ,cb];rfl) (by omega) (by omega);have v:=uh (l:=m.b9) (g:=dh) (B:=1) (λ k _=>qm k);have w:=qm m.Returns;have j:∀acc:List (List UInt8),acc.length<=3200 ->nL m F acc 0=some (acc++m.cj.flatMap λ h=>[h.ap]):=λ acc p=>tT (l:=m.cj) (λ k acc i=>nL m k acc (i:Int)) (λ h=>[h.ap]) 1 3300 (λ k _=>by simp) (λ k i x acc a b=>by have hi:=(bb.1 a).1;rw[nL,cc hi,lY,bK a,ae,ng (by simp only[df,gw];omega),ae,gJ hi (by omega)]) (λ k acc=>by rw[nL,cb];rfl) (by omega) (by omega)
    rw[nK,cc hi,lY,bK a,ae,u,ae,M1 (k:=(⟨m.Returns.Kind,m.Returns.ap⟩:Kind)) (by simp only[fD];omega),ae,
     j _ (by simp only[fD];have:(dh (⟨m.Returns.Kind,m.Returns.ap⟩:Kind)).length<=1:=qm _;omega),ae,ae,gJ hi (by omega)]
    have e:(m.cj.flatMap λ h=>[h.ap])=m.cj.map (·.ap):=by
     induction m.cj with
     |nil=>rfl
     |cons x r y=>rw[iw,y];rfl
    rw[e];unfold mt;simp only[iV]) (λ k acc=>by rw[nK,cb];rfl) (by omega) (by omega)
  have v:=uh (l:=c.Fields) (g:=λ f=>dh f.Kind) (B:=1) (λ f _=>qm f.Kind);rw[qH];have z:decide ((i:Int)<((⟨l,m,s⟩:a4).l.length:Int))=true:=cc (n:=l.length) hi;rw[z,lY];show(fs (α:=List (List UInt8)) ((idx l (i:Int)).bind λ H=>_) _)=_
  rw[bK a,ae,q acc (by omega),ae,t _ (by simp only[fD];omega),ae,ae,gJ hi (by omega)];unfold gC;simp only[iV]) (λ k acc=>by
   rw[qH];show cond (decide ((l.length:Int)<(l.length:Int))) _ _=_
   rw[cb];rfl) (F:=F) (by omega) (acc:=[]) (by simp;omega)
 simpa[n1]using this
theorem Ld(s:List UInt8):(eU (dZ 0 l) s).isSome=decide (0<=bt l s):=by
 rw[xl];unfold bt;cases dH (gp s) l with
 |none=>simp
 |some i=>simp
theorem akO(d:1100<F)(h:Right l)(s:List Int):Au F ⟨l,dZ 0 l,s⟩=some (((n1 l).findSome? (h5 l)).getD 0):=by
 have a:=h.len;unfold Au;have f:=akQ d h (dZ 0 l) s;have j:(n1 l).length<=780:=by have:=uh (l:=l) (g:=gC) (B:=78) (λ c hc=>Ps h hc);unfold n1;omega
 rw[f,ae];have m:sw ⟨l,dZ 0 l,s⟩ (n1 l) F 0=some (cP ((n1 l).findSome? (h5 l))):=each (h5 l) (by omega) (λ k i x b=>by
  rw[sw,cc (bb.1 b).1,lY,bK b,ae];show cond (!(eU (dZ 0 l) x).isSome) _ _=_
  rw[Ld];unfold h5;by_cases e:0<=bt l x;rw[lP e,lX e];rfl
  ·rw[lQ e,lW e];rfl) (λ k=>by rw[sw,cb];rfl) (by omega)
 rw[m];cases(n1 l).findSome? (h5 l)<;>rfl
def kY(l:List ap)(k:Kind):Option Int:=(dh k).findSome? (h5 l)
theorem Vs{s:List UInt8}:h5 l s=none\/h5 l s=some 5:=by unfold h5;split<;>simp
theorem oz{α:Type}{g:α->Option Int}{e:Int}(a:∀x,g x=none\/g x=some e):∀r:List α,r.findSome? g=none\/r.findSome? g=some e
 |[]=>.inl rfl
 |x::r=>by rw[iL];rcases a x with h |h;rw[h];exact oz a r;rw[h];exact .inr rfl
theorem afP(k:Kind):kY l k=if k.ap=[]\/0<=bt l k.ap then none else some 5:=by
 unfold kY dh h5;by_cases e:k.ap=[]
 ·simp[e]
 ·by_cases al:0<=bt l k.ap<;>simp[e,al]
theorem Gr(h:Small F l.length){a:List Kind}(b:Small F a.length):yP F l a=some (a.findSome? (kY l)).isNone:=by
 unfold yP;have l1:=each (l:=a) (L:=v8 F a l) (λ k=>(kY l k).map λ _=>false) b.1 (λ k i x c=>by
  rw[v8,cc (bb.1 c).1,lY,bK c,ae,ae,rA h,ae,afP];by_cases e:x.ap=[]
  ·rw[lX (.inl e),lP e];rfl
  ·rw[lQ e];by_cases al:0<=bt l x.ap;rw[lX (.inr al),lQ (show¬bt l x.ap<0 by omega)];rfl
   ·rw[lW (by simp[e,al]),lP (show bt l x.ap<0 by omega)];rfl) (λ k=>by rw[v8,cb];rfl) b.2
 rw[l1,Dg];cases a.findSome? (kY l)<;>rfl
theorem J6{o:Option Int}(h:o=none\/o=some 5)(Y:Option (Way Int Unit)):cond (!o.isNone) (some (.out 5)) Y=hE o Y:=by rcases h with h |h<;>rw[h]<;>rfl
theorem Kd(k:Kind):kY l k=none\/kY l k=some 5:=oz (λ _=>Vs) _
theorem BG{o a:Option Int}{Y:Option (Way Int Unit)}:hE o (hE a Y)=hE (o.or a) Y:=by cases o<;>rfl
theorem akP(s:1100<F)(h:Right l):v5 F l F 0=some (cP ((n1 l).findSome? (h5 l))):=by
 have j:=h.len;have:=each (l:=l) (L:=v5 F l) (λ c=>(gC c).findSome? (h5 l)) (by omega) (λ k n c b=>by
  have hc:=cU b;have t:=h.fields c hc;have u:=h.methods c hc;have q:yF F l (n:Int) F 0=some (cP (c.Fields.findSome? λ f=>kY l f.Kind)):=each (l:=c.Fields) (λ f=>kY l f.Kind) (by omega) (λ k i f hy=>by rw[yF,bK b,ae,cc (bb.1 hy).1,lY,ae,bK hy,ae,Gr ⟨by omega,by omega⟩ ⟨by simp,by simp;omega⟩,ae];have e:[(⟨f.Kind.Kind,f.Kind.ap⟩:Kind)].findSome? (kY l)=kY l f.Kind:=T0;rw[e];exact J6 (Kd _) _) (λ k=>by rw[yF,bK b,ae,cb];rfl) (by omega);have d:yG F l (n:Int) F 0=some (cP (c.a1.findSome? λ m=>(mt m).findSome? (h5 l))):=each (l:=c.a1) (λ m=>(mt m).findSome? (h5 l)) (by omega) (λ k i m hy=>by
   have r:=cU hy;obtain⟨v,w⟩:=h.method c hc m r;have g:yH F l m F 0=some (cP (m.cj.findSome? λ x=>h5 l x.ap)):=each (l:=m.cj) (λ x=>h5 l x.ap) (by omega) (λ k i x o=>by
    rw[yH,cc (bb.1 o).1,lY,bK o,ae,rA ⟨by omega,by omega⟩,ae];unfold h5;by_cases al:0<=bt l x.ap;rw[lX al,lQ (show¬bt l x.ap<0 by omega)];rfl
    ·rw[lW al,lP (show bt l x.ap<0 by omega)];rfl) (λ k=>by rw[yH,cb];rfl) (by omega)
   have e:[(⟨m.Returns.Kind,m.Returns.ap⟩:Kind)].findSome? (kY l)=kY l m.Returns:=T0;rw[yG,bK b,ae,cc (bb.1 hy).1,lY,ae,bK hy,ae,Gr ⟨by omega,by omega⟩ ⟨by omega,by omega⟩,ae,Gr ⟨by omega,by omega⟩ ⟨by simp,by simp;omega⟩,ae,g,e,k8];rw[J6 (Kd _),J6 (oz (λ k=>Kd k) _),BG,BG,mX,k6];congr 1;unfold mt;rw[kq,kq,zd,List.findSome?_map];cases p:m.b9.findSome? (kY l)with
   |some a=>have:(m.b9.findSome? λ x=>(dh x).findSome? (h5 l))=some a:=p;rw[this];rfl
   |none=>have:(m.b9.findSome? λ x=>(dh x).findSome? (h5 l))=none:=p;rw[this];rfl) (λ k=>by rw[yG,bK b,ae,cb];rfl) (by omega)
  rw[v5,cc (bb.1 b).1,lY,q,d,k8,k8,BG,mX,k6];congr 1;unfold gC;rw[kq,zd,zd];rfl) (λ k=>by rw[v5,cb];rfl) (F:=F) (by omega)
 rw[this,n1,zd]
end
end ad
