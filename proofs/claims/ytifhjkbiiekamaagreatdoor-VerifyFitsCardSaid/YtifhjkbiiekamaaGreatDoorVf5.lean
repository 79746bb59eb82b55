/- Part 5 of the proof that is ended in the last text: small logic, what the functions compute, walks, plain laws. -/
import Derived.Test.YtifhjkbiiekamaaGreatDoorVf4
import Derived.Maps.RangeRun
import Derived.Recover
import Derived.KernelRfl
import Derived.Test.YtifhjkbiiekamaaGreatDoorRows
import Derived.Lib.LaidTab
import Derived.ChangeSame
open Array renaming getD_eq_getD_getElem?->df,getElem?_eq_none->hA,getElem?_setIfInBounds->d_,getElem?_toList->g5
open Bool renaming and_eq_true->bM,and_self->kr,eq_iff_iff->io,false_eq_true->hT,false_or->k9,not_eq_true'->gx,not_false->kV,not_true->fg,true_and->lb
open List renaming cons.injEq->hH,cons_append->iQ,drop_eq_getElem_cons->hJ,drop_of_length_le->h7,exists_of_findSome?_eq_some->ed,ext_getElem?->jO,findSome?_cons->iI,findSome?_eq_none_iff->fk,getElem?_cons_zero->dm,getElem?_eq_getElem->bx,getElem?_eq_none->gM,getElem?_eq_some_iff->bg,getElem?_map->kc,getElem?_take->ht,length_append->fz,length_cons->dp,length_nil->g3,length_take->fM,map_cons->eZ,mem_append->de,mem_cons->cU,mem_map->kg,mem_map_of_mem->kC,mem_of_getElem?->bR,mem_singleton->ft,nodup_append->fL,nodup_cons->jC,not_mem_nil->hl,range->fe,set_getElem_self->lp,take_add_one->jP,take_length->jY,take_of_length_le->hF
open Nat renaming beq->b2,ble->hR,blt->eh,eq_of_beq_eq_true->a8,le_of_ble_eq_true->b_,le_refl->cS,lt_or_ge->gw,zero_le->g_
open Option renaming bind_some->ae,getD_none->iG,getD_some->h2,map->eV,map_none->ie,map_some->fC,some.inj->eG,some.injEq->aM
open Prod renaming mk.injEq->cv
noncomputable section
namespace Go.Proofs.YtifhjkbiiekamaaGreatDoor
open Go Go.RowKit aw ad a9
set_option maxRecDepth 100000
@[reducible] def wR{α:Type}(x:List UInt8×List UInt8×List ad.Field×List ad.Method×α):ad.ao:=⟨x.1,x.2.1,x.2.2.1,x.2.2.2.1⟩
@[reducible] def Cv{α:Type}(x:Int×List UInt8×α):ad.Kind:=⟨x.1,x.2.1⟩
@[reducible] def gu{α:Type}(x:List ad.ao×List Int×List (List ad.Field)×List (List (List UInt8))×List (List ad.Target)×α):ad.bE:=⟨x.1,x.2.1,x.2.2.1,x.2.2.2.1,x.2.2.2.2.1⟩
@[reducible] def pO{α:Type}(x:List UInt8×Bool×List ad.Kind×Int×List UInt8×Int×Int×List UInt8×List ad.Handler×α):ad.Method:=⟨x.1,x.2.1,x.2.2.1,⟨x.2.2.2.1,x.2.2.2.2.1⟩,x.2.2.2.2.2.1,x.2.2.2.2.2.2.1,x.2.2.2.2.2.2.2.1,x.2.2.2.2.2.2.2.2.1⟩
@[reducible] def jS:bB:=.c 61 [.s,.b,.l 47,lT,.s,lT,lT,.s,.l 71]
@[reducible] def FO:cW:=.a [.s,.b,.l 47,lT,.s,lT,lT,.s,.l 71]
@[reducible] def arA:cW:=.a [.l 3,lT,lT,lT,lT,.l 3,lT]
@[reducible] def fp:bB:=.c 28 [.l 39,.l 3,.l 36,.l 95,.l 96]
@[reducible] def tO:cW:=.a [.l 39,.l 3,.l 36,.l 95,.l 96]
@[reducible] def Vj:bB:=.c 28 [.l 39,.l 3,.R 4,.R 5,.R 6]
@[reducible] def Vg:bB:=.c 28 [.l 39,.R 2,.R 3,.R 4,.R 5]
@[reducible] def gQ:bB:=.c 39 [.s,.s,.l 121,.l 61]
@[reducible] def Vh:bB:=.c 39 [.s,.s,.R 2,.R 3]
@[reducible] def iO:bB:=.c 115 [.l 39,.M 1,.R 2]
@[reducible] def dQ:bB:=.c 115 [.l 39,.M 1,.l 3]
@[reducible] def Vi:bB:=.c 115 [.l 39,.M 2,.l 3]
def aaI(F:Nat):a2 aU:=⟨Di F,λ _=>abo F,sE⟩
def Js(k:Nat)(a:List UInt8)(b:Int)(al:Int):=dx ((a.length:Int)=al/\True) (bb (vS a k b))
theorem MV(k:Nat)(a:List UInt8)(b:Int):bb (vS a k b)=Js k a b (a.length:Int):=(dZ ⟨rfl,trivial⟩).symm
def Yj(F:Nat):a2 aU:=(aaI F).b4 119 0 F ⟨[0,6,7,8],[.p (.s),.p (.l 5),lQ,lQ],[],
 [⟨⟨.nm,[0],[.p (.s)],[]⟩,Unit,λ d r=>((d.1.1,()),())⟩,
  ⟨⟨.rt,[2],[lS],[]⟩,Bool,λ d r=>((r,()),())⟩],
 λ k d=>Js k d.1.2.1 d.1.2.2.2.1 d.1.2.2.1⟩ (bN.b7 (λ d=>dY) λ k aH aJ q h=>by
 obtain⟨(c:List UInt8),(v1:List UInt8),(e:Int),(a:Int),_⟩:=aH
 obtain⟨b,_⟩:=en h
 dsimp only at b
 obtain⟨rfl,_⟩:=b
 conv=>rhs;change eV (α:=Unit⊕Bool) _ (Js (k+1) v1 a (v1.length:Int));rw[<-MV (k+1) v1 a];simp only[vS,bi,MV];simp only[bY]
 kernel_rfl)
def Zj(F:Nat):a2 aU:=(Yj F).rt 119 ⟨[.p (.s)],[],[lS],[],Bool,λ d=>k5 F d.1.1,λ d r=>((r,()),())⟩ λ aH aJ=>by
 obtain⟨(a:List UInt8),_⟩:=aH;conv=>rhs;simp only[k5,bi,MV]
 kernel_rfl
def Zu(F:Nat):a2 aU:=(Zj F).rt 129 ⟨[lQ],[],[lS],[],Bool,λ d=>ES d.1.1,λ d r=>((r,()),())⟩ λ aH aJ=>by
 conv=>rhs;simp only[ES,bi]
 kernel_rfl
def ZF(F:Nat):a2 aU:=(Zu F).rt 120 ⟨[.a [lT,.s]],[],[lS],[],Bool,λ d=>qV F (Cv d.1.1),λ d r=>((r,()),())⟩ λ aH aJ=>by
 conv=>rhs;simp only[qV,bi]
 kernel_rfl
def ZQ(F:Nat):a2 aU:=(ZF F).rt 130 ⟨[lQ,lQ,lQ],[],[lS],[],Bool,λ d=>km d.1.1 d.1.2.1 d.1.2.2.1,λ d r=>((r,()),())⟩ λ aH aJ=>by
 conv=>rhs;simp only[km,bi]
 kernel_rfl
def Jt(F:Nat)(k:Nat)(a:ad.Method)(b:Int)(c:Int)(b':List ad.Kind):=dx ((a.cg.length:Int)=c/\(a.cg:List ad.Kind)=b'/\True) (bb (sU F a k b))
theorem MW(F:Nat)(k:Nat)(a:ad.Method)(b:Int):bb (sU F a k b)=Jt F k a b (a.cg.length:Int) a.cg:=(dZ ⟨rfl,rfl,trivial⟩).symm
def Z1(F:Nat):a2 aU:=(ZQ F).b4 121 1 F ⟨[1,41,42,43],[.p (.B 0),.p (.l 47),lQ,lQ],[jS],
 [⟨⟨.nm,[1],[.p (.B 0)],[jS]⟩,Unit,λ d r=>(((),()),(d.2.1,()))⟩,
  ⟨⟨.rt,[2],[lQ],[.d]⟩,Int,λ d r=>((r,()),((),()))⟩],
 λ k d=>Jt F k (⟨d.2.1.1,d.2.1.2.1,d.1.2.1,(Cv d.2.1.2.2.2),d.2.1.2.2.2.2.2.1,d.2.1.2.2.2.2.2.2.1,d.2.1.2.2.2.2.2.2.2.1,d.2.1.2.2.2.2.2.2.2.2.1⟩:ad.Method) d.1.2.2.2.1 d.1.2.2.1 d.2.1.2.2.1⟩ (bN.b7 (λ d=>dY) λ k aH aJ q h=>by
 obtain⟨_,(c:List ad.Kind),(v1:Int),(e:Int),_⟩:=aH
 obtain⟨⟨(f:List UInt8),(g:Bool),(n:List ad.Kind),(i:Int),(j:List UInt8),(e5:Int),(l:Int),(a:List UInt8),(b:List ad.Handler),_⟩,_⟩:=aJ
 obtain⟨m,_⟩:=en h
 dsimp only at m
 obtain⟨rfl,rfl,_⟩:=m
 conv=>rhs;change eV (α:=Unit⊕Int) _ (Jt F (k+1) (⟨f,g,c,(⟨i,j⟩:ad.Kind),e5,l,a,b⟩:ad.Method) e (c.length:Int) (c));rw[<-MW F (k+1) (⟨f,g,c,(⟨i,j⟩:ad.Kind),e5,l,a,b⟩:ad.Method) e];simp only[sU,bi,MW];simp only[bY]
 kernel_rfl)
def Ep(F:Nat)(k:Nat)(a:ad.Method)(b:Int)(c:Int):=dx ((a.ck.length:Int)=c/\True) (bb (n1 F a k b))
theorem F6(F:Nat)(k:Nat)(a:ad.Method)(b:Int):bb (n1 F a k b)=Ep F k (⟨[],false,[],(⟨0,[]⟩:ad.Kind),0,0,[],a.ck⟩:ad.Method) b (a.ck.length:Int):=(show bb (n1 F a k b)=bb (n1 F (⟨[],false,[],(⟨0,[]⟩:ad.Kind),0,0,[],a.ck⟩:ad.Method) k b) by kernel_rfl).trans (dZ ⟨rfl,trivial⟩).symm
theorem ak5(F:Nat)(k:Nat)(a:ad.Method)(b:Int):bb (vW F a k b)=Ep F k (⟨[],false,[],(⟨0,[]⟩:ad.Kind),0,0,[],a.ck⟩:ad.Method) b (a.ck.length:Int):=(show bb (vW F a k b)=bb (n1 F a k b) by kernel_rfl).trans (F6 F k a b)
def aab(F:Nat):a2 aU:=(Z1 F).b4 121 3 F ⟨[62,63,64],[.p (.l 71),lQ,lQ],[],
 [⟨⟨.nm,[],[],[]⟩,Unit,λ d r=>((),())⟩,
  ⟨⟨.rt,[2],[lQ],[]⟩,Int,λ d r=>((r,()),())⟩],
 λ k d=>Ep F k (⟨[],false,[],(⟨0,[]⟩:ad.Kind),0,0,[],d.1.1⟩:ad.Method) d.1.2.2.1 d.1.2.1⟩ (bN.b7 (λ d=>dY) λ k aH aJ q h=>by
 obtain⟨(a:List ad.Handler),(v1:Int),(b:Int),_⟩:=aH
 obtain⟨c,_⟩:=en h
 dsimp only at c
 obtain⟨rfl,_⟩:=c
 conv=>rhs;change eV (α:=Unit⊕Int) _ (Ep F (k+1) (⟨[],false,[],(⟨0,[]⟩:ad.Kind),0,0,[],a⟩:ad.Method) b (a.length:Int));rw[<-F6 F (k+1) (⟨[],false,[],(⟨0,[]⟩:ad.Kind),0,0,[],a⟩:ad.Method) b];simp only[n1,bi,F6];simp only[bY]
 kernel_rfl)
def aam(F:Nat):a2 aU:=(aab F).rt 121 ⟨[FO],[],[lQ],[],Int,λ d=>vV F (pO d.1.1),λ d r=>((r,()),())⟩ λ aH aJ=>by
 obtain⟨⟨(a:List UInt8),(v1:Bool),(b:List ad.Kind),(c:Int),(e:List UInt8),(f:Int),(g:Int),(h:List UInt8),(e5:List ad.Handler),_⟩,_⟩:=aH;conv=>rhs;simp only[vV,bi,MW,F6,ak5]
 kernel_rfl
def En(F:Nat)(k:Nat)(c_:ad.ao)(a:Int)(b:Int)(b':List ad.Field):=dx ((c_.Fields.length:Int)=b/\(c_.Fields:List ad.Field)=b'/\True) (bb (qU F c_ k a))
theorem F4(F:Nat)(k:Nat)(c_:ad.ao)(a:Int):bb (qU F c_ k a)=En F k c_ a (c_.Fields.length:Int) c_.Fields:=(dZ ⟨rfl,rfl,trivial⟩).symm
theorem ak3(F:Nat)(k:Nat)(c_:ad.ao)(a:Int):bb (vT F c_ k a)=En F k c_ a (c_.Fields.length:Int) c_.Fields:=(show bb (vT F c_ k a)=bb (qU F c_ k a) by kernel_rfl).trans (F4 F k c_ a)
def aax(F:Nat):a2 aU:=(aam F).b4 93 1 F ⟨[1,36,37,38],[.p (.B 0),.p (.l 121),lQ,lQ],[gQ],
 [⟨⟨.nm,[1],[.p (.B 0)],[gQ]⟩,Unit,λ d r=>(((),()),(d.2.1,()))⟩,
  ⟨⟨.rt,[2],[lQ],[.d]⟩,Int,λ d r=>((r,()),((),()))⟩],
 λ k d=>En F k (⟨d.2.1.1,d.2.1.2.1,d.1.2.1,d.2.1.2.2.2.1⟩:ad.ao) d.1.2.2.2.1 d.1.2.2.1 d.2.1.2.2.1⟩ (bN.b7 (λ d=>dY) λ k aH aJ q h=>by
 obtain⟨_,(a:List ad.Field),(v1:Int),(b:Int),_⟩:=aH
 obtain⟨⟨(c:List UInt8),(e:List UInt8),(i:List ad.Field),(f:List ad.Method),_⟩,_⟩:=aJ
 obtain⟨g,_⟩:=en h
 dsimp only at g
 obtain⟨rfl,rfl,_⟩:=g
 conv=>rhs;change eV (α:=Unit⊕Int) _ (En F (k+1) (⟨c,e,a,f⟩:ad.ao) b (a.length:Int) (a));rw[<-F4 F (k+1) (⟨c,e,a,f⟩:ad.ao) b];simp only[qU,bi,F4];simp only[bY]
 kernel_rfl)
def Eo(F:Nat)(k:Nat)(c_:ad.ao)(a:Int)(b:Int):=dx ((c_.a3.length:Int)=b/\True) (bb (n0 F c_ k a))
theorem F5(F:Nat)(k:Nat)(c_:ad.ao)(a:Int):bb (n0 F c_ k a)=Eo F k (⟨[],[],[],c_.a3⟩:ad.ao) a (c_.a3.length:Int):=(show bb (n0 F c_ k a)=bb (n0 F (⟨[],[],[],c_.a3⟩:ad.ao) k a) by kernel_rfl).trans (dZ ⟨rfl,trivial⟩).symm
theorem ak4(F:Nat)(k:Nat)(c_:ad.ao)(a:Int):bb (vU F c_ k a)=Eo F k (⟨[],[],[],c_.a3⟩:ad.ao) a (c_.a3.length:Int):=(show bb (vU F c_ k a)=bb (n0 F c_ k a) by kernel_rfl).trans (F5 F k c_ a)
def Yk(F:Nat):a2 aU:=(aax F).b4 93 4 F ⟨[54,55,56],[.p (.l 61),lQ,lQ],[],
 [⟨⟨.nm,[],[],[]⟩,Unit,λ d r=>((),())⟩,
  ⟨⟨.rt,[2],[lQ],[]⟩,Int,λ d r=>((r,()),())⟩],
 λ k d=>Eo F k (⟨[],[],[],d.1.1⟩:ad.ao) d.1.2.2.1 d.1.2.1⟩ (bN.b7 (λ d=>dY) λ k aH aJ q h=>by
 obtain⟨(a:List ad.Method),(v1:Int),(b:Int),_⟩:=aH
 obtain⟨c,_⟩:=en h
 dsimp only at c
 obtain⟨rfl,_⟩:=c
 conv=>rhs;change eV (α:=Unit⊕Int) _ (Eo F (k+1) (⟨[],[],[],a⟩:ad.ao) b (a.length:Int));rw[<-F5 F (k+1) (⟨[],[],[],a⟩:ad.ao) b];simp only[n0,bi,F5];simp only[bY]
 kernel_rfl)
def Yv(F:Nat):a2 aU:=(Yk F).rt 93 ⟨[.a [.s,.s,.l 121,.l 61]],[],[lQ],[],Int,λ d=>Bb F (wR d.1.1),λ d r=>((r,()),())⟩ λ aH aJ=>by
 obtain⟨⟨(a:List UInt8),(v1:List UInt8),(b:List ad.Field),(c:List ad.Method),_⟩,_⟩:=aH;conv=>rhs;simp only[Bb,bi,F4,ak3,F5,ak4]
 kernel_rfl
def Jr(F:Nat)(k:Nat)(a0:List ad.ao)(a:Int)(b:Int):=dx ((a0.length:Int)=b/\True) (bb (sT F a0 k a))
theorem MU(F:Nat)(k:Nat)(a0:List ad.ao)(a:Int):bb (sT F a0 k a)=Jr F k a0 a (a0.length:Int):=(dZ ⟨rfl,trivial⟩).symm
def YG(F:Nat):a2 aU:=(Yv F).b4 52 0 F ⟨[9,10,11],[.p (.l 39),lQ,lQ],[],
 [⟨⟨.nm,[],[],[]⟩,Unit,λ d r=>((),())⟩,
  ⟨⟨.rt,[2],[lQ],[]⟩,Int,λ d r=>((r,()),())⟩],
 λ k d=>Jr F k d.1.1 d.1.2.2.1 d.1.2.1⟩ (bN.b7 (λ d=>dY) λ k aH aJ q h=>by
 obtain⟨(a:List ad.ao),(v1:Int),(b:Int),_⟩:=aH
 obtain⟨c,_⟩:=en h
 dsimp only at c
 obtain⟨rfl,_⟩:=c
 conv=>rhs;change eV (α:=Unit⊕Int) _ (Jr F (k+1) a b (a.length:Int));rw[<-MU F (k+1) a b];simp only[sT,bi,MU];simp only[bY]
 kernel_rfl)
def YQ(F:Nat):a2 aU:=(YG F).rt 52 ⟨[.p (.l 39)],[],[lQ],[],Int,λ d=>Ba F d.1.1,λ d r=>((r,()),())⟩ λ aH aJ=>by
 obtain⟨(a:List ad.ao),_⟩:=aH;conv=>rhs;simp only[Ba,bi,MU]
 kernel_rfl
def Y1(F:Nat):a2 aU:=(YQ F).b4 53 2 F ⟨[3,5,8,9,10,23,24,25],[.p (.R 0),.p (.B 1),.p (.l 39),lQ,lQ,.p (.R 3),lQ,lQ],[.r 39 false,Vh,.r 121 true,.r 61 true],
 [⟨⟨.nm,[3,5,8,9,10],[.p (.R 0),.p (.B 1),.p (.l 39),lQ,lQ],[.r 39 false,Vh,.r 121 true,.r 61 true]⟩,List ad.Method,λ d r=>(((),(),d.1.2.2.1,d.1.2.2.2.1,d.1.2.2.2.2.1,()),(d.2.1,(d.2.2.1.1,d.2.2.1.2.1,(),(),()),d.2.2.2.1,r,()))⟩],
 λ k d=>pr k d.2.2.2.2.1 d.1.2.2.2.2.2.2.1 d.1.2.2.2.2.2.2.2.1⟩ (bN.b7 (λ d=>rfl) λ k aH aJ q h=>by
 obtain⟨_,_,(a:List ad.ao),(v1:Int),(b:Int),_,(c:Int),(e:Int),_⟩:=aH
 obtain⟨(f:List ad.ao),⟨(g:List UInt8),(i:List UInt8),_,_,_⟩,(e5:List ad.Field),(j:List ad.Method),_⟩:=aJ
 conv=>rhs;simp only[pr,bi,N0,N1];simp only[bY]
 kernel_rfl)
def JN(F:Nat)(k:Nat)(a0:List ad.ao)(a:List ad.ao)(b:Int)(c:Int):=dx ((a0.length:Int)=c/\True) (n' F a0 k a b)
theorem Nf(F:Nat)(k:Nat)(a0:List ad.ao)(a:List ad.ao)(b:Int):n' F a0 k a b=JN F k a0 a b (a0.length:Int):=(dZ ⟨rfl,trivial⟩).symm
def Za(F:Nat):a2 aU:=(Y1 F).b4 53 0 F ⟨[3,8,9,10],[.p (.R 0),.p (.l 39),lQ,lQ],[.r 39 false],
 [⟨⟨.nm,[3],[.p (.R 0)],[.r 39 false]⟩,List ad.ao,λ d r=>(((),()),(r,()))⟩],
 λ k d=>JN F k d.1.2.1 d.2.1 d.1.2.2.2.1 d.1.2.2.1⟩ (bN.b7 (λ d=>dY) λ k aH aJ q h=>by
 obtain⟨_,(a:List ad.ao),(v1:Int),(b:Int),_⟩:=aH
 obtain⟨(c:List ad.ao),_⟩:=aJ
 obtain⟨e,_⟩:=en h
 dsimp only at e
 obtain⟨rfl,_⟩:=e
 conv=>rhs;change eV (α:=List ad.ao) _ (JN F (k+1) a c b (a.length:Int));rw[<-Nf F (k+1) a c b];simp only[n',bi,Nf,NZ,N2];simp only[bY]
 kernel_rfl)
def Zf(F:Nat):a2 aU:=(Za F).rt 53 ⟨[.p (.l 39)],[],[.p (.l 39)],[],List ad.ao,λ d=>Bt F d.1.1,λ d r=>((r,()),())⟩ λ aH aJ=>by
 obtain⟨(a:List ad.ao),_⟩:=aH;conv=>rhs;simp only[Bt,bi,Nf]
 kernel_rfl
def JD(k:Nat)(a:ad.a7)(b:List ((List UInt8)×Int))(od:Int)(c:Int)(aN:List ad.ao):=dx ((a.l.length:Int)=c/\(a.l:List ad.ao)=aN/\True) (bb (l5 a k b od))
theorem M6(k:Nat)(a:ad.a7)(b:List ((List UInt8)×Int))(od:Int):bb (l5 a k b od)=JD k (⟨a.l,[],a.cV⟩:ad.a7) b od (a.l.length:Int) a.l:=(show bb (l5 a k b od)=bb (l5 (⟨a.l,[],a.cV⟩:ad.a7) k b od) by kernel_rfl).trans (dZ ⟨rfl,rfl,trivial⟩).symm
def Zg(F:Nat):a2 aU:=(Zf F).b4 54 0 F ⟨[0,14,15,16],[.p (.B 0),.p (.l 39),lQ,lQ],[iO,.m 9 3,.r 3 true],
 [⟨⟨.nm,[0],[.p (.B 0)],[iO,.m 9 3,.r 3 true]⟩,List ((List UInt8)×Int),λ d r=>(((),()),((d.2.1.1,(),(),()),r,d.2.2.2.1,()))⟩,
  ⟨⟨.rt,[2],[lQ],[iO,.m 9 3,.r 3 true]⟩,Int×ad.a7,λ d r=>((r.1,()),((d.2.1.1,(),(),()),r.2.bF,d.2.2.2.1,()))⟩],
 λ k d=>JD k (⟨d.1.2.1,[],d.2.2.2.1⟩:ad.a7) d.2.2.1 d.1.2.2.2.1 d.1.2.2.1 d.2.1.1⟩ (bN.b7 (λ d=>dY) λ k aH aJ q h=>by
 obtain⟨_,(a:List ad.ao),(v1:Int),(b:Int),_⟩:=aH
 obtain⟨⟨(g:List ad.ao),_,_,_⟩,(c:List ((List UInt8)×Int)),(e:List Int),_⟩:=aJ
 obtain⟨f,_⟩:=en h
 dsimp only at f
 obtain⟨rfl,rfl,_⟩:=f
 conv=>rhs;change eV (α:=(List ((List UInt8)×Int))⊕(Int×ad.a7)) _ (JD (k+1) (⟨a,[],e⟩:ad.a7) c b (a.length:Int) (a));rw[<-M6 (k+1) (⟨a,[],e⟩:ad.a7) c b];simp only[l5,bi,M6];simp only[bY]
 kernel_rfl)
def Zh(F:Nat):a2 aU:=(Zg F).rt 54 ⟨[.p (.B 0)],[iO,.m 9 3,.r 3 true],[lQ],[iO,.m 9 3,.r 3 true],Int×ad.a7,λ d=>yr F (⟨d.2.1.1,d.2.2.1,d.2.2.2.1⟩:ad.a7),λ d r=>((r.1,()),((d.2.1.1,(),(),()),r.2.bF,d.2.2.2.1,()))⟩ λ aH aJ=>by
 obtain⟨_,_⟩:=aH;obtain⟨⟨(a:List ad.ao),_,_,_⟩,(v1:List ((List UInt8)×Int)),(b:List Int),_⟩:=aJ;conv=>rhs;simp only[yr,bi,M6]
 kernel_rfl
def Jv(k:Nat)(a:ad.a7)(b:Int)(c:Int)(aN:List ad.ao):=dx ((a.l.length:Int)=c/\(a.l:List ad.ao)=aN/\True) (bb (rf a k b))
theorem MY(k:Nat)(a:ad.a7)(b:Int):bb (rf a k b)=Jv k a b (a.l.length:Int) a.l:=(dZ ⟨rfl,rfl,trivial⟩).symm
def Zi(F:Nat):a2 aU:=(Zh F).b4 55 0 F ⟨[0,14,15,16],[.p (.B 0),.p (.l 39),lQ,lQ],[iO,.m 9 3,.r 3 true],
 [⟨⟨.nm,[0],[.p (.B 0)],[iO,.m 9 3,.r 3 true]⟩,Unit,λ d r=>(((),()),((d.2.1.1,(),(),()),d.2.2.1,d.2.2.2.1,()))⟩,
  ⟨⟨.rt,[2],[lQ],[iO,.m 9 3,.r 3 true]⟩,Int×ad.a7,λ d r=>((r.1,()),((d.2.1.1,(),(),()),d.2.2.1,r.2.cV,()))⟩],
 λ k d=>Jv k (⟨d.1.2.1,d.2.2.1,d.2.2.2.1⟩:ad.a7) d.1.2.2.2.1 d.1.2.2.1 d.2.1.1⟩ (bN.b7 (λ d=>dY) λ k aH aJ q h=>by
 obtain⟨_,(a:List ad.ao),(v1:Int),(b:Int),_⟩:=aH
 obtain⟨⟨(g:List ad.ao),_,_,_⟩,(c:List ((List UInt8)×Int)),(e:List Int),_⟩:=aJ
 obtain⟨f,_⟩:=en h
 dsimp only at f
 obtain⟨rfl,rfl,_⟩:=f
 conv=>rhs;change eV (α:=Unit⊕(Int×ad.a7)) _ (Jv (k+1) (⟨a,c,e⟩:ad.a7) b (a.length:Int) (a));rw[<-MY (k+1) (⟨a,c,e⟩:ad.a7) b];simp only[rf,bi,MY];simp only[bY]
 kernel_rfl)
def Jw(k:Nat)(a:ad.a7)(pk:List Int)(b:Int)(c:Int)(aN:List ad.ao):=dx ((a.l.length:Int)=c/\(a.l:List ad.ao)=aN/\True) (bb (ku a k pk b))
theorem MZ(k:Nat)(a:ad.a7)(pk:List Int)(b:Int):bb (ku a k pk b)=Jw k (⟨a.l,a.bF,[]⟩:ad.a7) pk b (a.l.length:Int) a.l:=(show bb (ku a k pk b)=bb (ku (⟨a.l,a.bF,[]⟩:ad.a7) k pk b) by kernel_rfl).trans (dZ ⟨rfl,rfl,trivial⟩).symm
def Zk(F:Nat):a2 aU:=(Zi F).b4 55 2 F ⟨[0,31,32,33],[.p (.B 0),.p (.l 39),lQ,lQ],[iO,.m 9 3,.r 3 false],
 [⟨⟨.nm,[0],[.p (.B 0)],[iO,.m 9 3,.r 3 false]⟩,List Int,λ d r=>(((),()),((d.2.1.1,(),(),()),d.2.2.1,r,()))⟩,
  ⟨⟨.rt,[2],[lQ],[iO,.m 9 3,.r 3 false]⟩,Int×ad.a7,λ d r=>((r.1,()),((d.2.1.1,(),(),()),d.2.2.1,r.2.cV,()))⟩],
 λ k d=>Jw k (⟨d.1.2.1,d.2.2.1,[]⟩:ad.a7) d.2.2.2.1 d.1.2.2.2.1 d.1.2.2.1 d.2.1.1⟩ (bN.b7 (λ d=>dY) λ k aH aJ q h=>by
 obtain⟨_,(a:List ad.ao),(v1:Int),(b:Int),_⟩:=aH
 obtain⟨⟨(g:List ad.ao),_,_,_⟩,(c:List ((List UInt8)×Int)),(e:List Int),_⟩:=aJ
 obtain⟨f,_⟩:=en h
 dsimp only at f
 obtain⟨rfl,rfl,_⟩:=f
 conv=>rhs;change eV (α:=(List Int)⊕(Int×ad.a7)) _ (Jw (k+1) (⟨a,c,[]⟩:ad.a7) e b (a.length:Int) (a));rw[<-MZ (k+1) (⟨a,c,[]⟩:ad.a7) e b];simp only[ku,bi,MZ];simp only[bY]
 kernel_rfl)
def Jy(k:Nat)(a:ad.a7)(b:List Int)(c:Int)(d:Int)(e:Int)(aN:Int):=dx ((a.l.length:Int)=e/\(a.l.length:Int)=aN/\True) (po a b k c d)
theorem M1(k:Nat)(a:ad.a7)(b:List Int)(c:Int)(d:Int):po a b k c d=Jy k (⟨a.l,a.bF,[]⟩:ad.a7) b c d (a.l.length:Int) (a.l.length:Int):=(show po a b k c d=po (⟨a.l,a.bF,[]⟩:ad.a7) b k c d by kernel_rfl).trans (dZ ⟨rfl,rfl,trivial⟩).symm
def Zl(F:Nat):a2 aU:=(Zk F).b4 55 7 F ⟨[0,10,69,70,78,79],[.p (.B 0),lQ,lQ,lQ,lQ,lQ],[iO,.m 9 3,.r 3 true],
 [⟨⟨.nm,[0,10,69,70],[.p (.B 0),lQ,lQ,lQ],[iO,.m 9 3,.r 3 true]⟩,Int,λ d r=>(((),r,d.1.2.2.1,d.1.2.2.2.1,()),((d.2.1.1,(),(),()),d.2.2.1,d.2.2.2.1,()))⟩],
 λ k d=>Jy k (⟨d.2.1.1,d.2.2.1,[]⟩:ad.a7) d.2.2.2.1 d.1.2.1 d.1.2.2.2.2.2.1 d.1.2.2.1 d.1.2.2.2.2.1⟩ (bN.b7 (λ d=>dY) λ k aH aJ q h=>by
 obtain⟨_,(b:Int),(v1:Int),(i:Int),(j:Int),(c:Int),_⟩:=aH
 obtain⟨⟨(a:List ad.ao),_,_,_⟩,(e:List ((List UInt8)×Int)),(f:List Int),_⟩:=aJ
 obtain⟨g,_⟩:=en h
 dsimp only at g
 obtain⟨rfl,rfl,_⟩:=g
 conv=>rhs;change eV (α:=Int) _ (Jy (k+1) (⟨a,e,[]⟩:ad.a7) f b c (a.length:Int) (a.length:Int));rw[<-M1 (k+1) (⟨a,e,[]⟩:ad.a7) f b c];simp only[po,bi,M1];simp only[bY]
 kernel_rfl)
def Jx(F:Nat)(k:Nat)(a:ad.a7)(b:List Int)(c:Int)(d:Int):=dx ((a.l.length:Int)=d/\True) (bb (n4 F a b k c))
theorem M0(F:Nat)(k:Nat)(a:ad.a7)(b:List Int)(c:Int):bb (n4 F a b k c)=Jx F k (⟨a.l,a.bF,[]⟩:ad.a7) b c (a.l.length:Int):=(show bb (n4 F a b k c)=bb (n4 F (⟨a.l,a.bF,[]⟩:ad.a7) b k c) by kernel_rfl).trans (dZ ⟨rfl,trivial⟩).symm
def Zm(F:Nat):a2 aU:=(Zl F).b4 55 5 F ⟨[0,69,70],[.p (.B 0),lQ,lQ],[iO,.m 9 3,.r 3 true],
 [⟨⟨.nm,[],[],[iO,.m 9 3,.r 3 true]⟩,Unit,λ d r=>((),((d.2.1.1,(),(),()),d.2.2.1,d.2.2.2.1,()))⟩,
  ⟨⟨.rt,[2],[lQ],[iO,.m 9 3,.r 3 true]⟩,Int×ad.a7,λ d r=>((r.1,()),((d.2.1.1,(),(),()),d.2.2.1,r.2.cV,()))⟩],
 λ k d=>Jx F k (⟨d.2.1.1,d.2.2.1,[]⟩:ad.a7) d.2.2.2.1 d.1.2.2.1 d.1.2.1⟩ (bN.b7 (λ d=>dY) λ k aH aJ q h=>by
 obtain⟨_,(f:Int),(v1:Int),_⟩:=aH
 obtain⟨⟨(a:List ad.ao),_,_,_⟩,(b:List ((List UInt8)×Int)),(c:List Int),_⟩:=aJ
 obtain⟨e,_⟩:=en h
 dsimp only at e
 obtain⟨rfl,_⟩:=e
 conv=>rhs;change eV (α:=Unit⊕(Int×ad.a7)) _ (Jx F (k+1) (⟨a,b,[]⟩:ad.a7) c v1 (a.length:Int));rw[<-M0 F (k+1) (⟨a,b,[]⟩:ad.a7) c v1];simp only[n4,bi,M1,M0];simp only[bY]
 kernel_rfl)
def Zn(F:Nat):a2 aU:=(Zm F).rt 55 ⟨[.p (.B 0)],[iO,.m 9 3,.r 3 false],[lQ],[iO,.m 9 3,.r 3 false],Int×ad.a7,λ d=>E6 F (⟨d.2.1.1,d.2.2.1,d.2.2.2.1⟩:ad.a7),λ d r=>((r.1,()),((d.2.1.1,(),(),()),d.2.2.1,r.2.cV,()))⟩ λ aH aJ=>by
 obtain⟨_,_⟩:=aH;obtain⟨⟨(a:List ad.ao),_,_,_⟩,(v1:List ((List UInt8)×Int)),(b:List Int),_⟩:=aJ;conv=>rhs;simp only[E6,bi,MY,MZ,M0]
 kernel_rfl
def Zo(F:Nat):a2 aU:=(Zn F).rt 56 ⟨[.p (.B 0)],[dQ,.m 9 3],[lQ],[dQ,.m 9 3],Int,λ d=>E7 F (⟨d.2.1.1,d.2.2.1,d.2.1.2.2.1⟩:ad.a7),λ d r=>((r,()),((d.2.1.1,(),d.2.1.2.2.1,()),d.2.2.1,()))⟩ λ aH aJ=>by
 conv=>rhs;simp only[E7,bi]
 kernel_rfl
def Zp(F:Nat):a2 aU:=(Zo F).rt 97 ⟨[.a [lT,.s],.p (.B 0)],[.c 95 [.R 1],.r 9 false],[],[.c 95 [.R 1],.r 9 false],List (List UInt8),λ d=>wo (Cv d.1.1) d.2.2.1,λ d r=>((),(((),()),r,()))⟩ λ aH aJ=>by
 conv=>rhs;simp only[wo,bi]
 kernel_rfl
def JI(k:Nat)(a:ad.ao)(c:List (List UInt8))(d:Int)(bI:Int)(b:List ad.Field):=dx ((a.Fields.length:Int)=bI/\(a.Fields:List ad.Field)=b/\True) (rj a k c d)
theorem M'(k:Nat)(a:ad.ao)(b:List (List UInt8))(c:Int):rj a k b c=JI k a b c (a.Fields.length:Int) a.Fields:=(dZ ⟨rfl,rfl,trivial⟩).symm
def Zq(F:Nat):a2 aU:=(Zp F).b4 57 2 F ⟨[0,3,4,6,23,24,25,30,31,32],[.p (.B 0),.p (.B 2),.f 97 [.B 2],.p (.B 4),.p (.l 39),lQ,lQ,.p (.l 121),lQ,lQ],[dQ,.m 9 3,.c 95 [.R 3],.r 9 false,gQ],
 [⟨⟨.nm,[0,3,4,6,23,24,25],[.p (.B 0),.p (.B 2),.f 97 [.B 2],.p (.B 4),.p (.l 39),lQ,lQ],[dQ,.m 9 3,.c 95 [.R 3],.r 9 false,gQ]⟩,List (List UInt8),λ d r=>(((),(),((),()),(),d.1.2.2.2.2.1,d.1.2.2.2.2.2.1,d.1.2.2.2.2.2.2.1,()),((d.2.1.1,(),d.2.1.2.2.1,()),d.2.2.1,((),()),r,d.2.2.2.2.2.1,()))⟩],
 λ k d=>JI k (⟨d.2.2.2.2.2.1.1,d.2.2.2.2.2.1.2.1,d.1.2.2.2.2.2.2.2.1,d.2.2.2.2.2.1.2.2.2.1⟩:ad.ao) d.2.2.2.2.1 d.1.2.2.2.2.2.2.2.2.2.1 d.1.2.2.2.2.2.2.2.2.1 d.2.2.2.2.2.1.2.2.1⟩ (bN.b7 (λ d=>dY) λ k aH aJ q h=>by
 obtain⟨_,_,⟨_,_⟩,_,(j:List ad.ao),(v1:Int),(l:Int),(c:List ad.Field),(m:Int),(e:Int),_⟩:=aH
 obtain⟨⟨(n:List ad.ao),_,(o:List Int),_⟩,(e5:List ((List UInt8)×Int)),⟨_,_⟩,(f:List (List UInt8)),⟨(a:List UInt8),(b:List UInt8),(p:List ad.Field),(g:List ad.Method),_⟩,_⟩:=aJ
 obtain⟨i,_⟩:=en h
 dsimp only at i
 obtain⟨rfl,rfl,_⟩:=i
 conv=>rhs;change eV (α:=List (List UInt8)) _ (JI (k+1) (⟨a,b,c,g⟩:ad.ao) f e (c.length:Int) (c));rw[<-M' (k+1) (⟨a,b,c,g⟩:ad.ao) f e];simp only[rj,bi,M'];simp only[bY]
 kernel_rfl)
def JK(k:Nat)(a:ad.Method)(c:List (List UInt8))(d:Int)(e:Int)(b:List ad.Kind):=dx ((a.cg.length:Int)=e/\(a.cg:List ad.Kind)=b/\True) (rk a k c d)
theorem Nb(k:Nat)(a:ad.Method)(b:List (List UInt8))(c:Int):rk a k b c=JK k a b c (a.cg.length:Int) a.cg:=(dZ ⟨rfl,rfl,trivial⟩).symm
def Zr(F:Nat):a2 aU:=(Zq F).b4 57 6 F ⟨[0,3,4,10,23,24,25,42,43,44,49,50,51],[.p (.B 0),.p (.B 2),.f 97 [.B 2],.p (.B 4),.p (.l 39),lQ,lQ,.p (.l 61),lQ,lQ,.p (.l 47),lQ,lQ],[dQ,.m 9 3,.c 95 [.R 3],.r 9 false,jS],
 [⟨⟨.nm,[0,3,4,10,23,24,25,42,43,44],[.p (.B 0),.p (.B 2),.f 97 [.B 2],.p (.B 4),.p (.l 39),lQ,lQ,.p (.l 61),lQ,lQ],[dQ,.m 9 3,.c 95 [.R 3],.r 9 false,jS]⟩,List (List UInt8),λ d r=>(((),(),((),()),(),d.1.2.2.2.2.1,d.1.2.2.2.2.2.1,d.1.2.2.2.2.2.2.1,d.1.2.2.2.2.2.2.2.1,d.1.2.2.2.2.2.2.2.2.1,d.1.2.2.2.2.2.2.2.2.2.1,()),((d.2.1.1,(),d.2.1.2.2.1,()),d.2.2.1,((),()),r,d.2.2.2.2.2.1,()))⟩],
 λ k d=>JK k (⟨d.2.2.2.2.2.1.1,d.2.2.2.2.2.1.2.1,d.1.2.2.2.2.2.2.2.2.2.2.1,(Cv d.2.2.2.2.2.1.2.2.2),d.2.2.2.2.2.1.2.2.2.2.2.1,d.2.2.2.2.2.1.2.2.2.2.2.2.1,d.2.2.2.2.2.1.2.2.2.2.2.2.2.1,d.2.2.2.2.2.1.2.2.2.2.2.2.2.2.1⟩:ad.Method) d.2.2.2.2.1 d.1.2.2.2.2.2.2.2.2.2.2.2.2.1 d.1.2.2.2.2.2.2.2.2.2.2.2.1 d.2.2.2.2.2.1.2.2.1⟩ (bN.b7 (λ d=>dY) λ k aH aJ q h=>by
 obtain⟨_,_,⟨_,_⟩,_,(s:List ad.ao),(v1:Int),(t:Int),(u:List ad.Method),(v:Int),(w:Int),(b:List ad.Kind),(x:Int),(e5:Int),_⟩:=aH
 obtain⟨⟨(y:List ad.ao),_,(o:List Int),_⟩,(p:List ((List UInt8)×Int)),⟨_,_⟩,(c:List (List UInt8)),⟨(e:List UInt8),(f:Bool),(z:List ad.Kind),(g:Int),(i:List UInt8),(j:Int),(l:Int),(a:List UInt8),(m:List ad.Handler),_⟩,_⟩:=aJ
 obtain⟨n,_⟩:=en h
 dsimp only at n
 obtain⟨rfl,rfl,_⟩:=n
 conv=>rhs;change eV (α:=List (List UInt8)) _ (JK (k+1) (⟨e,f,b,(⟨g,i⟩:ad.Kind),j,l,a,m⟩:ad.Method) c e5 (b.length:Int) (b));rw[<-Nb (k+1) (⟨e,f,b,(⟨g,i⟩:ad.Kind),j,l,a,m⟩:ad.Method) c e5];simp only[rk,bi,Nb];simp only[bY]
 kernel_rfl)
def JL(k:Nat)(a:ad.Method)(b:List (List UInt8))(c:Int)(d:Int):=dx ((a.ck.length:Int)=d/\True) (n_ a k b c)
theorem Nc(k:Nat)(a:ad.Method)(b:List (List UInt8))(c:Int):n_ a k b c=JL k (⟨[],false,[],(⟨0,[]⟩:ad.Kind),0,0,[],a.ck⟩:ad.Method) b c (a.ck.length:Int):=(show n_ a k b c=n_ (⟨[],false,[],(⟨0,[]⟩:ad.Kind),0,0,[],a.ck⟩:ad.Method) k b c by kernel_rfl).trans (dZ ⟨rfl,trivial⟩).symm
def Zs(F:Nat):a2 aU:=(Zr F).b4 57 8 F ⟨[0,3,4,23,24,25,42,43,44,64,65,66],[.p (.B 0),.p (.B 2),.f 97 [.B 2],.p (.l 39),lQ,lQ,.p (.l 61),lQ,lQ,.p (.l 71),lQ,lQ],[dQ,.m 9 3,.c 95 [.R 3],.r 9 false],
 [⟨⟨.nm,[0,3,4,23,24,25,42,43,44],[.p (.B 0),.p (.B 2),.f 97 [.B 2],.p (.l 39),lQ,lQ,.p (.l 61),lQ,lQ],[dQ,.m 9 3,.c 95 [.R 3],.r 9 false]⟩,List (List UInt8),λ d r=>(((),(),((),()),d.1.2.2.2.1,d.1.2.2.2.2.1,d.1.2.2.2.2.2.1,d.1.2.2.2.2.2.2.1,d.1.2.2.2.2.2.2.2.1,d.1.2.2.2.2.2.2.2.2.1,()),((d.2.1.1,(),d.2.1.2.2.1,()),d.2.2.1,((),()),r,()))⟩],
 λ k d=>JL k (⟨[],false,[],(⟨0,[]⟩:ad.Kind),0,0,[],d.1.2.2.2.2.2.2.2.2.2.1⟩:ad.Method) d.2.2.2.2.1 d.1.2.2.2.2.2.2.2.2.2.2.2.1 d.1.2.2.2.2.2.2.2.2.2.2.1⟩ (bN.b7 (λ d=>dY) λ k aH aJ q h=>by
 obtain⟨_,_,⟨_,_⟩,(g:List ad.ao),(v1:Int),(i:Int),(j:List ad.Method),(l:Int),(m:Int),(a:List ad.Handler),(n:Int),(e5:Int),_⟩:=aH
 obtain⟨⟨(o:List ad.ao),_,(e:List Int),_⟩,(f:List ((List UInt8)×Int)),⟨_,_⟩,(b:List (List UInt8)),_⟩:=aJ
 obtain⟨c,_⟩:=en h
 dsimp only at c
 obtain⟨rfl,_⟩:=c
 conv=>rhs;change eV (α:=List (List UInt8)) _ (JL (k+1) (⟨[],false,[],(⟨0,[]⟩:ad.Kind),0,0,[],a⟩:ad.Method) b e5 (a.length:Int));rw[<-Nc (k+1) (⟨[],false,[],(⟨0,[]⟩:ad.Kind),0,0,[],a⟩:ad.Method) b e5];simp only[n_,bi,Nc];simp only[bY]
 kernel_rfl)
def JJ(F:Nat)(k:Nat)(a:ad.ao)(b:List (List UInt8))(c:Int)(bI:Int):=dx ((a.a3.length:Int)=bI/\True) (n9 F a k b c)
theorem Na(F:Nat)(k:Nat)(a:ad.ao)(b:List (List UInt8))(c:Int):n9 F a k b c=JJ F k (⟨[],[],[],a.a3⟩:ad.ao) b c (a.a3.length:Int):=(show n9 F a k b c=n9 F (⟨[],[],[],a.a3⟩:ad.ao) k b c by kernel_rfl).trans (dZ ⟨rfl,trivial⟩).symm
def Zt(F:Nat):a2 aU:=(Zs F).b4 57 4 F ⟨[0,3,4,23,24,25,42,43,44],[.p (.B 0),.p (.B 2),.f 97 [.B 2],.p (.l 39),lQ,lQ,.p (.l 61),lQ,lQ],[dQ,.m 9 3,.c 95 [.R 3],.r 9 false],
 [⟨⟨.nm,[0,3,4,23,24,25],[.p (.B 0),.p (.B 2),.f 97 [.B 2],.p (.l 39),lQ,lQ],[dQ,.m 9 3,.c 95 [.R 3],.r 9 false]⟩,List (List UInt8),λ d r=>(((),(),((),()),d.1.2.2.2.1,d.1.2.2.2.2.1,d.1.2.2.2.2.2.1,()),((d.2.1.1,(),d.2.1.2.2.1,()),d.2.2.1,((),()),r,()))⟩],
 λ k d=>JJ F k (⟨[],[],[],d.1.2.2.2.2.2.2.1⟩:ad.ao) d.2.2.2.2.1 d.1.2.2.2.2.2.2.2.2.1 d.1.2.2.2.2.2.2.2.1⟩ (bN.b7 (λ d=>dY) λ k aH aJ q h=>by
 obtain⟨_,_,⟨_,_⟩,(f:List ad.ao),(v1:Int),(g:Int),(a:List ad.Method),(i:Int),(b:Int),_⟩:=aH
 obtain⟨⟨(j:List ad.ao),_,(l:List Int),_⟩,(e5:List ((List UInt8)×Int)),⟨_,_⟩,(c:List (List UInt8)),_⟩:=aJ
 obtain⟨e,_⟩:=en h
 dsimp only at e
 obtain⟨rfl,_⟩:=e
 conv=>rhs;change eV (α:=List (List UInt8)) _ (JJ F (k+1) (⟨[],[],[],a⟩:ad.ao) c b (a.length:Int));rw[<-Na F (k+1) (⟨[],[],[],a⟩:ad.ao) c b];simp only[n9,bi,Nb,Nc,Na];simp only[bY]
 kernel_rfl)
def JH(F:Nat)(k:Nat)(a:ad.a7)(b:List (List UInt8))(c:Int)(d:Int)(aN:List ad.ao):=dx ((a.l.length:Int)=d/\(a.l:List ad.ao)=aN/\True) (ri F a k b c)
theorem M_(F:Nat)(k:Nat)(a:ad.a7)(b:List (List UInt8))(c:Int):ri F a k b c=JH F k a b c (a.l.length:Int) a.l:=(dZ ⟨rfl,rfl,trivial⟩).symm
def Zv(F:Nat):a2 aU:=(Zt F).b4 57 0 F ⟨[0,3,4,23,24,25],[.p (.B 0),.p (.B 2),.f 97 [.B 2],.p (.l 39),lQ,lQ],[dQ,.m 9 3,.c 95 [.R 3],.r 9 false],
 [⟨⟨.nm,[0,3],[.p (.B 0),.p (.B 2)],[dQ,.m 9 3,.c 95 [.R 3],.r 9 false]⟩,List (List UInt8),λ d r=>(((),(),()),((d.2.1.1,(),d.2.1.2.2.1,()),d.2.2.1,((),()),r,()))⟩],
 λ k d=>JH F k (⟨d.1.2.2.2.1,d.2.2.1,d.2.1.2.2.1⟩:ad.a7) d.2.2.2.2.1 d.1.2.2.2.2.2.1 d.1.2.2.2.2.1 d.2.1.1⟩ (bN.b7 (λ d=>dY) λ k aH aJ q h=>by
 obtain⟨_,_,⟨_,_⟩,(a:List ad.ao),(v1:Int),(b:Int),_⟩:=aH
 obtain⟨⟨(i:List ad.ao),_,(c:List Int),_⟩,(e:List ((List UInt8)×Int)),⟨_,_⟩,(f:List (List UInt8)),_⟩:=aJ
 obtain⟨g,_⟩:=en h
 dsimp only at g
 obtain⟨rfl,rfl,_⟩:=g
 conv=>rhs;change eV (α:=List (List UInt8)) _ (JH F (k+1) (⟨a,e,c⟩:ad.a7) f b (a.length:Int) (a));rw[<-M_ F (k+1) (⟨a,e,c⟩:ad.a7) f b];simp only[ri,bi,M',Na,M_];simp only[bY]
 kernel_rfl)
def JM(k:Nat)(b:ad.a7)(a:List (List UInt8))(c:Int)(d:Int):=dx ((a.length:Int)=d/\True) (bb (tj b a k c))
theorem Nd(k:Nat)(b:ad.a7)(a:List (List UInt8))(c:Int):bb (tj b a k c)=JM k b a c (a.length:Int):=(dZ ⟨rfl,trivial⟩).symm
def Zw(F:Nat):a2 aU:=(Zv F).b4 57 10 F ⟨[0,78,79,80],[.p (.B 0),.p (.R 2),lQ,lQ],[dQ,.m 9 3,.r 9 true],
 [⟨⟨.nm,[],[],[dQ,.m 9 3,.d]⟩,Unit,λ d r=>((),((d.2.1.1,(),d.2.1.2.2.1,()),d.2.2.1,(),()))⟩,
  ⟨⟨.rt,[2],[lQ],[dQ,.m 9 3,.d]⟩,Int,λ d r=>((r,()),((d.2.1.1,(),d.2.1.2.2.1,()),d.2.2.1,(),()))⟩],
 λ k d=>JM k (⟨d.2.1.1,d.2.2.1,d.2.1.2.2.1⟩:ad.a7) d.2.2.2.1 d.1.2.2.2.1 d.1.2.2.1⟩ (bN.b7 (λ d=>dY) λ k aH aJ q h=>by
 obtain⟨_,_,(g:Int),(v1:Int),_⟩:=aH
 obtain⟨⟨(b:List ad.ao),_,(c:List Int),_⟩,(e:List ((List UInt8)×Int)),(a:List (List UInt8)),_⟩:=aJ
 obtain⟨f,_⟩:=en h
 dsimp only at f
 obtain⟨rfl,_⟩:=f
 conv=>rhs;change eV (α:=Unit⊕Int) _ (JM (k+1) (⟨b,e,c⟩:ad.a7) a v1 (a.length:Int));rw[<-Nd (k+1) (⟨b,e,c⟩:ad.a7) a v1];simp only[tj,bi,Nd];simp only[bY]
 kernel_rfl)
def Zx(F:Nat):a2 aU:=(Zw F).rt 57 ⟨[.p (.B 0)],[dQ,.m 9 3],[lQ],[dQ,.m 9 3],Int,λ d=>Bs F (⟨d.2.1.1,d.2.2.1,d.2.1.2.2.1⟩:ad.a7),λ d r=>((r,()),((d.2.1.1,(),d.2.1.2.2.1,()),d.2.2.1,()))⟩ λ aH aJ=>by
 obtain⟨_,_⟩:=aH;obtain⟨⟨(a:List ad.ao),_,(v1:List Int),_⟩,(b:List ((List UInt8)×Int)),_⟩:=aJ;conv=>rhs;simp only[Bs,bi,M_,Nd]
 kernel_rfl
def JO(k:Nat)(a0:List (List UInt8))(a:List ((List UInt8)×Bool))(b:Int)(c:List (List UInt8))(al:Int):=dx ((a0:List (List UInt8))=c/\(a0.length:Int)=al/\True) (tl a0 k a b)
theorem Ng(k:Nat)(a0:List (List UInt8))(a:List ((List UInt8)×Bool))(b:Int):tl a0 k a b=JO k a0 a b a0 (a0.length:Int):=(dZ ⟨rfl,rfl,trivial⟩).symm
def Zy(F:Nat):a2 aU:=(Zx F).b4 98 0 F ⟨[0,3,7,8,9],[.p (.l 9),.p (.M 0),.p (.l 9),lQ,lQ],[.m 9 4],
 [⟨⟨.nm,[0,3],[.p (.l 9),.p (.M 0)],[.m 9 4]⟩,List ((List UInt8)×Bool),λ d r=>((d.1.1,(),()),(r,()))⟩],
 λ k d=>JO k d.1.1 d.2.1 d.1.2.2.2.2.1 d.1.2.2.1 d.1.2.2.2.1⟩ (bN.b7 (λ d=>dY) λ k aH aJ q h=>by
 obtain⟨(a:List (List UInt8)),_,(v1:List (List UInt8)),(f:Int),(b:Int),_⟩:=aH
 obtain⟨(c:List ((List UInt8)×Bool)),_⟩:=aJ
 obtain⟨e,_⟩:=en h
 dsimp only at e
 obtain⟨rfl,rfl,_⟩:=e
 conv=>rhs;change eV (α:=List ((List UInt8)×Bool)) _ (JO (k+1) a c b (a) (a.length:Int));rw[<-Ng (k+1) a c b];simp only[tl,bi,Ng];simp only[bY]
 kernel_rfl)
def Zz(F:Nat):a2 aU:=(Zy F).rt 98 ⟨[.p (.l 9)],[],[lS],[],Bool,λ d=>yu F d.1.1,λ d r=>((r,()),())⟩ λ aH aJ=>by
 obtain⟨(a:List (List UInt8)),_⟩:=aH;conv=>rhs;simp only[yu,bi,Ng]
 kernel_rfl
def JF(k:Nat)(b:List ad.Field)(c:List (List UInt8))(d:Int)(aN:Int)(a:List (List UInt8)):=dx ((b.length:Int)=aN/\([]:List (List UInt8))=a/\True) (rh b k c d)
theorem M8(k:Nat)(a:List ad.Field)(b:List (List UInt8))(c:Int):rh a k b c=JF k a b c (a.length:Int) []:=(dZ ⟨rfl,rfl,trivial⟩).symm
def ZA(F:Nat):a2 aU:=(Zz F).b4 58 2 F ⟨[0,4,5,6,14,15,16,23,24,25],[.p (.B 0),.p (.B 2),.p (.R 3),.p (.R 4),.p (.l 39),lQ,lQ,.p (.R 5),lQ,lQ],[dQ,.m 9 3,gQ,.r 9 false,.r 9 false,.r 121 true],
 [⟨⟨.nm,[0,4,5,6,14,15,16],[.p (.B 0),.p (.B 2),.p (.R 3),.p (.R 4),.p (.l 39),lQ,lQ],[dQ,.m 9 3,gQ,.r 9 false,.r 9 false,.d]⟩,List (List UInt8),λ d r=>(((),(),(),(),d.1.2.2.2.2.1,d.1.2.2.2.2.2.1,d.1.2.2.2.2.2.2.1,()),((d.2.1.1,(),d.2.1.2.2.1,()),d.2.2.1,d.2.2.2.1,r,d.2.2.2.2.2.1,(),()))⟩],
 λ k d=>JF k d.2.2.2.2.2.2.1 d.2.2.2.2.1 d.1.2.2.2.2.2.2.2.2.2.1 d.1.2.2.2.2.2.2.2.2.1 d.2.2.2.2.2.1⟩ (bN.b7 (λ d=>dY) λ k aH aJ q h=>by
 obtain⟨_,_,_,_,(i:List ad.ao),(v1:Int),(j:Int),_,(l:Int),(b:Int),_⟩:=aH
 obtain⟨⟨(m:List ad.ao),_,(n:List Int),_⟩,(o:List ((List UInt8)×Int)),⟨(e5:List UInt8),(p:List UInt8),(f:List ad.Field),(g:List ad.Method),_⟩,(c:List (List UInt8)),(s:List (List UInt8)),(a:List ad.Field),_⟩:=aJ
 obtain⟨e,_⟩:=en h
 dsimp only at e
 obtain⟨rfl,rfl,_⟩:=e
 conv=>rhs;change eV (α:=List (List UInt8)) _ (JF (k+1) a c b (a.length:Int) ([]));rw[<-M8 (k+1) a c b];simp only[rh,bi,M8];simp only[bY]
 kernel_rfl)
def JG(k:Nat)(a:ad.ao)(b:List (List UInt8))(c:Int)(bI:Int):=dx ((a.a3.length:Int)=bI/\True) (n8 a k b c)
theorem M9(k:Nat)(a:ad.ao)(b:List (List UInt8))(c:Int):n8 a k b c=JG k (⟨[],[],[],a.a3⟩:ad.ao) b c (a.a3.length:Int):=(show n8 a k b c=n8 (⟨[],[],[],a.a3⟩:ad.ao) k b c by kernel_rfl).trans (dZ ⟨rfl,trivial⟩).symm
def ZB(F:Nat):a2 aU:=(ZA F).b4 58 4 F ⟨[0,5,6,14,15,16,36,37,38],[.p (.B 0),.p (.R 2),.p (.R 3),.p (.l 39),lQ,lQ,.p (.l 61),lQ,lQ],[dQ,.m 9 3,.r 9 false,.r 9 false],
 [⟨⟨.nm,[0,5,6,14,15,16],[.p (.B 0),.p (.R 2),.p (.R 3),.p (.l 39),lQ,lQ],[dQ,.m 9 3,.r 9 false,.r 9 false]⟩,List (List UInt8),λ d r=>(((),(),(),d.1.2.2.2.1,d.1.2.2.2.2.1,d.1.2.2.2.2.2.1,()),((d.2.1.1,(),d.2.1.2.2.1,()),d.2.2.1,d.2.2.2.1,r,()))⟩],
 λ k d=>JG k (⟨[],[],[],d.1.2.2.2.2.2.2.1⟩:ad.ao) d.2.2.2.2.1 d.1.2.2.2.2.2.2.2.2.1 d.1.2.2.2.2.2.2.2.1⟩ (bN.b7 (λ d=>dY) λ k aH aJ q h=>by
 obtain⟨_,_,_,(f:List ad.ao),(v1:Int),(g:Int),(b:List ad.Method),(i:Int),(c:Int),_⟩:=aH
 obtain⟨⟨(j:List ad.ao),_,(l:List Int),_⟩,(e5:List ((List UInt8)×Int)),(m:List (List UInt8)),(a:List (List UInt8)),_⟩:=aJ
 obtain⟨e,_⟩:=en h
 dsimp only at e
 obtain⟨rfl,_⟩:=e
 conv=>rhs;change eV (α:=List (List UInt8)) _ (JG (k+1) (⟨[],[],[],b⟩:ad.ao) a c (b.length:Int));rw[<-M9 (k+1) (⟨[],[],[],b⟩:ad.ao) a c];simp only[n8,bi,M9];simp only[bY]
 kernel_rfl)
def JE(F:Nat)(k:Nat)(a:ad.a7)(b:Int)(c:Int)(aN:List ad.ao):=dx ((a.l.length:Int)=c/\(a.l:List ad.ao)=aN/\True) (bb (tf F a k b))
theorem M7(F:Nat)(k:Nat)(a:ad.a7)(b:Int):bb (tf F a k b)=JE F k a b (a.l.length:Int) a.l:=(dZ ⟨rfl,rfl,trivial⟩).symm
def ZC(F:Nat):a2 aU:=(ZB F).b4 58 0 F ⟨[0,14,15,16],[.p (.B 0),.p (.l 39),lQ,lQ],[dQ,.m 9 3],
 [⟨⟨.nm,[],[],[dQ,.m 9 3]⟩,Unit,λ d r=>((),((d.2.1.1,(),d.2.1.2.2.1,()),d.2.2.1,()))⟩,
  ⟨⟨.rt,[2],[lQ],[dQ,.m 9 3]⟩,Int,λ d r=>((r,()),((d.2.1.1,(),d.2.1.2.2.1,()),d.2.2.1,()))⟩],
 λ k d=>JE F k (⟨d.1.2.1,d.2.2.1,d.2.1.2.2.1⟩:ad.a7) d.1.2.2.2.1 d.1.2.2.1 d.2.1.1⟩ (bN.b7 (λ d=>dY) λ k aH aJ q h=>by
 obtain⟨_,(a:List ad.ao),(v1:Int),(b:Int),_⟩:=aH
 obtain⟨⟨(g:List ad.ao),_,(c:List Int),_⟩,(e:List ((List UInt8)×Int)),_⟩:=aJ
 obtain⟨f,_⟩:=en h
 dsimp only at f
 obtain⟨rfl,rfl,_⟩:=f
 conv=>rhs;change eV (α:=Unit⊕Int) _ (JE F (k+1) (⟨a,e,c⟩:ad.a7) b (a.length:Int) (a));rw[<-M7 F (k+1) (⟨a,e,c⟩:ad.a7) b];simp only[tf,bi,M8,M9,M7];simp only[bY]
 kernel_rfl)
def ZD(F:Nat):a2 aU:=(ZC F).rt 58 ⟨[.p (.B 0)],[dQ,.m 9 3],[lQ],[dQ,.m 9 3],Int,λ d=>Br F (⟨d.2.1.1,d.2.2.1,d.2.1.2.2.1⟩:ad.a7),λ d r=>((r,()),((d.2.1.1,(),d.2.1.2.2.1,()),d.2.2.1,()))⟩ λ aH aJ=>by
 obtain⟨_,_⟩:=aH;obtain⟨⟨(a:List ad.ao),_,(v1:List Int),_⟩,(b:List ((List UInt8)×Int)),_⟩:=aJ;conv=>rhs;simp only[Br,bi,M7]
 kernel_rfl
def ZE(F:Nat):a2 aU:=(ZD F).b4 99 0 F ⟨[0,1,5],[.p (.B 0),lQ,.p (.R 2)],[dQ,.m 9 3,.r 3 false],
 [⟨⟨.nm,[5],[.p (.R 2)],[dQ,.m 9 3,.r 3 false]⟩,List Int,λ d r=>(((),()),((d.2.1.1,(),d.2.1.2.2.1,()),d.2.2.1,r,()))⟩],
 λ k d=>n6 (⟨d.2.1.1,d.2.2.1,d.2.1.2.2.1⟩:ad.a7) k d.2.2.2.1 d.1.2.1⟩ (bN.b7 (λ d=>rfl) λ k aH aJ q h=>by
 conv=>rhs;simp only[n6,bi];simp only[bY]
 kernel_rfl)
def ZG(F:Nat):a2 aU:=(ZE F).rt 99 ⟨[.p (.B 0),lQ],[dQ,.m 9 3],[lR],[dQ,.m 9 3],List Int,λ d=>n5 F (⟨d.2.1.1,d.2.2.1,d.2.1.2.2.1⟩:ad.a7) d.1.2.1,λ d r=>((r,()),((d.2.1.1,(),d.2.1.2.2.1,()),d.2.2.1,()))⟩ λ aH aJ=>by
 conv=>rhs;simp only[n5,bi]
 kernel_rfl
def JT(k:Nat)(a:List ad.Kind)(b:List ad.Kind)(c:Int)(al:Int):=dx ((a.length:Int)=al/\True) (bb (wP a b k c))
theorem Nl(k:Nat)(a:List ad.Kind)(b:List ad.Kind)(c:Int):bb (wP a b k c)=JT k a b c (a.length:Int):=(dZ ⟨rfl,trivial⟩).symm
def ZH(F:Nat):a2 aU:=(ZG F).b4 122 0 F ⟨[0,1,12,13],[.p (.l 47),.p (.l 47),lQ,lQ],[],
 [⟨⟨.nm,[],[],[]⟩,Unit,λ d r=>((),())⟩,
  ⟨⟨.rt,[4],[lS],[]⟩,Bool,λ d r=>((r,()),())⟩],
 λ k d=>JT k d.1.1 d.1.2.1 d.1.2.2.2.1 d.1.2.2.1⟩ (bN.b7 (λ d=>dY) λ k aH aJ q h=>by
 obtain⟨(a:List ad.Kind),(v1:List ad.Kind),(e:Int),(b:Int),_⟩:=aH
 obtain⟨c,_⟩:=en h
 dsimp only at c
 obtain⟨rfl,_⟩:=c
 conv=>rhs;change eV (α:=Unit⊕Bool) _ (JT (k+1) a v1 b (a.length:Int));rw[<-Nl (k+1) a v1 b];simp only[wP,bi,Nl];simp only[bY]
 kernel_rfl)
def ZI(F:Nat):a2 aU:=(ZH F).rt 122 ⟨[.p (.l 47),.p (.l 47)],[],[lS],[],Bool,λ d=>Ck F d.1.1 d.1.2.1,λ d r=>((r,()),())⟩ λ aH aJ=>by
 obtain⟨(a:List ad.Kind),(v1:List ad.Kind),_⟩:=aH;conv=>rhs;simp only[Ck,bi,Nl]
 kernel_rfl
def ZJ(F:Nat):a2 aU:=(ZI F).rt 100 ⟨[FO,FO],[],[lS],[],Bool,λ d=>E5 F (pO d.1.1) (pO d.1.2.1),λ d r=>((r,()),())⟩ λ aH aJ=>by
 obtain⟨⟨(c:List UInt8),(v1:Bool),(e:List ad.Kind),(f:Int),(g:List UInt8),(h:Int),(i:Int),(j:List UInt8),(e5:List ad.Handler),_⟩,⟨(k:List UInt8),(a:Bool),(b:List ad.Kind),(l:Int),(m:List UInt8),(n:Int),(o:Int),(p:List UInt8),(q:List ad.Handler),_⟩,_⟩:=aH;conv=>rhs;simp only[E5,bi,ajN]
 kernel_rfl
def JC(F:Nat)(k:Nat)(b:ad.Method)(a:ad.ao)(c:Int)(xQ:Int):=dx ((a.a3.length:Int)=xQ/\True) (bb (n7 F b a k c))
theorem M5(F:Nat)(k:Nat)(b:ad.Method)(a:ad.ao)(c:Int):bb (n7 F b a k c)=JC F k b (⟨[],[],[],a.a3⟩:ad.ao) c (a.a3.length:Int):=(show bb (n7 F b a k c)=bb (n7 F b (⟨[],[],[],a.a3⟩:ad.ao) k c) by kernel_rfl).trans (dZ ⟨rfl,trivial⟩).symm
def ZK(F:Nat):a2 aU:=(ZJ F).b4 59 6 F ⟨[0,4,6,8,14,15,16,24,25,26,31,32,33,44,45,46],[.p (.B 0),.p (.B 2),lQ,.p (.B 3),.p (.l 39),lQ,lQ,lR,lQ,lQ,.p (.l 61),lQ,lQ,.p (.l 61),lQ,lQ],[dQ,.m 9 3,gQ,jS],
 [⟨⟨.nm,[0,4,6,14,15,16,24,25,26,31,32,33],[.p (.B 0),.p (.B 2),lQ,.p (.l 39),lQ,lQ,lR,lQ,lQ,.p (.l 61),lQ,lQ],[dQ,.m 9 3,gQ,jS]⟩,Unit,λ d r=>(((),(),d.1.2.2.1,d.1.2.2.2.2.1,d.1.2.2.2.2.2.1,d.1.2.2.2.2.2.2.1,d.1.2.2.2.2.2.2.2.1,d.1.2.2.2.2.2.2.2.2.1,d.1.2.2.2.2.2.2.2.2.2.1,d.1.2.2.2.2.2.2.2.2.2.2.1,d.1.2.2.2.2.2.2.2.2.2.2.2.1,d.1.2.2.2.2.2.2.2.2.2.2.2.2.1,()),((d.2.1.1,(),d.2.1.2.2.1,()),d.2.2.1,d.2.2.2.1,d.2.2.2.2.1,()))⟩,
  ⟨⟨.rt,[2],[lQ],[dQ,.m 9 3,.d,.d]⟩,Int,λ d r=>((r,()),((d.2.1.1,(),d.2.1.2.2.1,()),d.2.2.1,(),(),()))⟩],
 λ k d=>JC F k (pO d.2.2.2.2.1) (⟨[],[],[],d.1.2.2.2.2.2.2.2.2.2.2.2.2.2.1⟩:ad.ao) d.1.2.2.2.2.2.2.2.2.2.2.2.2.2.2.2.1 d.1.2.2.2.2.2.2.2.2.2.2.2.2.2.2.1⟩ (bN.b7 (λ d=>dY) λ k aH aJ q h=>by
 obtain⟨_,_,(s:Int),_,(v1:List ad.ao),(t:Int),(u:Int),(v:List Int),(w:Int),(x:Int),(y:List ad.Method),(e5:Int),(z:Int),(a:List ad.Method),(p:Int),(c:Int),_⟩:=aH
 obtain⟨⟨(A:List ad.ao),_,(B:List Int),_⟩,(C:List ((List UInt8)×Int)),⟨(D:List UInt8),(E:List UInt8),(G:List ad.Field),(H:List ad.Method),_⟩,⟨(b:List UInt8),(e:Bool),(f:List ad.Kind),(g:Int),(i:List UInt8),(j:Int),(l:Int),(m:List UInt8),(n:List ad.Handler),_⟩,_⟩:=aJ
 obtain⟨o,_⟩:=en h
 dsimp only at o
 obtain⟨rfl,_⟩:=o
 conv=>rhs;change eV (α:=Unit⊕Int) _ (JC F (k+1) (⟨b,e,f,(⟨g,i⟩:ad.Kind),j,l,m,n⟩:ad.Method) (⟨[],[],[],a⟩:ad.ao) c (a.length:Int));rw[<-M5 F (k+1) (⟨b,e,f,(⟨g,i⟩:ad.Kind),j,l,m,n⟩:ad.Method) (⟨[],[],[],a⟩:ad.ao) c];simp only[n7,bi,M5];simp only[bY]
 kernel_rfl)
def JB(F:Nat)(k:Nat)(a:ad.a7)(b:ad.ao)(e:Int)(f:Int)(al:Int)(c:Int)(xP:List ad.ao)(d:List ad.Method):=dx ((a.l.length:Int)=al/\(b.a3.length:Int)=c/\(a.l:List ad.ao)=xP/\(b.a3:List ad.Method)=d/\True) (bb (td F a b e k f))
theorem M4(F:Nat)(k:Nat)(a:ad.a7)(b:ad.ao)(c:Int)(d:Int):bb (td F a b c k d)=JB F k a b c d (a.l.length:Int) (b.a3.length:Int) a.l b.a3:=(dZ ⟨rfl,rfl,rfl,rfl,trivial⟩).symm
def ZL(F:Nat):a2 aU:=(ZK F).b4 59 4 F ⟨[0,4,6,14,15,16,24,25,26,31,32,33],[.p (.B 0),.p (.B 2),lQ,.p (.l 39),lQ,lQ,lR,lQ,lQ,.p (.l 61),lQ,lQ],[dQ,.m 9 3,gQ],
 [⟨⟨.nm,[0,4,14,15,16,24,25,26],[.p (.B 0),.p (.B 2),.p (.l 39),lQ,lQ,lR,lQ,lQ],[dQ,.m 9 3,gQ]⟩,Unit,λ d r=>(((),(),d.1.2.2.2.1,d.1.2.2.2.2.1,d.1.2.2.2.2.2.1,d.1.2.2.2.2.2.2.1,d.1.2.2.2.2.2.2.2.1,d.1.2.2.2.2.2.2.2.2.1,()),((d.2.1.1,(),d.2.1.2.2.1,()),d.2.2.1,d.2.2.2.1,()))⟩,
  ⟨⟨.rt,[2],[lQ],[dQ,.m 9 3,.d]⟩,Int,λ d r=>((r,()),((d.2.1.1,(),d.2.1.2.2.1,()),d.2.2.1,(),()))⟩],
 λ k d=>JB F k (⟨d.1.2.2.2.1,d.2.2.1,d.2.1.2.2.1⟩:ad.a7) (⟨d.2.2.2.1.1,d.2.2.2.1.2.1,d.2.2.2.1.2.2.1,d.1.2.2.2.2.2.2.2.2.2.1⟩:ad.ao) d.1.2.2.1 d.1.2.2.2.2.2.2.2.2.2.2.2.1 d.1.2.2.2.2.1 d.1.2.2.2.2.2.2.2.2.2.2.1 d.2.1.1 d.2.2.2.1.2.2.2.1⟩ (bN.b7 (λ d=>dY) λ k aH aJ q h=>by
 obtain⟨_,_,(c:Int),(v1:List ad.ao),(n:Int),(o:Int),(p:List Int),(s:Int),(t:Int),(b:List ad.Method),(e5:Int),(e:Int),_⟩:=aH
 obtain⟨⟨(m:List ad.ao),_,(a:List Int),_⟩,(f:List ((List UInt8)×Int)),⟨(g:List UInt8),(i:List UInt8),(j:List ad.Field),(u:List ad.Method),_⟩,_⟩:=aJ
 obtain⟨l,_⟩:=en h
 dsimp only at l
 obtain⟨rfl,rfl,rfl,rfl,_⟩:=l
 conv=>rhs;change eV (α:=Unit⊕Int) _ (JB F (k+1) (⟨v1,f,a⟩:ad.a7) (⟨g,i,j,b⟩:ad.ao) c e (v1.length:Int) (b.length:Int) (v1) (b));rw[<-M4 F (k+1) (⟨v1,f,a⟩:ad.a7) (⟨g,i,j,b⟩:ad.ao) c e];simp only[td,bi,M5,M4];simp only[bY]
 kernel_rfl)
def JA(F:Nat)(k:Nat)(a:ad.a7)(c:ad.ao)(b:List Int)(d:Int)(e:Int)(bI:Int)(eD:List ad.ao):=dx ((a.l.length:Int)=e/\(b.length:Int)=bI/\(a.l:List ad.ao)=eD/\True) (bb (tc F a c b k d))
theorem M3(F:Nat)(k:Nat)(a:ad.a7)(c:ad.ao)(b:List Int)(d:Int):bb (tc F a c b k d)=JA F k a c b d (a.l.length:Int) (b.length:Int) a.l:=(dZ ⟨rfl,rfl,rfl,trivial⟩).symm
def ZM(F:Nat):a2 aU:=(ZL F).b4 59 2 F ⟨[0,4,14,15,16,24,25,26],[.p (.B 0),.p (.B 2),.p (.l 39),lQ,lQ,lR,lQ,lQ],[dQ,.m 9 3,gQ],
 [⟨⟨.nm,[0,14,15,16],[.p (.B 0),.p (.l 39),lQ,lQ],[dQ,.m 9 3,gQ]⟩,Unit,λ d r=>(((),d.1.2.2.1,d.1.2.2.2.1,d.1.2.2.2.2.1,()),((d.2.1.1,(),d.2.1.2.2.1,()),d.2.2.1,d.2.2.2.1,()))⟩,
  ⟨⟨.rt,[2],[lQ],[dQ,.m 9 3,.d]⟩,Int,λ d r=>((r,()),((d.2.1.1,(),d.2.1.2.2.1,()),d.2.2.1,(),()))⟩],
 λ k d=>JA F k (⟨d.1.2.2.1,d.2.2.1,d.2.1.2.2.1⟩:ad.a7) (wR d.2.2.2.1) d.1.2.2.2.2.2.1 d.1.2.2.2.2.2.2.2.1 d.1.2.2.2.1 d.1.2.2.2.2.2.2.1 d.2.1.1⟩ (bN.b7 (λ d=>dY) λ k aH aJ q h=>by
 obtain⟨_,_,(c:List ad.ao),(v1:Int),(m:Int),(e:List Int),(n:Int),(f:Int),_⟩:=aH
 obtain⟨⟨(o:List ad.ao),_,(g:List Int),_⟩,(e5:List ((List UInt8)×Int)),⟨(i:List UInt8),(a:List UInt8),(b:List ad.Field),(j:List ad.Method),_⟩,_⟩:=aJ
 obtain⟨l,_⟩:=en h
 dsimp only at l
 obtain⟨rfl,rfl,rfl,_⟩:=l
 conv=>rhs;change eV (α:=Unit⊕Int) _ (JA F (k+1) (⟨c,e5,g⟩:ad.a7) (⟨i,a,b,j⟩:ad.ao) e f (c.length:Int) (e.length:Int) (c));rw[<-M3 F (k+1) (⟨c,e5,g⟩:ad.a7) (⟨i,a,b,j⟩:ad.ao) e f];simp only[tc,bi,M4,M3];simp only[bY]
 kernel_rfl)
def Jz(F:Nat)(k:Nat)(a:ad.a7)(b:Int)(c:Int)(aN:List ad.ao):=dx ((a.l.length:Int)=c/\(a.l:List ad.ao)=aN/\True) (bb (ta F a k b))
theorem M2(F:Nat)(k:Nat)(a:ad.a7)(b:Int):bb (ta F a k b)=Jz F k a b (a.l.length:Int) a.l:=(dZ ⟨rfl,rfl,trivial⟩).symm
def ZN(F:Nat):a2 aU:=(ZM F).b4 59 0 F ⟨[0,14,15,16],[.p (.B 0),.p (.l 39),lQ,lQ],[dQ,.m 9 3],
 [⟨⟨.nm,[],[],[dQ,.m 9 3]⟩,Unit,λ d r=>((),((d.2.1.1,(),d.2.1.2.2.1,()),d.2.2.1,()))⟩,
  ⟨⟨.rt,[2],[lQ],[dQ,.m 9 3]⟩,Int,λ d r=>((r,()),((d.2.1.1,(),d.2.1.2.2.1,()),d.2.2.1,()))⟩],
 λ k d=>Jz F k (⟨d.1.2.1,d.2.2.1,d.2.1.2.2.1⟩:ad.a7) d.1.2.2.2.1 d.1.2.2.1 d.2.1.1⟩ (bN.b7 (λ d=>dY) λ k aH aJ q h=>by
 obtain⟨_,(a:List ad.ao),(v1:Int),(b:Int),_⟩:=aH
 obtain⟨⟨(g:List ad.ao),_,(c:List Int),_⟩,(e:List ((List UInt8)×Int)),_⟩:=aJ
 obtain⟨f,_⟩:=en h
 dsimp only at f
 obtain⟨rfl,rfl,_⟩:=f
 conv=>rhs;change eV (α:=Unit⊕Int) _ (Jz F (k+1) (⟨a,e,c⟩:ad.a7) b (a.length:Int) (a));rw[<-M2 F (k+1) (⟨a,e,c⟩:ad.a7) b];simp only[ta,bi,M3,M2];simp only[bY]
 kernel_rfl)
def ZO(F:Nat):a2 aU:=(ZN F).rt 59 ⟨[.p (.B 0)],[dQ,.m 9 3],[lQ],[dQ,.m 9 3],Int,λ d=>Bq F (⟨d.2.1.1,d.2.2.1,d.2.1.2.2.1⟩:ad.a7),λ d r=>((r,()),((d.2.1.1,(),d.2.1.2.2.1,()),d.2.2.1,()))⟩ λ aH aJ=>by
 obtain⟨_,_⟩:=aH;obtain⟨⟨(a:List ad.ao),_,(v1:List Int),_⟩,(b:List ((List UInt8)×Int)),_⟩:=aJ;conv=>rhs;simp only[Bq,bi,M2]
 kernel_rfl
def Ju(F:Nat)(k:Nat)(a:List ad.ao)(c:Int×ad.a7)(b:Int×ad.a7)(d:List (List ad.Target))(e:List (List (List UInt8)))(f:List (List ad.Field))(g:Int)(h:Int)(al:List ad.ao)(aN:List Int)(bI:List (List ad.Field))(b':List (List (List UInt8)))(eD:List (List ad.Target))(xP:List ad.ao)(xQ:List Int):=dx ((a.length:Int)=h/\([]:List ad.ao)=al/\([]:List Int)=aN/\([]:List (List ad.Field))=bI/\([]:List (List (List UInt8)))=b'/\([]:List (List ad.Target))=eD/\(a:List ad.ao)=xP/\(b.2.cV:List Int)=xQ/\True) (bb (k_ F a c b k d e f g))
theorem MX(F:Nat)(k:Nat)(a:List ad.ao)(c:Int×ad.a7)(b:Int×ad.a7)(d:List (List ad.Target))(e:List (List (List UInt8)))(f:List (List ad.Field))(g:Int):bb (k_ F a c b k d e f g)=Ju F k a (0,(⟨[],c.2.bF,[]⟩:ad.a7)) (0,(⟨[],[],b.2.cV⟩:ad.a7)) d e f g (a.length:Int) [] [] [] [] [] a b.2.cV:=(show bb (k_ F a c b k d e f g)=bb (k_ F a (0,(⟨[],c.2.bF,[]⟩:ad.a7)) (0,(⟨[],[],b.2.cV⟩:ad.a7)) k d e f g) by kernel_rfl).trans (dZ ⟨rfl,rfl,rfl,rfl,rfl,rfl,rfl,rfl,trivial⟩).symm
def ZP(F:Nat):a2 aU:=(ZO F).b4 29 2 F ⟨[2,5,9,62,63],[.p (.B 0),.p (.B 1),.p (.B 3),lQ,lQ],[fp,Vi,.m 9 3,Vj,.r 36 false,.r 95 false,.r 96 false],
 [⟨⟨.nm,[2,9],[.p (.B 0),.p (.B 3)],[fp,Vi,.m 9 3,Vj,.r 36 false,.r 95 false,.r 96 false]⟩,(List (List ad.Target))×(List (List (List UInt8)))×(List (List ad.Field)),λ d r=>(((),(),()),(d.2.1,(d.2.2.1.1,(),d.2.2.1.2.2.1,()),d.2.2.2.1,(d.2.2.2.2.1.1,d.2.2.2.2.1.2.1,(),(),(),()),r.2.2,r.2.1,r.1,()))⟩,
  ⟨⟨.rt,[2,3],[.p (.B 0),lQ],[fp,.d,.d,.d,.d,.d,.d]⟩,ad.bE×Int,λ d r=>(((),r.2,()),((r.1.dF,r.1.cu,r.1.Fields,r.1.Names,r.1.cy,()),(),(),(),(),(),(),()))⟩],
 λ k d=>Ju F k d.2.2.1.1 (0,(⟨[],d.2.2.2.1,[]⟩:ad.a7)) (0,(⟨[],[],d.2.2.1.2.2.1⟩:ad.a7)) d.2.2.2.2.2.2.2.1 d.2.2.2.2.2.2.1 d.2.2.2.2.2.1 d.1.2.2.2.2.1 d.1.2.2.2.1 d.2.1.1 d.2.1.2.1 d.2.1.2.2.1 d.2.1.2.2.2.1 d.2.1.2.2.2.2.1 d.2.2.2.2.1.1 d.2.2.2.2.1.2.1⟩ (bN.b7 (λ d=>dY) λ k aH aJ q h=>by
 obtain⟨_,_,_,(l:Int),(v1:Int),_⟩:=aH
 obtain⟨⟨(m:List ad.ao),(n:List Int),(o:List (List ad.Field)),(p:List (List (List UInt8))),(s:List (List ad.Target)),_⟩,⟨(a:List ad.ao),_,(e5:List Int),_⟩,(b:List ((List UInt8)×Int)),⟨(i:List ad.ao),(j:List Int),_,_,_,_⟩,(c:List (List ad.Field)),(e:List (List (List UInt8))),(f:List (List ad.Target)),_⟩:=aJ
 obtain⟨g,_⟩:=en h
 dsimp only at g
 obtain⟨rfl,rfl,rfl,rfl,rfl,rfl,rfl,rfl,_⟩:=g
 conv=>rhs;change eV (α:=((List (List ad.Target))×(List (List (List UInt8)))×(List (List ad.Field)))⊕(ad.bE×Int)) _ (Ju F (k+1) a (0,(⟨[],b,[]⟩:ad.a7)) (0,(⟨[],[],e5⟩:ad.a7)) f e c v1 (a.length:Int) ([]) ([]) ([]) ([]) ([]) (a) ((0,(⟨[],[],e5⟩:ad.a7)).2.cV));rw[<-MX F (k+1) a (0,(⟨[],b,[]⟩:ad.a7)) (0,(⟨[],[],e5⟩:ad.a7)) f e c v1];simp only[k_,bi,MX];simp only[bY]
 kernel_rfl)
def ZR(F:Nat):a2 aU:=(ZP F).rt 29 ⟨[.p (.l 39)],[],[tO,lQ],[],ad.bE×Int,λ d=>wl F d.1.1,λ d r=>(((r.1.dF,r.1.cu,r.1.Fields,r.1.Names,r.1.cy,()),r.2,()),())⟩ λ aH aJ=>by
 obtain⟨(a:List ad.ao),_⟩:=aH;conv=>rhs;simp only[wl,bi,MX]
 kernel_rfl
def JV(k:Nat)(a:List Int)(b:List Int)(c:Int)(al:Int):=dx ((a.length:Int)=al/\True) (bb (ub a b k c))
theorem Nn(k:Nat)(a:List Int)(b:List Int)(c:Int):bb (ub a b k c)=JV k a b c (a.length:Int):=(dZ ⟨rfl,trivial⟩).symm
def ZS(F:Nat):a2 aU:=(ZR F).b4 68 0 F ⟨[0,1,12,13],[lR,lR,lQ,lQ],[],
 [⟨⟨.nm,[],[],[]⟩,Unit,λ d r=>((),())⟩,
  ⟨⟨.rt,[4],[lS],[]⟩,Bool,λ d r=>((r,()),())⟩],
 λ k d=>JV k d.1.1 d.1.2.1 d.1.2.2.2.1 d.1.2.2.1⟩ (bN.b7 (λ d=>dY) λ k aH aJ q h=>by
 obtain⟨(a:List Int),(v1:List Int),(e:Int),(b:Int),_⟩:=aH
 obtain⟨c,_⟩:=en h
 dsimp only at c
 obtain⟨rfl,_⟩:=c
 conv=>rhs;change eV (α:=Unit⊕Bool) _ (JV (k+1) a v1 b (a.length:Int));rw[<-Nn (k+1) a v1 b];simp only[ub,bi,Nn];simp only[bY]
 kernel_rfl)
def ZT(F:Nat):a2 aU:=(ZS F).rt 68 ⟨[lR,lR],[],[lS],[],Bool,λ d=>Cm F d.1.1 d.1.2.1,λ d r=>((r,()),())⟩ λ aH aJ=>by
 obtain⟨(a:List Int),(v1:List Int),_⟩:=aH;conv=>rhs;simp only[Cm,bi,Nn]
 kernel_rfl
def JS(k:Nat)(a:List ad.Field)(b:List ad.Field)(c:Int)(al:Int):=dx ((a.length:Int)=al/\True) (bb (t_ a b k c))
theorem Nk(k:Nat)(a:List ad.Field)(b:List ad.Field)(c:Int):bb (t_ a b k c)=JS k a b c (a.length:Int):=(dZ ⟨rfl,trivial⟩).symm
def ZU(F:Nat):a2 aU:=(ZT F).b4 70 0 F ⟨[0,1,12,13],[.p (.l 121),.p (.l 121),lQ,lQ],[],
 [⟨⟨.nm,[],[],[]⟩,Unit,λ d r=>((),())⟩,
  ⟨⟨.rt,[4],[lS],[]⟩,Bool,λ d r=>((r,()),())⟩],
 λ k d=>JS k d.1.1 d.1.2.1 d.1.2.2.2.1 d.1.2.2.1⟩ (bN.b7 (λ d=>dY) λ k aH aJ q h=>by
 obtain⟨(a:List ad.Field),(v1:List ad.Field),(e:Int),(b:Int),_⟩:=aH
 obtain⟨c,_⟩:=en h
 dsimp only at c
 obtain⟨rfl,_⟩:=c
 conv=>rhs;change eV (α:=Unit⊕Bool) _ (JS (k+1) a v1 b (a.length:Int));rw[<-Nk (k+1) a v1 b];simp only[t_,bi,Nk];simp only[bY]
 kernel_rfl)
def ZV(F:Nat):a2 aU:=(ZU F).rt 70 ⟨[.p (.l 121),.p (.l 121)],[],[lS],[],Bool,λ d=>Cj F d.1.1 d.1.2.1,λ d r=>((r,()),())⟩ λ aH aJ=>by
 obtain⟨(a:List ad.Field),(v1:List ad.Field),_⟩:=aH;conv=>rhs;simp only[Cj,bi,Nk]
 kernel_rfl
def JP(F:Nat)(k:Nat)(a:List (List ad.Field))(b:List (List ad.Field))(c:Int)(al:Int):=dx ((a.length:Int)=al/\True) (bb (tX F a b k c))
theorem Nh(F:Nat)(k:Nat)(a:List (List ad.Field))(b:List (List ad.Field))(c:Int):bb (tX F a b k c)=JP F k a b c (a.length:Int):=(dZ ⟨rfl,trivial⟩).symm
def ZW(F:Nat):a2 aU:=(ZV F).b4 69 0 F ⟨[1,2,15,16,17],[.p (.l 36),.f 70 [],.p (.l 36),lQ,lQ],[],
 [⟨⟨.nm,[],[],[]⟩,Unit,λ d r=>((),())⟩,
  ⟨⟨.rt,[6],[lS],[]⟩,Bool,λ d r=>((r,()),())⟩],
 λ k d=>JP F k d.1.2.2.1 d.1.1 d.1.2.2.2.2.1 d.1.2.2.2.1⟩ (bN.b7 (λ d=>dY) λ k aH aJ q h=>by
 obtain⟨(a:List (List ad.Field)),_,(v1:List (List ad.Field)),(e:Int),(b:Int),_⟩:=aH
 obtain⟨c,_⟩:=en h
 dsimp only at c
 obtain⟨rfl,_⟩:=c
 conv=>rhs;change eV (α:=Unit⊕Bool) _ (JP F (k+1) v1 a b (v1.length:Int));rw[<-Nh F (k+1) v1 a b];simp only[tX,bi,Nh];simp only[bY]
 kernel_rfl)
def ZX(F:Nat):a2 aU:=(ZW F).rt 69 ⟨[.p (.l 36),.p (.l 36),.f 70 []],[],[lS],[],Bool,λ d=>Cg F d.1.1 d.1.2.1,λ d r=>((r,()),())⟩ λ aH aJ=>by
 obtain⟨(a:List (List ad.Field)),(v1:List (List ad.Field)),_,_⟩:=aH;conv=>rhs;simp only[Cg,bi,Nh]
 kernel_rfl
def JW(k:Nat)(a:List (List UInt8))(b:List (List UInt8))(c:Int)(al:Int):=dx ((a.length:Int)=al/\True) (bb (uc a b k c))
theorem Np(k:Nat)(a:List (List UInt8))(b:List (List UInt8))(c:Int):bb (uc a b k c)=JW k a b c (a.length:Int):=(dZ ⟨rfl,trivial⟩).symm
def ZY(F:Nat):a2 aU:=(ZX F).b4 72 0 F ⟨[0,1,12,13],[.p (.l 9),.p (.l 9),lQ,lQ],[],
 [⟨⟨.nm,[],[],[]⟩,Unit,λ d r=>((),())⟩,
  ⟨⟨.rt,[4],[lS],[]⟩,Bool,λ d r=>((r,()),())⟩],
 λ k d=>JW k d.1.1 d.1.2.1 d.1.2.2.2.1 d.1.2.2.1⟩ (bN.b7 (λ d=>dY) λ k aH aJ q h=>by
 obtain⟨(a:List (List UInt8)),(v1:List (List UInt8)),(e:Int),(b:Int),_⟩:=aH
 obtain⟨c,_⟩:=en h
 dsimp only at c
 obtain⟨rfl,_⟩:=c
 conv=>rhs;change eV (α:=Unit⊕Bool) _ (JW (k+1) a v1 b (a.length:Int));rw[<-Np (k+1) a v1 b];simp only[uc,bi,Np];simp only[bY]
 kernel_rfl)
def ZZ(F:Nat):a2 aU:=(ZY F).rt 72 ⟨[.p (.l 9),.p (.l 9)],[],[lS],[],Bool,λ d=>Cn F d.1.1 d.1.2.1,λ d r=>((r,()),())⟩ λ aH aJ=>by
 obtain⟨(a:List (List UInt8)),(v1:List (List UInt8)),_⟩:=aH;conv=>rhs;simp only[Cn,bi,Np]
 kernel_rfl
def JR(F:Nat)(k:Nat)(a:List (List (List UInt8)))(b:List (List (List UInt8)))(c:Int)(al:Int):=dx ((a.length:Int)=al/\True) (bb (tZ F a b k c))
theorem Nj(F:Nat)(k:Nat)(a:List (List (List UInt8)))(b:List (List (List UInt8)))(c:Int):bb (tZ F a b k c)=JR F k a b c (a.length:Int):=(dZ ⟨rfl,trivial⟩).symm
def Z0(F:Nat):a2 aU:=(ZZ F).b4 71 0 F ⟨[1,2,15,16,17],[.p (.l 95),.f 72 [],.p (.l 95),lQ,lQ],[],
 [⟨⟨.nm,[],[],[]⟩,Unit,λ d r=>((),())⟩,
  ⟨⟨.rt,[6],[lS],[]⟩,Bool,λ d r=>((r,()),())⟩],
 λ k d=>JR F k d.1.2.2.1 d.1.1 d.1.2.2.2.2.1 d.1.2.2.2.1⟩ (bN.b7 (λ d=>dY) λ k aH aJ q h=>by
 obtain⟨(a:List (List (List UInt8))),_,(v1:List (List (List UInt8))),(e:Int),(b:Int),_⟩:=aH
 obtain⟨c,_⟩:=en h
 dsimp only at c
 obtain⟨rfl,_⟩:=c
 conv=>rhs;change eV (α:=Unit⊕Bool) _ (JR F (k+1) v1 a b (v1.length:Int));rw[<-Nj F (k+1) v1 a b];simp only[tZ,bi,Nj];simp only[bY]
 kernel_rfl)
def Z2(F:Nat):a2 aU:=(Z0 F).rt 71 ⟨[.p (.l 95),.p (.l 95),.f 72 []],[],[lS],[],Bool,λ d=>Ci F d.1.1 d.1.2.1,λ d r=>((r,()),())⟩ λ aH aJ=>by
 obtain⟨(a:List (List (List UInt8))),(v1:List (List (List UInt8))),_,_⟩:=aH;conv=>rhs;simp only[Ci,bi,Nj]
 kernel_rfl
def JU(k:Nat)(a:List ad.Target)(b:List ad.Target)(c:Int)(al:Int):=dx ((a.length:Int)=al/\True) (bb (ua a b k c))
theorem Nm(k:Nat)(a:List ad.Target)(b:List ad.Target)(c:Int):bb (ua a b k c)=JU k a b c (a.length:Int):=(dZ ⟨rfl,trivial⟩).symm
def Z3(F:Nat):a2 aU:=(Z2 F).b4 74 0 F ⟨[0,1,12,13],[.p (.l 102),.p (.l 102),lQ,lQ],[],
 [⟨⟨.nm,[],[],[]⟩,Unit,λ d r=>((),())⟩,
  ⟨⟨.rt,[4],[lS],[]⟩,Bool,λ d r=>((r,()),())⟩],
 λ k d=>JU k d.1.1 d.1.2.1 d.1.2.2.2.1 d.1.2.2.1⟩ (bN.b7 (λ d=>dY) λ k aH aJ q h=>by
 obtain⟨(a:List ad.Target),(v1:List ad.Target),(e:Int),(b:Int),_⟩:=aH
 obtain⟨c,_⟩:=en h
 dsimp only at c
 obtain⟨rfl,_⟩:=c
 conv=>rhs;change eV (α:=Unit⊕Bool) _ (JU (k+1) a v1 b (a.length:Int));rw[<-Nm (k+1) a v1 b];simp only[ua,bi,Nm];simp only[bY]
 kernel_rfl)
def Z4(F:Nat):a2 aU:=(Z3 F).rt 74 ⟨[.p (.l 102),.p (.l 102)],[],[lS],[],Bool,λ d=>Cl F d.1.1 d.1.2.1,λ d r=>((r,()),())⟩ λ aH aJ=>by
 obtain⟨(a:List ad.Target),(v1:List ad.Target),_⟩:=aH;conv=>rhs;simp only[Cl,bi,Nm]
 kernel_rfl
def JQ(F:Nat)(k:Nat)(a:List (List ad.Target))(b:List (List ad.Target))(c:Int)(al:Int):=dx ((a.length:Int)=al/\True) (bb (tY F a b k c))
theorem Ni(F:Nat)(k:Nat)(a:List (List ad.Target))(b:List (List ad.Target))(c:Int):bb (tY F a b k c)=JQ F k a b c (a.length:Int):=(dZ ⟨rfl,trivial⟩).symm
def Z5(F:Nat):a2 aU:=(Z4 F).b4 73 0 F ⟨[1,2,15,16,17],[.p (.l 96),.f 74 [],.p (.l 96),lQ,lQ],[],
 [⟨⟨.nm,[],[],[]⟩,Unit,λ d r=>((),())⟩,
  ⟨⟨.rt,[6],[lS],[]⟩,Bool,λ d r=>((r,()),())⟩],
 λ k d=>JQ F k d.1.2.2.1 d.1.1 d.1.2.2.2.2.1 d.1.2.2.2.1⟩ (bN.b7 (λ d=>dY) λ k aH aJ q h=>by
 obtain⟨(a:List (List ad.Target)),_,(v1:List (List ad.Target)),(e:Int),(b:Int),_⟩:=aH
 obtain⟨c,_⟩:=en h
 dsimp only at c
 obtain⟨rfl,_⟩:=c
 conv=>rhs;change eV (α:=Unit⊕Bool) _ (JQ F (k+1) v1 a b (v1.length:Int));rw[<-Ni F (k+1) v1 a b];simp only[tY,bi,Ni];simp only[bY]
 kernel_rfl)
def Z6(F:Nat):a2 aU:=(Z5 F).rt 73 ⟨[.p (.l 96),.p (.l 96),.f 74 []],[],[lS],[],Bool,λ d=>Ch F d.1.1 d.1.2.1,λ d r=>((r,()),())⟩ λ aH aJ=>by
 obtain⟨(a:List (List ad.Target)),(v1:List (List ad.Target)),_,_⟩:=aH;conv=>rhs;simp only[Ch,bi,Ni]
 kernel_rfl
def Z7(F:Nat):a2 aU:=(Z6 F).rt 37 ⟨[tO,tO],[],[lS],[],Bool,λ d=>yt F (gu d.1.1) (gu d.1.2.1),λ d r=>((r,()),())⟩ λ aH aJ=>by
 conv=>rhs;simp only[yt,bi]
 kernel_rfl
def Z8(F:Nat):a2 aU:=(Z7 F).rt 18 ⟨[tO],[],[lQ],[],Int,λ d=>wj F (gu d.1.1),λ d r=>((r,()),())⟩ λ aH aJ=>by
 conv=>rhs;simp only[wj,bi]
 kernel_rfl
def Z9(F:Nat):a2 aU:=(Z8 F).rt 30 ⟨[],[],[.p (.l 39)],[],List ad.ao,λ d=>PB,λ d r=>((r,()),())⟩ λ aH aJ=>by
 conv=>rhs;simp only[PB,bi]
 kernel_rfl
def Z_(F:Nat):a2 aU:=(Z9 F).b4 45 0 F ⟨[0,1,5],[.p (.l 121),.p (.l 121),lQ],[],
 [⟨⟨.nm,[],[],[]⟩,Unit,λ d r=>((),())⟩,
  ⟨⟨.rt,[4],[lS],[]⟩,Bool,λ d r=>((r,()),())⟩],
 λ k d=>bb (u2 d.1.1 d.1.2.1 k d.1.2.2.1)⟩ (bN.b7 (λ d=>rfl) λ k aH aJ q h=>by
 conv=>rhs;simp only[u2,bi];simp only[bY]
 kernel_rfl)
def Z'(F:Nat):a2 aU:=(Z_ F).rt 45 ⟨[.p (.l 121),.p (.l 121)],[],[lS],[],Bool,λ d=>xu F d.1.1 d.1.2.1,λ d r=>((r,()),())⟩ λ aH aJ=>by
 conv=>rhs;simp only[xu,bi]
 kernel_rfl
def aac(F:Nat):a2 aU:=(Z' F).b4 31 0 F ⟨[0,1,5],[.p (.l 47),.p (.l 47),lQ],[],
 [⟨⟨.nm,[],[],[]⟩,Unit,λ d r=>((),())⟩,
  ⟨⟨.rt,[4],[lS],[]⟩,Bool,λ d r=>((r,()),())⟩],
 λ k d=>bb (mx d.1.1 d.1.2.1 k d.1.2.2.1)⟩ (bN.b7 (λ d=>rfl) λ k aH aJ q h=>by
 conv=>rhs;simp only[mx,bi];simp only[bY]
 kernel_rfl)
def aad(F:Nat):a2 aU:=(aac F).rt 31 ⟨[.p (.l 47),.p (.l 47)],[],[lS],[],Bool,λ d=>p8 F d.1.1 d.1.2.1,λ d r=>((r,()),())⟩ λ aH aJ=>by
 conv=>rhs;simp only[p8,bi]
 kernel_rfl
def aae(F:Nat):a2 aU:=(aad F).b4 44 4 F ⟨[0,1,5,6,7,8,9,10,11],[.p (.l 39),.p (.l 39),lQ,.p (.B 0),.p (.B 1),lQ,.p (.B 2),.p (.B 3),lQ],[gQ,gQ,jS,jS],
 [⟨⟨.nm,[0,1,5,6,7,8],[.p (.l 39),.p (.l 39),lQ,.p (.B 0),.p (.B 1),lQ],[gQ,gQ,jS,jS]⟩,Unit,λ d r=>((d.1.1,d.1.2.1,d.1.2.2.1,(),(),d.1.2.2.2.2.2.1,()),(d.2.1,d.2.2.1,d.2.2.2.1,d.2.2.2.2.1,()))⟩,
  ⟨⟨.rt,[4],[lS],[.d,.d,.d,.d]⟩,Bool,λ d r=>((r,()),((),(),(),(),()))⟩],
 λ k d=>bb (u1 (pO d.2.2.2.1) (pO d.2.2.2.2.1) k d.1.2.2.2.2.2.2.2.2.1)⟩ (bN.b7 (λ d=>rfl) λ k aH aJ q h=>by
 conv=>rhs;simp only[u1,bi];simp only[bY]
 kernel_rfl)
def aaf(F:Nat):a2 aU:=(aae F).b4 44 2 F ⟨[0,1,5,6,7,8],[.p (.l 39),.p (.l 39),lQ,.p (.B 0),.p (.B 1),lQ],[gQ,gQ],
 [⟨⟨.nm,[0,1,5],[.p (.l 39),.p (.l 39),lQ],[gQ,gQ]⟩,Unit,λ d r=>((d.1.1,d.1.2.1,d.1.2.2.1,()),(d.2.1,d.2.2.1,()))⟩,
  ⟨⟨.rt,[4],[lS],[.d,.d]⟩,Bool,λ d r=>((r,()),((),(),()))⟩],
 λ k d=>bb (u0 F (wR d.2.1) (wR d.2.2.1) k d.1.2.2.2.2.2.1)⟩ (bN.b7 (λ d=>rfl) λ k aH aJ q h=>by
 obtain⟨(c:List ad.ao),(v1:List ad.ao),(e:Int),_,_,(f:Int),_⟩:=aH
 obtain⟨⟨(g:List UInt8),(i:List UInt8),(j:List ad.Field),(l:List ad.Method),_⟩,⟨(e5:List UInt8),(m:List UInt8),(a:List ad.Field),(b:List ad.Method),_⟩,_⟩:=aJ
 conv=>rhs;simp only[u0,bi,UW,<-Bool.or_assoc];simp only[bY]
 kernel_rfl)
def aag(F:Nat):a2 aU:=(aaf F).b4 44 0 F ⟨[0,1,5],[.p (.l 39),.p (.l 39),lQ],[],
 [⟨⟨.nm,[],[],[]⟩,Unit,λ d r=>((),())⟩,
  ⟨⟨.rt,[4],[lS],[]⟩,Bool,λ d r=>((r,()),())⟩],
 λ k d=>bb (uZ F d.1.1 d.1.2.1 k d.1.2.2.1)⟩ (bN.b7 (λ d=>rfl) λ k aH aJ q h=>by
 conv=>rhs;simp only[uZ,bi];simp only[bY]
 kernel_rfl)
def aah(F:Nat):a2 aU:=(aag F).rt 44 ⟨[.p (.l 39),.p (.l 39)],[],[lS],[],Bool,λ d=>xt F d.1.1 d.1.2.1,λ d r=>((r,()),())⟩ λ aH aJ=>by
 conv=>rhs;simp only[xt,bi]
 kernel_rfl
def Jp(k:Nat)(a:ad.bE)(b8:ad.bE)(b:Int)(c:Int):=dx ((a.cu.length:Int)=c/\True) (bb (sb a b8 k b))
theorem MS(k:Nat)(a:ad.bE)(b8:ad.bE)(b:Int):bb (sb a b8 k b)=Jp k a b8 b (a.cu.length:Int):=(dZ ⟨rfl,trivial⟩).symm
def aai(F:Nat):a2 aU:=(aah F).b4 21 0 F ⟨[2,3,5,6],[.p (.B 0),.p (.B 1),lQ,lQ],[fp,fp],
 [⟨⟨.nm,[2,3],[.p (.B 0),.p (.B 1)],[fp,fp]⟩,Unit,λ d r=>(((),(),()),(d.2.1,d.2.2.1,()))⟩,
  ⟨⟨.rt,[4],[lS],[.d,.d]⟩,Bool,λ d r=>((r,()),((),(),()))⟩],
 λ k d=>Jp k (gu d.2.1) (gu d.2.2.1) d.1.2.2.2.1 d.1.2.2.1⟩ (bN.b7 (λ d=>dY) λ k aH aJ q h=>by
 obtain⟨_,_,(n:Int),(v1:Int),_⟩:=aH
 obtain⟨⟨(e:List ad.ao),(c:List Int),(f:List (List ad.Field)),(g:List (List (List UInt8))),(i:List (List ad.Target)),_⟩,⟨(j:List ad.ao),(e5:List Int),(l:List (List ad.Field)),(a:List (List (List UInt8))),(b:List (List ad.Target)),_⟩,_⟩:=aJ
 obtain⟨m,_⟩:=en h
 dsimp only at m
 obtain⟨rfl,_⟩:=m
 conv=>rhs;change eV (α:=Unit⊕Bool) _ (Jp (k+1) (⟨e,c,f,g,i⟩:ad.bE) (⟨j,e5,l,a,b⟩:ad.bE) v1 (c.length:Int));rw[<-MS (k+1) (⟨e,c,f,g,i⟩:ad.bE) (⟨j,e5,l,a,b⟩:ad.bE) v1];simp only[sb,bi,MS];simp only[bY]
 kernel_rfl)
def aaj(F:Nat):a2 aU:=(aai F).b4 21 2 F ⟨[2,3,7],[.p (.B 0),.p (.B 1),lQ],[fp,fp],
 [⟨⟨.nm,[2,3],[.p (.B 0),.p (.B 1)],[fp,fp]⟩,Unit,λ d r=>(((),(),()),(d.2.1,d.2.2.1,()))⟩,
  ⟨⟨.rt,[4],[lS],[.d,.d]⟩,Bool,λ d r=>((r,()),((),(),()))⟩],
 λ k d=>bb (u3 F (gu d.2.1) (gu d.2.2.1) k d.1.2.2.1)⟩ (bN.b7 (λ d=>rfl) λ k aH aJ q h=>by
 conv=>rhs;simp only[u3,bi];simp only[bY]
 kernel_rfl)
def aak(F:Nat):a2 aU:=(aaj F).b4 21 6 F ⟨[2,3,8,9],[.p (.B 0),.p (.B 1),lQ,lQ],[fp,fp],
 [⟨⟨.nm,[2,3,8],[.p (.B 0),.p (.B 1),lQ],[fp,fp]⟩,Unit,λ d r=>(((),(),d.1.2.2.1,()),(d.2.1,d.2.2.1,()))⟩,
  ⟨⟨.rt,[4],[lS],[.d,.d]⟩,Bool,λ d r=>((r,()),((),(),()))⟩],
 λ k d=>bb (u5 (gu d.2.1) (gu d.2.2.1) d.1.2.2.1 k d.1.2.2.2.1)⟩ (bN.b7 (λ d=>rfl) λ k aH aJ q h=>by
 conv=>rhs;simp only[u5,bi];simp only[bY]
 kernel_rfl)
def aal(F:Nat):a2 aU:=(aak F).b4 21 4 F ⟨[2,3,8],[.p (.B 0),.p (.B 1),lQ],[fp,fp],
 [⟨⟨.nm,[2,3],[.p (.B 0),.p (.B 1)],[fp,fp]⟩,Unit,λ d r=>(((),(),()),(d.2.1,d.2.2.1,()))⟩,
  ⟨⟨.rt,[4],[lS],[.d,.d]⟩,Bool,λ d r=>((r,()),((),(),()))⟩],
 λ k d=>bb (u4 F (gu d.2.1) (gu d.2.2.1) k d.1.2.2.1)⟩ (bN.b7 (λ d=>rfl) λ k aH aJ q h=>by
 conv=>rhs;simp only[u4,bi];simp only[bY]
 kernel_rfl)
def aan(F:Nat):a2 aU:=(aal F).b4 21 10 F ⟨[2,3,10,11],[.p (.B 0),.p (.B 1),lQ,lQ],[fp,fp],
 [⟨⟨.nm,[2,3,10],[.p (.B 0),.p (.B 1),lQ],[fp,fp]⟩,Unit,λ d r=>(((),(),d.1.2.2.1,()),(d.2.1,d.2.2.1,()))⟩,
  ⟨⟨.rt,[4],[lS],[.d,.d]⟩,Bool,λ d r=>((r,()),((),(),()))⟩],
 λ k d=>bb (u7 (gu d.2.1) (gu d.2.2.1) d.1.2.2.1 k d.1.2.2.2.1)⟩ (bN.b7 (λ d=>rfl) λ k aH aJ q h=>by
 conv=>rhs;simp only[u7,bi];simp only[bY]
 kernel_rfl)
def aao(F:Nat):a2 aU:=(aan F).b4 21 8 F ⟨[2,3,10],[.p (.B 0),.p (.B 1),lQ],[fp,fp],
 [⟨⟨.nm,[],[],[fp,fp]⟩,Unit,λ d r=>((),(d.2.1,d.2.2.1,()))⟩,
  ⟨⟨.rt,[4],[lS],[.d,.d]⟩,Bool,λ d r=>((r,()),((),(),()))⟩],
 λ k d=>bb (u6 F (gu d.2.1) (gu d.2.2.1) k d.1.2.2.1)⟩ (bN.b7 (λ d=>rfl) λ k aH aJ q h=>by
 conv=>rhs;simp only[u6,bi];simp only[bY]
 kernel_rfl)
def aap(F:Nat):a2 aU:=(aao F).rt 21 ⟨[tO,tO],[],[lS],[],Bool,λ d=>xv F (gu d.1.1) (gu d.1.2.1),λ d r=>((r,()),())⟩ λ aH aJ=>by
 obtain⟨⟨(a:List ad.ao),(v1:List Int),(b:List (List ad.Field)),(c:List (List (List UInt8))),(e:List (List ad.Target)),_⟩,⟨(f:List ad.ao),(g:List Int),(h:List (List ad.Field)),(e5:List (List (List UInt8))),(i:List (List ad.Target)),_⟩,_⟩:=aH;conv=>rhs;simp only[xv,bi,MS]
 kernel_rfl
def aaq(F:Nat):a2 aU:=(aap F).b4 116 0 F ⟨[0,3],[.p (.s),lQ],[],
 [⟨⟨.nm,[0],[.p (.s)],[]⟩,Unit,λ d r=>((d.1.1,()),())⟩,
  ⟨⟨.rt,[2],[lS],[]⟩,Bool,λ d r=>((r,()),())⟩],
 λ k d=>bb (oQ d.1.1 k d.1.2.1)⟩ (bN.b7 (λ d=>rfl) λ k aH aJ q h=>by
 conv=>rhs;simp only[oQ,bi];simp only[bY]
 kernel_rfl)
def aar(F:Nat):a2 aU:=(aaq F).rt 116 ⟨[.p (.s)],[],[lS],[],Bool,λ d=>lF F d.1.1,λ d r=>((r,()),())⟩ λ aH aJ=>by
 conv=>rhs;simp only[lF,bi]
 kernel_rfl
def aas(F:Nat):a2 aU:=(aar F).rt 117 ⟨[.a [lT,.s]],[],[lS],[],Bool,λ d=>p7 F (Cv d.1.1),λ d r=>((r,()),())⟩ λ aH aJ=>by
 conv=>rhs;simp only[p7,bi]
 kernel_rfl
def aat(F:Nat):a2 aU:=(aas F).rt 128 ⟨[lQ,lQ,lQ],[],[lS],[],Bool,λ d=>p9 d.1.1 d.1.2.1 d.1.2.2.1,λ d r=>((r,()),())⟩ λ aH aJ=>by
 conv=>rhs;simp only[p9,bi]
 kernel_rfl
def aau(F:Nat):a2 aU:=(aat F).b4 118 0 F ⟨[1,3],[.p (.B 0),lQ],[jS],
 [⟨⟨.nm,[1],[.p (.B 0)],[jS]⟩,Unit,λ d r=>(((),()),(d.2.1,()))⟩,
  ⟨⟨.rt,[2],[lQ],[.d]⟩,Int,λ d r=>((r,()),((),()))⟩],
 λ k d=>bb (uT F (pO d.2.1) k d.1.2.1)⟩ (bN.b7 (λ d=>rfl) λ k aH aJ q h=>by
 conv=>rhs;simp only[uT,bi];simp only[bY]
 kernel_rfl)
def aav(F:Nat):a2 aU:=(aau F).b4 118 2 F ⟨[1,4],[.p (.B 0),lQ],[jS],
 [⟨⟨.nm,[],[],[jS]⟩,Unit,λ d r=>((),(d.2.1,()))⟩,
  ⟨⟨.rt,[2],[lQ],[.d]⟩,Int,λ d r=>((r,()),((),()))⟩],
 λ k d=>bb (uU F (pO d.2.1) k d.1.2.1)⟩ (bN.b7 (λ d=>rfl) λ k aH aJ q h=>by
 conv=>rhs;simp only[uU,bi];simp only[bY]
 kernel_rfl)
def aaw(F:Nat):a2 aU:=(aav F).rt 118 ⟨[FO],[],[lQ],[],Int,λ d=>uS F (pO d.1.1),λ d r=>((r,()),())⟩ λ aH aJ=>by
 conv=>rhs;simp only[uS,bi]
 kernel_rfl
theorem ak1(F:Nat)(k:Nat)(a:ad.ao)(b:Int):bb (xo F a k b)=bb (r7 F a k b):=by kernel_rfl
def aay(F:Nat):a2 aU:=(aaw F).b4 89 2 F ⟨[0,3,4,5],[.p (.l 39),lQ,.p (.B 0),lQ],[gQ],
 [⟨⟨.nm,[0,3,4],[.p (.l 39),lQ,.p (.B 0)],[gQ]⟩,Unit,λ d r=>((d.1.1,d.1.2.1,(),()),(d.2.1,()))⟩,
  ⟨⟨.rt,[2],[lQ],[.d]⟩,Int,λ d r=>((r,()),((),()))⟩],
 λ k d=>bb (r7 F (wR d.2.1) k d.1.2.2.2.1)⟩ (bN.b7 (λ d=>rfl) λ k aH aJ q h=>by
 conv=>rhs;simp only[r7,bi];simp only[bY]
 kernel_rfl)
theorem ak2(F:Nat)(k:Nat)(a:ad.ao)(b:Int):bb (xp F a k b)=bb (r8 F a k b):=by kernel_rfl
def aaz(F:Nat):a2 aU:=(aay F).b4 89 4 F ⟨[0,3,4,6],[.p (.l 39),lQ,.p (.B 0),lQ],[gQ],
 [⟨⟨.nm,[0,3],[.p (.l 39),lQ],[gQ]⟩,Unit,λ d r=>((d.1.1,d.1.2.1,()),(d.2.1,()))⟩,
  ⟨⟨.rt,[2],[lQ],[.d]⟩,Int,λ d r=>((r,()),((),()))⟩],
 λ k d=>bb (r8 F (wR d.2.1) k d.1.2.2.2.1)⟩ (bN.b7 (λ d=>rfl) λ k aH aJ q h=>by
 conv=>rhs;simp only[r8,bi];simp only[bY]
 kernel_rfl)
def aaA(F:Nat):a2 aU:=(aaz F).b4 89 0 F ⟨[0,3],[.p (.l 39),lQ],[],
 [⟨⟨.nm,[],[],[]⟩,Unit,λ d r=>((),())⟩,
  ⟨⟨.rt,[2],[lQ],[]⟩,Int,λ d r=>((r,()),())⟩],
 λ k d=>bb (uG F d.1.1 k d.1.2.1)⟩ (bN.b7 (λ d=>rfl) λ k aH aJ q h=>by
 obtain⟨(a:List ad.ao),(v1:Int),_⟩:=aH
 conv=>rhs;simp only[uG,bi,ak1,ak2];simp only[bY]
 kernel_rfl)
def aaB(F:Nat):a2 aU:=(aaA F).rt 89 ⟨[.p (.l 39)],[],[lQ],[],Int,λ d=>zG F d.1.1,λ d r=>((r,()),())⟩ λ aH aJ=>by
 conv=>rhs;simp only[zG,bi]
 kernel_rfl
def aaC(F:Nat):a2 aU:=(aaB F).b4 26 0 F ⟨[0,1,5],[.p (.l 39),.p (.s),lQ],[],
 [⟨⟨.nm,[],[],[]⟩,Unit,λ d r=>((),())⟩,
  ⟨⟨.rt,[4],[lQ],[]⟩,Int,λ d r=>((r,()),())⟩],
 λ k d=>bb (uV d.1.1 d.1.2.1 k d.1.2.2.1)⟩ (bN.b7 (λ d=>rfl) λ k aH aJ q h=>by
 conv=>rhs;simp only[uV,bi];simp only[bY]
 kernel_rfl)
def aaD(F:Nat):a2 aU:=(aaC F).rt 26 ⟨[.p (.l 39),.p (.s)],[],[lQ],[],Int,λ d=>iD F d.1.1 d.1.2.1,λ d r=>((r,()),())⟩ λ aH aJ=>by
 conv=>rhs;simp only[iD,bi]
 kernel_rfl
def aaE(F:Nat):a2 aU:=(aaD F).b4 49 0 F ⟨[0,1,5],[.p (.l 39),lQ,lR],[],
 [⟨⟨.nm,[5],[lR],[]⟩,List Int,λ d r=>((r,()),())⟩,
  ⟨⟨.rt,[4],[lR],[]⟩,List Int,λ d r=>((r,()),())⟩],
 λ k d=>bb (va F d.1.1 k d.1.2.1 d.1.2.2.1)⟩ (bN.b7 (λ d=>rfl) λ k aH aJ q h=>by
 conv=>rhs;simp only[va,bi];simp only[bY]
 kernel_rfl)
def aaF(F:Nat):a2 aU:=(aaE F).rt 49 ⟨[.p (.l 39),lQ],[],[lR],[],List Int,λ d=>my F d.1.1 d.1.2.1,λ d r=>((r,()),())⟩ λ aH aJ=>by
 conv=>rhs;simp only[my,bi]
 kernel_rfl
def aaG(F:Nat):a2 aU:=(aaF F).b4 42 0 F ⟨[0,5,6,7],[.p (.l 39),.p (.R 0),lR,lQ],[.r 121 false],
 [⟨⟨.nm,[5],[.p (.R 0)],[.r 121 false]⟩,List ad.Field,λ d r=>(((),()),(r,()))⟩],
 λ k d=>oM d.1.1 d.1.2.2.1 k d.2.1 d.1.2.2.2.1⟩ (bN.b7 (λ d=>rfl) λ k aH aJ q h=>by
 conv=>rhs;simp only[oM,bi];simp only[bY]
 kernel_rfl)
def aaH(F:Nat):a2 aU:=(aaG F).rt 42 ⟨[.p (.l 39),lQ],[],[.p (.l 121)],[],List ad.Field,λ d=>uF F d.1.1 d.1.2.1,λ d r=>((r,()),())⟩ λ aH aJ=>by
 conv=>rhs;simp only[uF,bi]
 kernel_rfl
def Yl(F:Nat):a2 aU:=(aaH F).b4 90 0 F ⟨[0,1,5],[.p (.l 39),.p (.l 47),lQ],[],
 [⟨⟨.nm,[],[],[]⟩,Unit,λ d r=>((),())⟩,
  ⟨⟨.rt,[4],[lS],[]⟩,Bool,λ d r=>((r,()),())⟩],
 λ k d=>bb (sc F d.1.2.1 d.1.1 k d.1.2.2.1)⟩ (bN.b7 (λ d=>rfl) λ k aH aJ q h=>by
 conv=>rhs;simp only[sc,bi];simp only[bY]
 kernel_rfl)
def Ym(F:Nat):a2 aU:=(Yl F).rt 90 ⟨[.p (.l 39),.p (.l 47)],[],[lS],[],Bool,λ d=>u' F d.1.1 d.1.2.1,λ d r=>((r,()),())⟩ λ aH aJ=>by
 conv=>rhs;simp only[u',bi]
 kernel_rfl
def Yn(F:Nat):a2 aU:=(Ym F).b4 41 0 F ⟨[0,4],[.p (.l 39),lQ],[],
 [⟨⟨.nm,[0],[.p (.l 39)],[]⟩,Unit,λ d r=>((d.1.1,()),())⟩,
  ⟨⟨.rt,[2],[lQ],[]⟩,Int,λ d r=>((r,()),())⟩],
 λ k d=>bb (p6 F d.1.1 k d.1.2.1)⟩ (bN.b7 (λ d=>rfl) λ k aH aJ q h=>by
 conv=>rhs;simp only[p6,bi];simp only[bY]
 kernel_rfl)
def Yo(F:Nat):a2 aU:=(Yn F).b4 41 2 F ⟨[0,5],[.p (.l 39),lQ],[],
 [⟨⟨.nm,[0],[.p (.l 39)],[]⟩,Unit,λ d r=>((d.1.1,()),())⟩,
  ⟨⟨.rt,[2],[lQ],[]⟩,Int,λ d r=>((r,()),())⟩],
 λ k d=>bb (uM d.1.1 k d.1.2.1)⟩ (bN.b7 (λ d=>rfl) λ k aH aJ q h=>by
 conv=>rhs;simp only[uM,bi];simp only[bY]
 kernel_rfl)
def Yp(F:Nat):a2 aU:=(Yo F).b4 41 4 F ⟨[0,6],[.p (.l 39),lQ],[],
 [⟨⟨.nm,[0],[.p (.l 39)],[]⟩,Unit,λ d r=>((d.1.1,()),())⟩,
  ⟨⟨.rt,[2],[lQ],[]⟩,Int,λ d r=>((r,()),())⟩],
 λ k d=>bb (r_ F d.1.1 k d.1.2.1)⟩ (bN.b7 (λ d=>rfl) λ k aH aJ q h=>by
 conv=>rhs;simp only[r_,bi];simp only[bY]
 kernel_rfl)
def Yq(F:Nat):a2 aU:=(Yp F).b4 41 6 F ⟨[0,7],[.p (.l 39),lQ],[],
 [⟨⟨.nm,[0],[.p (.l 39)],[]⟩,Unit,λ d r=>((d.1.1,()),())⟩,
  ⟨⟨.rt,[2],[lQ],[]⟩,Int,λ d r=>((r,()),())⟩],
 λ k d=>bb (uN F d.1.1 k d.1.2.1)⟩ (bN.b7 (λ d=>rfl) λ k aH aJ q h=>by
 conv=>rhs;simp only[uN,bi];simp only[bY]
 kernel_rfl)
def Yr(F:Nat):a2 aU:=(Yq F).b4 41 10 F ⟨[0,10,11],[.p (.l 39),lQ,lQ],[],
 [⟨⟨.nm,[0,10],[.p (.l 39),lQ],[]⟩,Unit,λ d r=>((d.1.1,d.1.2.1,()),())⟩,
  ⟨⟨.rt,[2],[lQ],[]⟩,Int,λ d r=>((r,()),())⟩],
 λ k d=>bb (uO F d.1.1 d.1.2.1 k d.1.2.2.1)⟩ (bN.b7 (λ d=>rfl) λ k aH aJ q h=>by
 conv=>rhs;simp only[uO,bi];simp only[bY]
 kernel_rfl)
def Ys(F:Nat):a2 aU:=(Yr F).b4 41 14 F ⟨[0,10,12,13,14],[.p (.l 39),lQ,lQ,.p (.B 0),lQ],[jS],
 [⟨⟨.nm,[0,10,12],[.p (.l 39),lQ,lQ],[jS]⟩,Unit,λ d r=>((d.1.1,d.1.2.1,d.1.2.2.1,()),(d.2.1,()))⟩,
  ⟨⟨.rt,[2],[lQ],[.d]⟩,Int,λ d r=>((r,()),((),()))⟩],
 λ k d=>bb (uQ F d.1.1 (pO d.2.1) k d.1.2.2.2.2.1)⟩ (bN.b7 (λ d=>rfl) λ k aH aJ q h=>by
 conv=>rhs;simp only[uQ,bi];simp only[bY]
 kernel_rfl)
def Yt(F:Nat):a2 aU:=(Ys F).b4 41 12 F ⟨[0,10,12],[.p (.l 39),lQ,lQ],[],
 [⟨⟨.nm,[0,10],[.p (.l 39),lQ],[]⟩,Unit,λ d r=>((d.1.1,d.1.2.1,()),())⟩,
  ⟨⟨.rt,[2],[lQ],[]⟩,Int,λ d r=>((r,()),())⟩],
 λ k d=>bb (uP F d.1.1 d.1.2.1 k d.1.2.2.1)⟩ (bN.b7 (λ d=>rfl) λ k aH aJ q h=>by
 conv=>rhs;simp only[uP,bi];simp only[bY]
 kernel_rfl)
def Yu(F:Nat):a2 aU:=(Yt F).b4 41 8 F ⟨[0,10],[.p (.l 39),lQ],[],
 [⟨⟨.nm,[0],[.p (.l 39)],[]⟩,Unit,λ d r=>((d.1.1,()),())⟩,
  ⟨⟨.rt,[2],[lQ],[]⟩,Int,λ d r=>((r,()),())⟩],
 λ k d=>bb (r' F d.1.1 k d.1.2.1)⟩ (bN.b7 (λ d=>rfl) λ k aH aJ q h=>by
 conv=>rhs;simp only[r',bi];simp only[bY]
 kernel_rfl)
def Yw(F:Nat):a2 aU:=(Yu F).b4 41 20 F ⟨[0,15,16,17,18],[.p (.l 39),lQ,.p (.l 121),lQ,lQ],[],
 [⟨⟨.nm,[0,15,16,17],[.p (.l 39),lQ,.p (.l 121),lQ],[]⟩,Unit,λ d r=>((d.1.1,d.1.2.1,d.1.2.2.1,d.1.2.2.2.1,()),())⟩,
  ⟨⟨.rt,[2],[lQ],[]⟩,Int,λ d r=>((r,()),())⟩],
 λ k d=>bb (uI d.1.2.2.1 d.1.2.2.2.1 k d.1.2.2.2.2.1)⟩ (bN.b7 (λ d=>rfl) λ k aH aJ q h=>by
 conv=>rhs;simp only[uI,bi];simp only[bY]
 kernel_rfl)
def Yx(F:Nat):a2 aU:=(Yw F).b4 41 18 F ⟨[0,15,16,17],[.p (.l 39),lQ,.p (.l 121),lQ],[],
 [⟨⟨.nm,[0,15],[.p (.l 39),lQ],[]⟩,Unit,λ d r=>((d.1.1,d.1.2.1,()),())⟩,
  ⟨⟨.rt,[2],[lQ],[]⟩,Int,λ d r=>((r,()),())⟩],
 λ k d=>bb (uH F d.1.2.2.1 k d.1.2.2.2.1)⟩ (bN.b7 (λ d=>rfl) λ k aH aJ q h=>by
 conv=>rhs;simp only[uH,bi];simp only[bY]
 kernel_rfl)
def Jn(k:Nat)(a:ad.ao)(b:Int)(c:Int):=dx (True) (bb (oO a b k c))
theorem MQ(k:Nat)(a:ad.ao)(b:Int)(c:Int):bb (oO a b k c)=Jn k (⟨[],[],[],a.a3⟩:ad.ao) b c:=(show bb (oO a b k c)=bb (oO (⟨[],[],[],a.a3⟩:ad.ao) b k c) by kernel_rfl).trans (dZ trivial).symm
def Yy(F:Nat):a2 aU:=(Yx F).b4 41 24 F ⟨[0,15,19,20,21],[.p (.l 39),lQ,.p (.l 61),lQ,lQ],[],
 [⟨⟨.nm,[0,15,19,20],[.p (.l 39),lQ,.p (.l 61),lQ],[]⟩,Unit,λ d r=>((d.1.1,d.1.2.1,d.1.2.2.1,d.1.2.2.2.1,()),())⟩,
  ⟨⟨.rt,[2],[lQ],[]⟩,Int,λ d r=>((r,()),())⟩],
 λ k d=>Jn k (⟨[],[],[],d.1.2.2.1⟩:ad.ao) d.1.2.2.2.1 d.1.2.2.2.2.1⟩ (bN.b7 (λ d=>dY) λ k aH aJ q h=>by
 obtain⟨(e:List ad.ao),(v1:Int),(a:List ad.Method),(b:Int),(c:Int),_⟩:=aH
 conv=>rhs;change eV (α:=Unit⊕Int) _ (Jn (k+1) (⟨[],[],[],a⟩:ad.ao) b c);rw[<-MQ (k+1) (⟨[],[],[],a⟩:ad.ao) b c];simp only[oO,bi,MQ];simp only[bY]
 kernel_rfl)
def Jm(F:Nat)(k:Nat)(a:ad.ao)(b:Int):=dx (True) (bb (oN F a k b))
theorem MP(F:Nat)(k:Nat)(a:ad.ao)(b:Int):bb (oN F a k b)=Jm F k (⟨[],[],[],a.a3⟩:ad.ao) b:=(show bb (oN F a k b)=bb (oN F (⟨[],[],[],a.a3⟩:ad.ao) k b) by kernel_rfl).trans (dZ trivial).symm
def Yz(F:Nat):a2 aU:=(Yy F).b4 41 22 F ⟨[0,15,19,20],[.p (.l 39),lQ,.p (.l 61),lQ],[],
 [⟨⟨.nm,[0,15],[.p (.l 39),lQ],[]⟩,Unit,λ d r=>((d.1.1,d.1.2.1,()),())⟩,
  ⟨⟨.rt,[2],[lQ],[]⟩,Int,λ d r=>((r,()),())⟩],
 λ k d=>Jm F k (⟨[],[],[],d.1.2.2.1⟩:ad.ao) d.1.2.2.2.1⟩ (bN.b7 (λ d=>dY) λ k aH aJ q h=>by
 obtain⟨(c:List ad.ao),(v1:Int),(a:List ad.Method),(b:Int),_⟩:=aH
 conv=>rhs;change eV (α:=Unit⊕Int) _ (Jm F (k+1) (⟨[],[],[],a⟩:ad.ao) b);rw[<-MP F (k+1) (⟨[],[],[],a⟩:ad.ao) b];simp only[oN,bi,MQ,MP];simp only[bY]
 kernel_rfl)
def YA(F:Nat):a2 aU:=(Yz F).b4 41 16 F ⟨[0,15],[.p (.l 39),lQ],[],
 [⟨⟨.nm,[0],[.p (.l 39)],[]⟩,Unit,λ d r=>((d.1.1,()),())⟩,
  ⟨⟨.rt,[2],[lQ],[]⟩,Int,λ d r=>((r,()),())⟩],
 λ k d=>bb (uR F d.1.1 k d.1.2.1)⟩ (bN.b7 (λ d=>rfl) λ k aH aJ q h=>by
 obtain⟨(a:List ad.ao),(v1:Int),_⟩:=aH
 conv=>rhs;simp only[uR,bi,MP];simp only[bY]
 kernel_rfl)
def YB(F:Nat):a2 aU:=(YA F).b4 41 32 F ⟨[0,22,23,24,25,26],[.p (.l 39),lQ,lR,lQ,lQ,lQ],[],
 [⟨⟨.nm,[0,22,23,24,25],[.p (.l 39),lQ,lR,lQ,lQ],[]⟩,Unit,λ d r=>((d.1.1,d.1.2.1,d.1.2.2.1,d.1.2.2.2.1,d.1.2.2.2.2.1,()),())⟩,
  ⟨⟨.rt,[2],[lQ],[]⟩,Int,λ d r=>((r,()),())⟩],
 λ k d=>bb (r9 F d.1.1 d.1.2.1 d.1.2.2.1 d.1.2.2.2.1 d.1.2.2.2.2.1 k d.1.2.2.2.2.2.1)⟩ (bN.b7 (λ d=>rfl) λ k aH aJ q h=>by
 obtain⟨(a:List ad.ao),(v1:Int),(b:List Int),(c:Int),(e:Int),(f:Int),_⟩:=aH
 conv=>rhs;simp only[r9,bi,UW];simp only[bY]
 kernel_rfl)
def YC(F:Nat):a2 aU:=(YB F).b4 41 30 F ⟨[0,22,23,24,25],[.p (.l 39),lQ,lR,lQ,lQ],[],
 [⟨⟨.nm,[0,22,23,24],[.p (.l 39),lQ,lR,lQ],[]⟩,Unit,λ d r=>((d.1.1,d.1.2.1,d.1.2.2.1,d.1.2.2.2.1,()),())⟩,
  ⟨⟨.rt,[2],[lQ],[]⟩,Int,λ d r=>((r,()),())⟩],
 λ k d=>bb (uL F d.1.1 d.1.2.1 d.1.2.2.1 d.1.2.2.2.1 k d.1.2.2.2.2.1)⟩ (bN.b7 (λ d=>rfl) λ k aH aJ q h=>by
 conv=>rhs;simp only[uL,bi];simp only[bY]
 kernel_rfl)
def YD(F:Nat):a2 aU:=(YC F).b4 41 28 F ⟨[0,22,23,24],[.p (.l 39),lQ,lR,lQ],[],
 [⟨⟨.nm,[0,22],[.p (.l 39),lQ],[]⟩,Unit,λ d r=>((d.1.1,d.1.2.1,()),())⟩,
  ⟨⟨.rt,[2],[lQ],[]⟩,Int,λ d r=>((r,()),())⟩],
 λ k d=>bb (uK F d.1.1 d.1.2.1 d.1.2.2.1 k d.1.2.2.2.1)⟩ (bN.b7 (λ d=>rfl) λ k aH aJ q h=>by
 conv=>rhs;simp only[uK,bi];simp only[bY]
 kernel_rfl)
def YE(F:Nat):a2 aU:=(YD F).b4 41 26 F ⟨[0,22],[.p (.l 39),lQ],[],
 [⟨⟨.nm,[],[],[]⟩,Unit,λ d r=>((),())⟩,
  ⟨⟨.rt,[2],[lQ],[]⟩,Int,λ d r=>((r,()),())⟩],
 λ k d=>bb (uJ F d.1.1 k d.1.2.1)⟩ (bN.b7 (λ d=>rfl) λ k aH aJ q h=>by
 conv=>rhs;simp only[uJ,bi];simp only[bY]
 kernel_rfl)
def YF(F:Nat):a2 aU:=(YE F).rt 41 ⟨[.p (.l 39)],[],[lQ],[],Int,λ d=>zH F d.1.1,λ d r=>((r,()),())⟩ λ aH aJ=>by
 conv=>rhs;simp only[zH,bi]
 kernel_rfl
def Jq(k:Nat)(a:List (List UInt8))(ns:ad.Method)(b:Int):=dx (True) (nC a ns k b)
theorem MT(k:Nat)(a:List (List UInt8))(ns:ad.Method)(b:Int):nC a ns k b=Jq k a (⟨ns.Name,false,[],(⟨0,[]⟩:ad.Kind),0,0,[],[]⟩:ad.Method) b:=(show nC a ns k b=nC a (⟨ns.Name,false,[],(⟨0,[]⟩:ad.Kind),0,0,[],[]⟩:ad.Method) k b by kernel_rfl).trans (dZ trivial).symm
def YH(F:Nat):a2 aU:=(YF F).b4 43 4 F ⟨[0,6,7,8,9,10,11,12],[.p (.l 39),.p (.R 0),.p (.R 1),lR,lQ,lQ,.p (.s),lQ],[.r 9 false,.r 102 false],
 [⟨⟨.nm,[0,6,7,8,9,10,11,12],[.p (.l 39),.p (.R 0),.p (.R 1),lR,lQ,lQ,.p (.s),lQ],[.r 9 false,.r 102 false]⟩,Int,λ d r=>((d.1.1,(),(),d.1.2.2.2.1,d.1.2.2.2.2.1,d.1.2.2.2.2.2.1,d.1.2.2.2.2.2.2.1,r,()),(d.2.1,d.2.2.1,()))⟩],
 λ k d=>Jq k d.2.1 (⟨d.1.2.2.2.2.2.2.1,false,[],(⟨0,[]⟩:ad.Kind),0,0,[],[]⟩:ad.Method) d.1.2.2.2.2.2.2.2.1⟩ (bN.b7 (λ d=>dY) λ k aH aJ q h=>by
 obtain⟨(e:List ad.ao),_,_,(v1:List Int),(f:Int),(g:Int),(a:List UInt8),(b:Int),_⟩:=aH
 obtain⟨(c:List (List UInt8)),(i:List ad.Target),_⟩:=aJ
 conv=>rhs;change eV (α:=Int) _ (Jq (k+1) c (⟨a,false,[],(⟨0,[]⟩:ad.Kind),0,0,[],[]⟩:ad.Method) b);rw[<-MT (k+1) c (⟨a,false,[],(⟨0,[]⟩:ad.Kind),0,0,[],[]⟩:ad.Method) b];simp only[nC,bi,MT];simp only[bY]
 kernel_rfl)
def YI(F:Nat):a2 aU:=(YH F).b4 43 2 F ⟨[0,6,7,8,9,10],[.p (.l 39),.p (.R 0),.p (.R 1),lR,lQ,lQ],[.r 9 false,.r 102 false],
 [⟨⟨.nm,[0,6,7,8,9],[.p (.l 39),.p (.R 0),.p (.R 1),lR,lQ],[.r 9 false,.r 102 false]⟩,(List ad.Target)×(List (List UInt8)),λ d r=>((d.1.1,(),(),d.1.2.2.2.1,d.1.2.2.2.2.1,()),(r.2,r.1,()))⟩],
 λ k d=>u_ F d.1.1 d.1.2.2.2.1 d.1.2.2.2.2.1 k d.2.2.1 d.2.1 d.1.2.2.2.2.2.1⟩ (bN.b7 (λ d=>rfl) λ k aH aJ q h=>by
 obtain⟨(a:List ad.ao),_,_,(v1:List Int),(b:Int),(c:Int),_⟩:=aH
 obtain⟨(e:List (List UInt8)),(f:List ad.Target),_⟩:=aJ
 conv=>rhs;simp only[u_,bi,MT];simp only[bY]
 kernel_rfl)
def YJ(F:Nat):a2 aU:=(YI F).b4 43 0 F ⟨[0,6,7,8,9],[.p (.l 39),.p (.R 0),.p (.R 1),lR,lQ],[.r 9 false,.r 102 false],
 [⟨⟨.nm,[6,7],[.p (.R 0),.p (.R 1)],[.r 9 false,.r 102 false]⟩,(List ad.Target)×(List (List UInt8)),λ d r=>(((),(),()),(r.2,r.1,()))⟩],
 λ k d=>u9 F d.1.1 d.1.2.2.2.1 k d.2.2.1 d.2.1 d.1.2.2.2.2.1⟩ (bN.b7 (λ d=>rfl) λ k aH aJ q h=>by
 conv=>rhs;simp only[u9,bi];simp only[bY]
 kernel_rfl)
def YK(F:Nat):a2 aU:=(YJ F).rt 43 ⟨[.p (.l 39),lQ],[],[.p (.l 9),.p (.l 102)],[],(List (List UInt8))×(List ad.Target),λ d=>zJ F d.1.1 d.1.2.1,λ d r=>((r.1,r.2,()),())⟩ λ aH aJ=>by
 conv=>rhs;simp only[zJ,bi]
 kernel_rfl
def Jo(F:Nat)(k:Nat)(a0:List ad.ao)(a:List (List ad.Target))(b:List (List (List UInt8)))(c:List (List ad.Field))(d:List Int)(e:Int)(al:List ad.ao)(aN:List Int)(bI:List (List ad.Field))(b':List (List (List UInt8)))(eD:List (List ad.Target))(f:List ad.ao):=dx (([]:List ad.ao)=al/\([]:List Int)=aN/\([]:List (List ad.Field))=bI/\([]:List (List (List UInt8)))=b'/\([]:List (List ad.Target))=eD/\(a0:List ad.ao)=f/\True) (bb (nB F a0 k a b c d e))
theorem MR(F:Nat)(k:Nat)(a0:List ad.ao)(a:List (List ad.Target))(b:List (List (List UInt8)))(c:List (List ad.Field))(d:List Int)(e:Int):bb (nB F a0 k a b c d e)=Jo F k a0 a b c d e [] [] [] [] [] a0:=(dZ ⟨rfl,rfl,rfl,rfl,rfl,rfl,trivial⟩).symm
def YL(F:Nat):a2 aU:=(YK F).b4 20 0 F ⟨[0,2,5,6],[.p (.l 39),.p (.B 0),.p (.B 1),lQ],[fp,Vg,.r 3 false,.r 36 false,.r 95 false,.r 96 false],
 [⟨⟨.nm,[2,5],[.p (.B 0),.p (.B 1)],[fp,Vg,.r 3 false,.r 36 false,.r 95 false,.r 96 false]⟩,(List (List ad.Target))×(List (List (List UInt8)))×(List (List ad.Field))×(List Int),λ d r=>(((),(),()),(d.2.1,(d.2.2.1.1,(),(),(),(),()),r.2.2.2,r.2.2.1,r.2.1,r.1,()))⟩,
  ⟨⟨.rt,[2,3],[.p (.B 0),lQ],[fp,.d,.d,.d,.d,.d]⟩,ad.bE×Int,λ d r=>(((),r.2,()),((r.1.dF,r.1.cu,r.1.Fields,r.1.Names,r.1.cy,()),(),(),(),(),(),()))⟩],
 λ k d=>Jo F k d.1.1 d.2.2.2.2.2.2.1 d.2.2.2.2.2.1 d.2.2.2.2.1 d.2.2.2.1 d.1.2.2.2.1 d.2.1.1 d.2.1.2.1 d.2.1.2.2.1 d.2.1.2.2.2.1 d.2.1.2.2.2.2.1 d.2.2.1.1⟩ (bN.b7 (λ d=>dY) λ k aH aJ q h=>by
 obtain⟨(c:List ad.ao),_,_,(v1:Int),_⟩:=aH
 obtain⟨⟨(g:List ad.ao),(i:List Int),(j:List (List ad.Field)),(l:List (List (List UInt8))),(m:List (List ad.Target)),_⟩,⟨(n:List ad.ao),_,_,_,_,_⟩,(e5:List Int),(e:List (List ad.Field)),(a:List (List (List UInt8))),(b:List (List ad.Target)),_⟩:=aJ
 obtain⟨f,_⟩:=en h
 dsimp only at f
 obtain⟨rfl,rfl,rfl,rfl,rfl,rfl,_⟩:=f
 conv=>rhs;change eV (α:=((List (List ad.Target))×(List (List (List UInt8)))×(List (List ad.Field))×(List Int))⊕(ad.bE×Int)) _ (Jo F (k+1) c b a e e5 v1 ([]) ([]) ([]) ([]) ([]) (c));rw[<-MR F (k+1) c b a e e5 v1];simp only[nB,bi,MR];simp only[bY]
 kernel_rfl)
def YM(F:Nat):a2 aU:=(YL F).rt 20 ⟨[.p (.l 39)],[],[tO,lQ],[],ad.bE×Int,λ d=>zI F d.1.1,λ d r=>(((r.1.dF,r.1.cu,r.1.Fields,r.1.Names,r.1.cy,()),r.2,()),())⟩ λ aH aJ=>by
 obtain⟨(a:List ad.ao),_⟩:=aH;conv=>rhs;simp only[zI,bi,MR]
 kernel_rfl
def zv(F:Nat):a2 aU:=(YM F).rt 7 ⟨[tO],[],[lQ],[],Int,λ d=>xr F (gu d.1.1),λ d r=>((r,()),())⟩ λ aH aJ=>by
 conv=>rhs;simp only[xr,bi]
 kernel_rfl
set_option maxRecDepth 100000
@[reducible] def yM:bB:=.c 28 [.l 39,.l 3,.l 36,.l 95,.l 96]
@[reducible] def BT:cW:=.a [.l 39,.l 3,.l 36,.l 95,.l 96]
def YN(F:Nat):a2 aU:=(zv F).b4 63 0 F ⟨[1,2,3],[lQ,lQ,.p (.B 0)],[yM],
 [⟨⟨.nm,[],[],[yM]⟩,Unit,λ d r=>((),(d.2.1,()))⟩,
  ⟨⟨.rt,[6],[lS],[.d]⟩,Bool,λ d r=>((r,()),((),()))⟩],
 λ k d=>bb (s8 d.1.2.1 (gu d.2.1) k d.1.1)⟩ (bN.b7 (λ d=>rfl) λ k aH aJ q h=>by
 conv=>rhs;simp only[s8,bi];simp only[bY]
 kernel_rfl)
def YO(F:Nat):a2 aU:=(YN F).rt 63 ⟨[BT,lQ,lQ],[],[lS],[],Bool,λ d=>s7 F (gu d.1.1) d.1.2.1 d.1.2.2.1,λ d r=>((r,()),())⟩ λ aH aJ=>by
 conv=>rhs;simp only[s7,bi]
 kernel_rfl
def YP(F:Nat):a2 aU:=(YO F).b4 67 0 F ⟨[1,2,3],[lQ,lQ,.p (.B 0)],[yM],
 [⟨⟨.nm,[1],[lQ],[yM]⟩,Int,λ d r=>((r,()),(d.2.1,()))⟩],
 λ k d=>wk F d.1.2.1 (gu d.2.1) k d.1.1⟩ (bN.b7 (λ d=>rfl) λ k aH aJ q h=>by
 conv=>rhs;simp only[wk,bi];simp only[bY]
 kernel_rfl)
def YR(F:Nat):a2 aU:=(YP F).rt 67 ⟨[BT,lQ,lQ],[],[lQ],[],Int,λ d=>yq F (gu d.1.1) d.1.2.1 d.1.2.2.1,λ d r=>((r,()),())⟩ λ aH aJ=>by
 conv=>rhs;simp only[yq,bi]
 kernel_rfl
def YS(F:Nat):a2 aU:=(YR F).b4 25 0 F ⟨[2,7,8],[lQ,lR,lQ],[],
 [⟨⟨.nm,[],[],[]⟩,Unit,λ d r=>((),())⟩,
  ⟨⟨.rt,[6],[lS],[]⟩,Bool,λ d r=>((r,()),())⟩],
 λ k d=>bb (uX d.1.1 d.1.2.1 k d.1.2.2.1)⟩ (bN.b7 (λ d=>rfl) λ k aH aJ q h=>by
 conv=>rhs;simp only[uX,bi];simp only[bY]
 kernel_rfl)
def YT(F:Nat):a2 aU:=(YS F).rt 25 ⟨[BT,lQ,lQ],[],[lS],[],Bool,λ d=>sa F (gu d.1.1) d.1.2.1 d.1.2.2.1,λ d r=>((r,()),())⟩ λ aH aJ=>by
 conv=>rhs;simp only[sa,bi]
 kernel_rfl
def YU(F:Nat):a2 aU:=(YT F).b4 36 0 F ⟨[2,3,7,8,9],[lQ,.p (.B 0),lR,lQ,lQ],[yM],
 [⟨⟨.nm,[8],[lQ],[yM]⟩,Int,λ d r=>((r,()),(d.2.1,()))⟩],
 λ k d=>lD F d.1.1 (gu d.2.1) d.1.2.2.1 k d.1.2.2.2.1 d.1.2.2.2.2.1⟩ (bN.b7 (λ d=>rfl) λ k aH aJ q h=>by
 conv=>rhs;simp only[lD,bi];simp only[bY]
 kernel_rfl)
def YV(F:Nat):a2 aU:=(YU F).rt 36 ⟨[BT,lQ,lQ],[],[lQ],[],Int,λ d=>xn F (gu d.1.1) d.1.2.1 d.1.2.2.1,λ d r=>((r,()),())⟩ λ aH aJ=>by
 conv=>rhs;simp only[xn,bi]
 kernel_rfl
def YW(F:Nat):a2 aU:=(YV F).rt 125 ⟨[.a [.s,.s,.l 121,.l 61],.p (.B 0)],[.c 9 [.s]],[lS],[.c 9 [.s]],Bool,λ d=>LL (wR d.1.1) d.2.1.1,λ d r=>((r,()),((d.2.1.1,()),()))⟩ λ aH aJ=>by
 conv=>rhs;simp only[LL,bi]
 kernel_rfl
def JX(k:Nat)(s_:List ad.ao)(a:List UInt8)(b:Int)(c:Int):=dx ((s_.length:Int)=c/\True) (bb (ud s_ a k b))
theorem Nq(k:Nat)(s_:List ad.ao)(a:List UInt8)(b:Int):bb (ud s_ a k b)=JX k s_ a b (s_.length:Int):=(dZ ⟨rfl,trivial⟩).symm
def YX(F:Nat):a2 aU:=(YW F).b4 124 0 F ⟨[0,1,7,8],[.p (.l 39),.f 125 [.B 0],lQ,lQ],[.c 9 [.s]],
 [⟨⟨.nm,[],[],[.c 9 [.s]]⟩,Unit,λ d r=>((),((d.2.1.1,()),()))⟩,
  ⟨⟨.rt,[4],[lQ],[.c 9 [.s]]⟩,Int,λ d r=>((r,()),((d.2.1.1,()),()))⟩],
 λ k d=>JX k d.1.1 d.2.1.1 d.1.2.2.2.1 d.1.2.2.1⟩ (bN.b7 (λ d=>dY) λ k aH aJ q h=>by
 obtain⟨(a:List ad.ao),⟨_,_⟩,(v1:Int),(b:Int),_⟩:=aH
 obtain⟨⟨(c:List UInt8),_⟩,_⟩:=aJ
 obtain⟨e,_⟩:=en h
 dsimp only at e
 obtain⟨rfl,_⟩:=e
 conv=>rhs;change eV (α:=Unit⊕Int) _ (JX (k+1) a c b (a.length:Int));rw[<-Nq (k+1) a c b];simp only[ud,bi,Nq];simp only[bY]
 kernel_rfl)
def YY(F:Nat):a2 aU:=(YX F).rt 124 ⟨[.p (.l 39),.f 125 [.B 0]],[.c 9 [.s]],[lQ],[.c 9 [.s]],Int,λ d=>Gu F d.1.1 d.2.1.1,λ d r=>((r,()),((d.2.1.1,()),()))⟩ λ aH aJ=>by
 obtain⟨(a:List ad.ao),⟨_,_⟩,_⟩:=aH;obtain⟨⟨(v1:List UInt8),_⟩,_⟩:=aJ;conv=>rhs;simp only[Gu,bi,Nq]
 kernel_rfl
def YZ(F:Nat):a2 aU:=(YY F).rt 103 ⟨[BT,.p (.s)],[],[lQ,lS],[],Int×Bool,λ d=>s6 F (gu d.1.1) d.1.2.1,λ d r=>((r.1,r.2,()),())⟩ λ aH aJ=>by
 conv=>rhs;simp only[s6,bi]
 kernel_rfl
set_option maxRecDepth 100000
@[reducible] def yN:bB:=.c 81 [.l 39,.l 3,.l 36,.l 95,.l 96]
@[reducible] def ol:cW:=.a [.l 39,.l 3,.l 36,.l 95,.l 96]
abbrev C8:=(List ao×List Int×List (List ad.Field)×List (List (List UInt8))×List (List ad.Target)×Unit)
def GJ(F:Nat)(c:List ao)(d:List Int)(e:List (List ad.Field))(f:List (List (List UInt8)))(g:List (List ad.Target))(a:Int)(b:List UInt8):Option ((Int×Unit)×Unit):=cond (decide (a<1)||decide (6<a)|| !(decide (a=3)||decide (a=4))&& !decide (b=[])) (some ((7,()),())) (
cond (decide (a=3)||decide (a=4)) ((s6 F (bE.mk c d e f g) b).bind λ h=>
cond (!h.2) (some ((5,()),())) (
some ((0,()),()))) (
some ((0,()),())))
def Y0(F:Nat):a2 aU:=(YZ F).fn 62 ⟨[ol,.a [lT,.s]],[],[lQ],[],λ d=>GJ F d.1.1.1 d.1.1.2.1 d.1.1.2.2.1 d.1.1.2.2.2.1 d.1.1.2.2.2.2.1 d.1.2.1.1 d.1.2.1.2.1⟩ λ aH aJ=>by kernel_rfl
def pQ(F:Nat):Nat->(List Kind)->(Int)->(Int)->(List ao)->(List Int)->(List (List ad.Field))->(List (List (List UInt8)))->(List (List ad.Target))->(List ao)->(List Int)->(List (List ad.Field))->(List (List (List UInt8)))->(List (List ad.Target))->Option ((Unit×Int×Unit)×
    C8×C8×Unit⊕
 (Unit×Unit×Unit)×
  C8×C8×Unit)
 |0,_,_,_,_,_,_,_,_,_,_,_,_,_=>none
 |cL+1,Xt,g,f,h,i,j,k,l,a,b,c,d,e=>cond (decide (f<g)) ((idx Xt f).bind λ m=>
(GJ F a b c d e m.Kind m.ao).bind λ n=>
cond (!decide (n.1.1=0)) (some (.inl (((),n.1.1,()),(a,b,c,d,e,()),(a,b,c,d,e,()),()))) (
pQ F cL Xt g (bj (f+1)) h i j k l a b c d e)) (
some (.inr (((),(),()),(h,i,j,k,l,()),(a,b,c,d,e,()),())))
def Y2(F:Nat):a2 aU:=(Y0 F).LS 32 0 F ⟨[4,6,19,20,21],[.p (.B 0),.p (.B 1),.p (.l 47),lQ,lQ],[yN,yN],[⟨.rt,[4,5],[.p (.B 0),lQ],[yN,yN]⟩,⟨.nm,[4,6],[.p (.B 0),.p (.B 1)],[yN,yN]⟩],λ k d=>pQ F k d.1.2.2.1 d.1.2.2.2.1 d.1.2.2.2.2.1 d.2.1.1 d.2.1.2.1 d.2.1.2.2.1 d.2.1.2.2.2.1 d.2.1.2.2.2.2.1 d.2.2.1.1 d.2.2.1.2.1 d.2.2.1.2.2.1 d.2.2.1.2.2.2.1 d.2.2.1.2.2.2.2.1⟩ ⟨λ d=>by kernel_rfl,λ k aH aJ=>by kernel_rfl⟩
def CB(F:Nat)(c:List ao)(d:List Int)(e:List (List ad.Field))(f:List (List (List UInt8)))(g:List (List ad.Target))(h:List Kind):Option ((C8×Int×Unit)×Unit):=(wj F (bE.mk c d e f g)).bind λ i=>
cond (!decide (i=0)) (some (((c,d,e,f,g,()),i,()),())) (
dK (pQ F F h (↑h.length:Int) 0 [] [] [] [] [] c d e f g) (λ a=>
some (((a.2.1.1,a.2.1.2.1,a.2.1.2.2.1,a.2.1.2.2.2.1,a.2.1.2.2.2.2.1,()),a.1.2.1,()),())) (λ b=>
some (((b.2.2.1.1,b.2.2.1.2.1,b.2.2.1.2.2.1,b.2.2.1.2.2.2.1,b.2.2.1.2.2.2.2.1,()),0,()),())))
def Y3(F:Nat):a2 aU:=(Y2 F).fn 32 ⟨[ol,.p (.l 47)],[],[ol,lQ],[],λ d=>CB F d.1.1.1 d.1.1.2.1 d.1.1.2.2.1 d.1.1.2.2.2.1 d.1.1.2.2.2.2.1 d.1.2.1⟩ λ aH aJ=>by kernel_rfl
def rM(F:Nat)(a:List ao)(b:List Int)(c:List (List ad.Field))(d:List (List (List UInt8)))(e:List (List ad.Target))(f:List UInt8):Option ((Int×Unit)×Unit):=(s6 F (bE.mk a b c d e) f).bind λ g=>
some ((g.1,()),())
def Y4(F:Nat):a2 aU:=(Y3 F).fn 64 ⟨[ol,.p (.s)],[],[lQ],[],λ d=>rM F d.1.1.1 d.1.1.2.1 d.1.1.2.2.1 d.1.1.2.2.2.1 d.1.1.2.2.2.2.1 d.1.2.1⟩ λ aH aJ=>by kernel_rfl
def anQ(F:Nat)(a:Int)(b:List UInt8):Option ((Bool×Unit)×Unit):=some (((!decide (a=1)&& !decide (a=6)),()),())
def Y5(F:Nat):a2 aU:=(Y4 F).fn 65 ⟨[.a [lT,.s]],[],[lS],[],λ d=>anQ F d.1.1.1 d.1.1.2.1⟩ λ aH aJ=>by kernel_rfl
def uj(F:Nat)(e:List ao)(f:List Int)(g:List (List ad.Field))(h:List (List (List UInt8)))(i:List (List ad.Target))(c:Int)(d:List UInt8)(a:Int)(b:List UInt8):Option ((Bool×Unit)×Unit):=cond (match true with
|true=>decide (Kind.mk c d=Kind.mk a b)
|false=>!decide (Kind.mk c d=Kind.mk a b)) (some ((true,()),())) (
cond (match true with
|true=>decide (Kind.mk a b=Kind.mk 6 [])
|false=>!decide (Kind.mk a b=Kind.mk 6 [])) (some ((true,()),())) (
cond (match true with
|true=>decide (Kind.mk c d=Kind.mk 5 [])
|false=>!decide (Kind.mk c d=Kind.mk 5 [])) (some (((match false with
|true=>decide (Kind.mk a b=Kind.mk 1 [])
|false=>!decide (Kind.mk a b=Kind.mk 1 [])),()),())) (
cond (decide (c=3)&&decide (a=3)) ((rM F e f g h i d).bind λ j=>
(rM F e f g h i b).bind λ k=>
(s7 F (bE.mk e f g h i) j.1.1 k.1.1).bind λ l=>
some ((l,()),())) (
cond (match true with
|true=>decide (Kind.mk a b=Kind.mk 3 [79,98,106,101,99,116])
|false=>!decide (Kind.mk a b=Kind.mk 3 [79,98,106,101,99,116])) (some (((!decide (c=1)&& !decide (c=6)),()),())) (
some ((false,()),()))))))
def Y6(F:Nat):a2 aU:=(Y5 F).fn 33 ⟨[ol,.a [lT,.s],.a [lT,.s]],[],[lS],[],λ d=>uj F d.1.1.1 d.1.1.2.1 d.1.1.2.2.1 d.1.1.2.2.2.1 d.1.1.2.2.2.2.1 d.1.2.1.1 d.1.2.1.2.1 d.1.2.2.1.1 d.1.2.2.1.2.1⟩ λ aH aJ=>by kernel_rfl
def Oj(F:Nat)(b:List ao)(c:List Int)(d:List (List ad.Field))(e:List (List (List UInt8)))(f:List (List ad.Target))(g:Int)(h:List UInt8)(i:Int)(j:List UInt8):Option ((Bool×Int×Unit)×Unit):=(CB F b c d e f [Kind.mk g h,Kind.mk i j]).bind λ a=>
cond (!decide (a.1.2.1=0)) (some ((false,a.1.2.1,()),())) (
(uj F a.1.1.1 a.1.1.2.1 a.1.1.2.2.1 a.1.1.2.2.2.1 a.1.1.2.2.2.2.1 g h i j).bind λ k=>
some ((k.1.1,0,()),()))
def Y7(F:Nat):a2 aU:=(Y6 F).fn 13 ⟨[ol,.a [lT,.s],.a [lT,.s]],[],[lS,lQ],[],λ d=>Oj F d.1.1.1 d.1.1.2.1 d.1.1.2.2.1 d.1.1.2.2.2.1 d.1.1.2.2.2.2.1 d.1.2.1.1 d.1.2.1.2.1 d.1.2.2.1.1 d.1.2.2.1.2.1⟩ λ aH aJ=>by kernel_rfl
def anP(F:Nat)(a:List UInt8):Option (((Int×List UInt8×Unit)×Unit)×Unit):=some (((3,a,()),()),())
def Y8(F:Nat):a2 aU:=(Y7 F).fn 66 ⟨[.p (.s)],[],[.a [lT,.s]],[],λ d=>anP F d.1.1⟩ λ aH aJ=>by kernel_rfl
def CC(F:Nat)(a:List ao)(d:List Int)(e:List (List ad.Field))(f:List (List (List UInt8)))(g:List (List ad.Target))(b:Int)(h:List UInt8)(c:Int)(i:List UInt8):Option (((Int×List UInt8×Unit)×Unit)×Unit):=(uj F a d e f g c i b h).bind λ j=>
cond j.1.1 (some (((b,h,()),()),())) (
(uj F a d e f g b h c i).bind λ k=>
cond k.1.1 (some (((c,i,()),()),())) (
cond (decide (b=3)&&decide (c=3)) ((rM F a d e f g h).bind λ l=>
(rM F a d e f g i).bind λ m=>
(yq F (bE.mk a d e f g) l.1.1 m.1.1).bind λ n=>
(idx a n).bind λ o=>
some (((3,o.Name,()),()),())) (
cond (!decide (b=1)&& !decide (b=6)) (cond (!decide (c=1)&& !decide (c=6)) (some (((3,([79,98,106,101,99,116]),()),()),())) (
some (((6,([]),()),()),()))) (
some (((6,([]),()),()),())))))
def Y9(F:Nat):a2 aU:=(Y8 F).fn 34 ⟨[ol,.a [lT,.s],.a [lT,.s]],[],[.a [lT,.s]],[],λ d=>CC F d.1.1.1 d.1.1.2.1 d.1.1.2.2.1 d.1.1.2.2.2.1 d.1.1.2.2.2.2.1 d.1.2.1.1 d.1.2.1.2.1 d.1.2.2.1.1 d.1.2.2.1.2.1⟩ λ aH aJ=>by kernel_rfl
def Ok(F:Nat)(b:List ao)(c:List Int)(d:List (List ad.Field))(e:List (List (List UInt8)))(f:List (List ad.Target))(g:Int)(h:List UInt8)(i:Int)(j:List UInt8):Option (((Int×List UInt8×Unit)×Int×Unit)×Unit):=(CB F b c d e f [Kind.mk g h,Kind.mk i j]).bind λ a=>
cond (!decide (a.1.2.1=0)) (some (((0,([]),()),a.1.2.1,()),())) (
(CC F a.1.1.1 a.1.1.2.1 a.1.1.2.2.1 a.1.1.2.2.2.1 a.1.1.2.2.2.2.1 g h i j).bind λ k=>
some (((k.1.1.1,k.1.1.2.1,()),0,()),()))
def Y_(F:Nat):a2 aU:=(Y9 F).fn 14 ⟨[ol,.a [lT,.s],.a [lT,.s]],[],[.a [lT,.s],lQ],[],λ d=>Ok F d.1.1.1 d.1.1.2.1 d.1.1.2.2.1 d.1.1.2.2.2.1 d.1.1.2.2.2.2.1 d.1.2.1.1 d.1.2.1.2.1 d.1.2.2.1.1 d.1.2.2.1.2.1⟩ λ aH aJ=>by kernel_rfl
def xq(F:Nat)(b:List ao)(d:List Int)(e:List (List ad.Field))(f:List (List (List UInt8)))(g:List (List ad.Target))(a:Int)(Xp:List UInt8):Option ((Int×Unit)×Unit):=cond (decide (a<1)||decide (6<a)|| !(decide (a=3)||decide (a=4))&& !decide (Xp=[])) (some ((7,()),())) (
cond (decide (a=3)||decide (a=4)) ((iD F b Xp).bind λ c=>
cond (decide (c<0)) (some ((5,()),())) (
some ((0,()),()))) (
some ((0,()),())))
def Y'(F:Nat):a2 aU:=(Y_ F).fn 15 ⟨[ol,.a [lT,.s]],[],[lQ],[],λ d=>xq F d.1.1.1 d.1.1.2.1 d.1.1.2.2.1 d.1.1.2.2.2.1 d.1.1.2.2.2.2.1 d.1.2.1.1 d.1.2.1.2.1⟩ λ aH aJ=>by kernel_rfl
def aaQ(F:Nat)(a:Int)(b:List UInt8):Option ((Bool×Unit)×Unit):=some (((!decide (a=1)&& !decide (a=6)),()),())
def Zb(F:Nat):a2 aU:=(Y' F).fn 35 ⟨[.a [lT,.s]],[],[lS],[],λ d=>aaQ F d.1.1.1 d.1.1.2.1⟩ λ aH aJ=>by kernel_rfl
def oP(F:Nat)(d:List ao)(e:List Int)(f:List (List ad.Field))(g:List (List (List UInt8)))(h:List (List ad.Target))(a:Int)(i:List UInt8)(b:Int)(c:List UInt8):Option ((Bool×Unit)×Unit):=cond (match true with
|true=>decide (Kind.mk a i=Kind.mk b c)
|false=>!decide (Kind.mk a i=Kind.mk b c)) (some ((true,()),())) (
cond (decide (b=6)) (some ((true,()),())) (
cond (decide (a=5)) (some (((!decide (b=1)),()),())) (
cond (decide (a=3)&&decide (b=3)) ((iD F d i).bind λ j=>
(iD F d c).bind λ k=>
(sa F (bE.mk d e f g h) j k).bind λ l=>
cond l (some ((true,()),())) (
cond (decide (b=3)&&decide (c=[79,98,106,101,99,116])) (some (((!decide (a=1)&& !decide (a=6)),()),())) (
some ((false,()),())))) (
cond (decide (b=3)&&decide (c=[79,98,106,101,99,116])) (some (((!decide (a=1)&& !decide (a=6)),()),())) (
some ((false,()),()))))))
def Zc(F:Nat):a2 aU:=(Zb F).fn 16 ⟨[ol,.a [lT,.s],.a [lT,.s]],[],[lS],[],λ d=>oP F d.1.1.1 d.1.1.2.1 d.1.1.2.2.1 d.1.1.2.2.2.1 d.1.1.2.2.2.2.1 d.1.2.1.1 d.1.2.1.2.1 d.1.2.2.1.1 d.1.2.2.1.2.1⟩ λ aH aJ=>by kernel_rfl
def uY(F:Nat)(a:List ao)(f:List Int)(g:List (List ad.Field))(h:List (List (List UInt8)))(i:List (List ad.Target))(b:Int)(d:List UInt8)(c:Int)(e:List UInt8):Option (((Int×List UInt8×Unit)×Unit)×Unit):=(oP F a f g h i c e b d).bind λ j=>
cond j.1.1 (some (((b,d,()),()),())) (
(oP F a f g h i b d c e).bind λ k=>
cond k.1.1 (some (((c,e,()),()),())) (
cond (decide (b=3)&&decide (c=3)) ((iD F a d).bind λ l=>
(iD F a e).bind λ m=>
(xn F (bE.mk a f g h i) l m).bind λ n=>
(idx a n).bind λ o=>
some (((3,o.Name,()),()),())) (
cond (!decide (b=1)&& !decide (b=6)) (cond (!decide (c=1)&& !decide (c=6)) (some (((3,([79,98,106,101,99,116]),()),()),())) (
some (((6,([]),()),()),()))) (
some (((6,([]),()),()),())))))
def Zd(F:Nat):a2 aU:=(Zc F).fn 17 ⟨[ol,.a [lT,.s],.a [lT,.s]],[],[.a [lT,.s]],[],λ d=>uY F d.1.1.1 d.1.1.2.1 d.1.1.2.2.1 d.1.1.2.2.2.1 d.1.1.2.2.2.2.1 d.1.2.1.1 d.1.2.1.2.1 d.1.2.2.1.1 d.1.2.2.1.2.1⟩ λ aH aJ=>by kernel_rfl
end Go.Proofs.YtifhjkbiiekamaaGreatDoor
namespace a9
open Go Go.RowKit aw ad Go.ChangeMaps
section
variable{P:Program}{ops:Array Oper}{o:Oper}{rest:List Oper}{a:Act}{w w':World}{v:Value}{Q:Exit->Act->World->Prop}
theorem nr(b:o.guard=none)(hy:aS P o a w v w')(k:wpList P ops Q rest (a.put o.dst v) w'):wpList P ops Q (o::rest) a w:=by refine wpList_plain b λ d c=>?_;unfold Oper.wp;rw[show(execOp a.eval o).run P w= .ok (.value v) w' from hy];exact c _ _ k
structure Pz (w:World) (r bm since clock:Nat) (es:Array MapEntry) (acc:List MapEntry):Prop where
 it:∃ef,since<=ef/\w.heap[r]? =some (.mapIter (some bm) since ⟨acc.map (·.born)⟩ ef)
 mp:w.heap[bm]? =some (.map es clock)
theorem ake{l:List MapEntry}(h:(l.map (·.born)).Nodup):∀ {x y:MapEntry},x∈l->y∈l->x.born=y.born->x=y:=by
 induction l with
 |nil=>intro x y b;simp at b
 |cons z r g=>intro x y b hy e;rw[eZ]at h;have c:=jC.1 h;rcases cU.1 b with ex |mW;rcases cU.1 hy with d |qT;rw[ex,d];refine absurd ?_ c.1;rw[<-ex,e];exact kC (f:=(·.born)) qT;rcases cU.1 hy with d |qT;refine absurd ?_ c.1;rw[<-d,<-e];exact kC (f:=(·.born)) mW;exact g c.2 mW qT e
theorem Mq{α β:Type}{f:α->β}:∀ {l:List α},(l.map f).Nodup->l.Nodup
 |[],_=>List.nodup_nil
 |a::r,h=>by have b:=jC.1 (show(f a::r.map f).Nodup from h);exact jC.2 ⟨λ c=>b.1 (kC c),Mq b.2⟩
theorem UY:∀ {o Y:List Nat},o.Nodup->(∀a∈o,a∈Y)->o.length<=Y.length
 |[],Y,_,_=>g_ _
 |a::r,Y,c,ap=>by have c:=jC.1 c;have d:a∈Y:=ap a (by simp);have I:=UY (o:=r) (Y:=Y.erase a) c.2 λ b ag=>(List.mem_erase_of_ne λ e=>by subst e;exact c.1 ag).2 (ap b (by simp[ag]));rw[List.length_erase_of_mem d]at I;have:0<Y.length:=List.length_pos_of_mem d;simp only[dp];omega
theorem ahO{es:List MapEntry}{acc:List MapEntry}(c:(es.map (·.born)).Nodup)(g:(acc.map (·.born)).Nodup)(ap:∀e∈acc,e∈es)(h:∀e∈es,e.born∈acc.map (·.born)):acc.Perm es:=by
 have b:acc.Nodup:=Mq g;have ne:es.Nodup:=Mq c;refine(List.perm_ext_iff_of_nodup b ne).2 λ e=>⟨ap e,λ d=>?_⟩
 obtain⟨x,f,i⟩:=kg.1 (h e d);have:=ake c (ap x f) d i;exact this▸f
def NL(qd vo gD ng:Nat)(tok:Nat)(iN l9 lc jR l_:Oper)(c:Code):Code:= .block qd (.loop (.seq (.region gD #[iN,l9] false) (.seq (.cond (.tmp tok) .skip (.exit qd)) (.block vo (.seq (.region ng #[lc,jR,l_] false) c)))))
theorem iq{d:Option Nat}{v:Value}:(a.put d v).tmps.size=a.tmps.size:=by cases d<;>simp[Act.put]
theorem kf{d t:Nat}{v:Value}(h:d≠t):(a.put (some d) v).tmps.getD t undef=a.tmps.getD t undef:=by simp only[Act.put,df,d_,lG h]
theorem mL{d:Nat}{v:Value}(h:d<a.tmps.size):(a.put (some d) v).tmps.getD d undef=v:=by rw[sC h,lH rfl]
theorem nP{t:Nat}:a.eval (.tmp t)=a.tmps.getD t undef:=rfl
def oK(l:List Nat)(a a':Act):Prop:=a'.tmps.size=a.tmps.size/\a'.defers=a.defers/\∀t,t∉l->a'.tmps.getD t undef=a.tmps.getD t undef
theorem oK.refl{l:List Nat}{a:Act}:oK l a a:=⟨rfl,rfl,λ _ _=>rfl⟩
theorem oK.put{l:List Nat}{a a':Act}{d:Nat}{v:Value}(h:oK l a a')(aC:d∈l):oK l a (a'.put (some d) v):=⟨iq.trans h.1,h.2.1,λ t b=>by rw[kf (λ(e:d=t)=>b (by rw[<-e];exact aC))];exact h.2.2 t b⟩
theorem ahP{n qd vo gD ng r bm since clock ti tn tok te tk tv:Nat}{iN l9 lc jR l_:Oper}{c:Code}{es:Array MapEntry}(f:List MapEntry->Act->World->Prop)
 (qz:iN.op= .next (.tmp ti) false/\iN.dst=some tn/\iN.guard=none)(aP:l9.op= .extract (.tmp tn) 0/\l9.dst=some tok/\l9.guard=none)
 (C:lc.op= .entry (.tmp ti)/\lc.dst=some te/\lc.guard=none)(b9:jR.op= .extract (.tmp te) 0/\jR.dst=some tk/\jR.guard=none)(mN:l_.op= .assign (.tmp tk)/\l_.dst=some tv/\l_.guard=none)
 (ag:(eh tn n&&eh tok n&&eh te n&&eh tk n)=true)(bH:(!(b2 tn ti)&& !(b2 tok ti)&& !(b2 te ti)&& !(b2 tk ti)&& !(b2 tok tn)&& !(b2 tk te))=true)
 (l:∀x∈es.toList,x.born<since)(D:since<=clock)(mS:(es.toList.map (·.born)).Nodup)
 (E:∀acc a w,f acc a w->a.tmps.size=n/\a.tmps.getD ti undef= .pointer (some ⟨r,0,none⟩)/\Pz w r bm since clock es acc/\(acc.map (·.born)).Nodup/\∀e∈acc,e∈es.toList)
 (F:∀acc e a a' w w',f acc a w->e∈es.toList->e.born∉acc.map (·.born)->oK [tn,tok,te,tk,tv] a a'->(tv<n->a'.tmps.getD tv undef=e.key)->a1 [r] w w'->w'.heap.size=w.heap.size->(∃ef,since<=ef/\w'.heap[r]? =some (.mapIter (some bm) since ⟨(acc++[e]).map (·.born)⟩ ef)) ->
  c.wp P (λ x a' w'=>x= .normal/\f (acc++[e]) a' w') a' w')
 (nW:∀acc a a' w,f acc a w->acc.Perm es.toList->oK [tn,tok] a a'->Q .normal a' w)(aK:f [] a w):(NL qd vo gD ng tok iN l9 lc jR l_ c).wp P Q a w:=by
 simp only[bM,gx]at ag bH
 obtain⟨⟨⟨q,s⟩,G⟩,H⟩:=ag
 have q:tn<n:=b_ q
 have s:tok<n:=b_ s
 have G:te<n:=b_ G
 have H:tk<n:=b_ H
 obtain⟨⟨⟨⟨⟨K,L⟩,UT⟩,arw⟩,arx⟩,ary⟩:=bH
 have K:tn≠ti:=λ e=>by subst e;simp at K
 have L:tok≠ti:=λ e=>by subst e;simp at L
 have UT:te≠ti:=λ e=>by subst e;simp at UT
 obtain⟨sI,S6,S7⟩:=qz
 obtain⟨SZ,S1,S2⟩:=aP
 obtain⟨M,N,O⟩:=C
 obtain⟨qu,qv,qw⟩:=b9
 obtain⟨R,S,T⟩:=mN
 unfold NL
 refine wp_block (wp_loop_ghost (λ m a w=>∃acc,f acc a w/\m=es.size-acc.length) _ ⟨[],aK,rfl⟩ λ m a w hm=>?_)
 obtain⟨acc,hi,yd⟩:=hm
 obtain⟨sz,TP,⟨⟨ef,jF,t⟩,u⟩,aL,ap⟩:=E acc a w hi
 refine wp_seq (wp_region_list ?_)
 have g1:a.eval (.tmp ti)= .pointer (some ⟨r,0,none⟩):=TP
 rcases run_next_at (P:=P) w iN.type r bm since ef ⟨acc.map (·.born)⟩ es clock t u l jF with⟨aq,y⟩|⟨e,g,bT,A,y⟩
 ·have U:aS P iN a w (.tuple #[.bool false]) w:=by
   simp only[aS,execOp,sI,g1,Sem.run_bind,y,Result.andThen];rfl
  refine nr S7 U ?_;rw[S6];refine nr S2 (C7 (vs:=[.bool false]) (i:=0) (v:=.bool false) SZ (by rw[nP,mL (by rw[sz];exact q)]) rfl) ?_;rw[S1];have V:(((a.put (some tn) (.tuple #[.bool false])).put (some tok) (.bool false)).eval (.tmp tok))= .bool false:=by rw[nP,mL (by rw[iq,sz];exact s)]
  refine wp_seq (wp_cond_split V (λ h=>by cases h) λ _=>wp_exit ?_);simp only[Exit.then,Exit.inBlock,if_true];refine nW acc a _ w hi (ahO mS aL ap λ e g=>?_) ((oK.refl.put (by simp)).put (by simp));have qL:leftOf es ⟨acc.map (·.born)⟩= #[]:=Array.eq_empty_of_size_eq_zero aq;apply Classical.byContradiction;intro hc;have:e∈(leftOf es ⟨acc.map (·.born)⟩).toList:=by unfold leftOf;simp only[Array.toList_filter,List.mem_filter];exact⟨g,by simpa using hc⟩
  rw[qL]at this;simp at this
 ·have Kk:e∈es.toList/\e.born∉acc.map (·.born):=by
   unfold leftOf at g;simp only[Array.toList_filter,List.mem_filter]at g;exact⟨g.1,by simpa using g.2⟩
  obtain⟨sL,KJ⟩:=Kk;obtain⟨b,d⟩:∃b,b=setBlock bT r (.mapIter (some bm) since ((⟨acc.map (·.born)⟩:Array Nat).push e.born) clock):=⟨_,rfl⟩
  rw[<-d]at y;have W:bT.heap=w.heap:=by rcases A with rfl |rfl<;>rfl
  have X:r<w.heap.size:=by rcases gw r w.heap.size with h |h;exact h;rw[hA h]at t;cases t
  have Z:((⟨acc.map (·.born)⟩:Array Nat).push e.born)=⟨(acc++[e]).map (·.born)⟩:=by simp
  have qP:b.heap[r]? =some (.mapIter (some bm) since ((⟨acc.map (·.born)⟩:Array Nat).push e.born) clock):=by rw[d];simp only[setBlock,W];rw[d_,lH rfl,lH X]
  have TE:∀k,k≠r->b.heap[k]? =w.heap[k]? :=λ k ah=>by rw[d];simp only[setBlock,W];rw[d_,lG (λ e=>ah e.symm)]
  have afx:bm≠r:=λ e=>by rw[e,t]at u;cases u
  have A3:b.heap.size=w.heap.size:=by rw[d];simp[setBlock,W]
  have nU:a1 [r] w b:=⟨by rw[d];rcases A with rfl |rfl<;>rfl,by rw[d];rcases A with rfl |rfl<;>rfl,by rw[d];rcases A with rfl |rfl<;>rfl,by rw[A3];exact cS _,λ k _ ah=>TE k (by simpa using ah)⟩
  have U:aS P iN a w (.tuple #[.bool true,e.key,e.val]) b:=by simp only[aS,execOp,sI,g1,Sem.run_bind,y,Result.andThen];rfl
  refine nr S7 U ?_;rw[S6];refine nr S2 (C7 (vs:=[.bool true,e.key,e.val]) (i:=0) (v:=.bool true) SZ (by rw[nP,mL (by rw[sz];exact q)]) rfl) ?_;rw[S1];have V:(((a.put (some tn) (.tuple #[.bool true,e.key,e.val])).put (some tok) (.bool true)).eval (.tmp tok))= .bool true:=by rw[nP,mL (by rw[iq,sz];exact s)]
  refine wp_seq (wp_cond_split V (λ _=>wp_skip ?_) λ h=>by cases h);refine wp_block (wp_seq (wp_region_list ?_));obtain⟨j,B⟩:∃j,j=(a.put (some tn) (.tuple #[.bool true,e.key,e.val])).put (some tok) (.bool true):=⟨_,rfl⟩
  rw[<-B];have N6:j.tmps.size=n:=by rw[B,iq,iq,sz]
  have ahb:j.eval (.tmp ti)= .pointer (some ⟨r,0,none⟩):=by rw[B,nP,kf L,kf K];exact TP
  have afV:=run_entry_at (P:=P) b r bm since ⟨acc.map (·.born)⟩ es clock e qP (by rw[TE bm afx];exact u) sL mS;have pU:aS P lc j b (.tuple #[e.key,e.val]) b:=by simp only[aS,execOp,M,ahb,Sem.run_bind,afV,Result.andThen];rfl
  refine nr O pU ?_;rw[N];refine nr qw (C7 (vs:=[e.key,e.val]) (i:=0) (v:=e.key) qu (by rw[nP,mL (by rw[N6];exact G)]) rfl) ?_;rw[qv];refine nr T (Hf R (v:=e.key) (by rw[nP,mL (by rw[iq,N6];exact H)])) ?_;rw[S];have mT:oK [tn,tok,te,tk,tv] a (((j.put (some te) (.tuple #[e.key,e.val])).put (some tk) e.key).put (some tv) e.key):=by rw[B];exact((((oK.refl.put (by simp)).put (by simp)).put (by simp)).put (by simp)).put (by simp)
  have:=F acc e a _ w b hi sL KJ mT (λ K1=>mL (by rw[iq,iq,N6];exact K1)) nU A3 ⟨clock,D,by rw[qP,Z]⟩;refine Code.wp_mono (λ x a' w' p=>?_) this;obtain⟨rfl,p⟩:=p;refine⟨es.size- (acc++[e]).length,?_,acc++[e],p,rfl⟩;have bk:acc.length<es.size:=by
   have I:((acc++[e]).map (·.born)).Nodup:=(E _ _ _ p).2.2.2.1;have J:=UY I (Y:=es.toList.map (·.born)) λ x aa=>by obtain⟨z,aj,rfl⟩:=kg.1 aa;exact kC ((E _ _ _ p).2.2.2.2 z aj)
   simp at J;omega
  simp;omega
end
open Go Go.RowKit aw ad
section
variable{E:Env}
@[reducible] def arB{T:bD}(eS:List Nat)(bf:List cW)(pbs:List bB)(a:iV)(fn:c8 T.El bf×ct T.El pbs->Option (zx T.El a)):hb T:=⟨eS,bf,pbs,[a],λ _ d=>fn d⟩
end
section
variable{E:Env}{a4:dW E}{W:World}{au:List Nat}{X:Nat->Prop}{n:cm}{b0:List (az E.T.El)}{ρ0:List Value}{w0:World}{ops:Array Oper}{Q:Exit->Act->World->Prop}
theorem FM(j:cJ E)(m:gH E a4){b:List Oper}:∀(os:List Oper){s:dg E.T.El}{t:b1 E.T.El}{ρ:List Value}{a:Act}{w:World},(opsL E a4 ops n.n os s).out t->t.x= .nm->dw E W au X n b0 ρ0 w0 s ρ a w->(∀ρ' a' w',dw E W au X n b0 ρ0 w0 t.s ρ' a' w'->wpList E.P ops Q b a' w')->wpList E.P ops Q (os++b) a w
 |[],s,t,ρ,a,w,e,_,h,k=>by have e:(⟨.nm,s⟩:b1 E.T.El)=t:=e;subst e;exact k ρ a w h
 |o::r,s,t,ρ,a,w,e,i,h,k=>by
  simp only[opsL]at e;show wpList E.P ops Q (o::(r++b)) a w
  split at e
  ·obtain⟨q,I,J⟩:=D.fc e;rw[nc]at J;obtain⟨d,aC,u,p,hy⟩:=MO (ops:=ops) j h.r I;have next:=FM j m r J i (ρ:=ρ) (a:=a.put (some d) u) (w:=w) ⟨p,h.to,h.wr⟩ k
   refine wpList_step λ K v=>?_;rcases hy with⟨f,hy⟩|⟨f,hy⟩
   ·rw[lH f];unfold Oper.wp;rw[show(execOp a.eval o).run E.P w=_ from hy.now];show K (a.put o.dst u) w
    rw[aC];exact v _ _ next
   ·rw[lG (by simp[f]),aC,<-hy];exact v _ _ next
  ·exact e.elim
  ·obtain⟨c,I,J⟩:=D.fc e;have g:=O5 j m h.r I
   have g:=g (wpList E.P ops Q (r++b)) Q λ ρ' a' w' p x f _=>by
    have ap:=h.next p x f;cases l:c.x with
    |nm=>rw[l]at J;simp only[nc,wE]at J;exact FM j m r J i ap k
    |ex id=>rw[l]at J;have J:(⟨.ex id,c.s.f,c.s.bl,c.s.ws++s.ws⟩:b1 E.T.El)=t:=J;subst J;cases i
    |rt=>rw[l]at J;have J:(⟨.rt,c.s.f,c.s.bl,c.s.ws++s.ws⟩:b1 E.T.El)=t:=J;subst J;cases i
    |eR y=>rw[l]at J;have J:(⟨.eR y,c.s.f,c.s.bl,c.s.ws++s.ws⟩:b1 E.T.El)=t:=J;subst J;cases i
   unfold wpList;split;rename_i f;rw[lH f]at g;exact .inl g;rename_i f;rw[lG f]at g;exact g
def Hw(E:Env):dW E:=λ _ _ _=>.no
theorem Sd:gH E (Hw E):=⟨λ _ _ _ _ h=>h.elim⟩
end
structure uE where
 NM:Nat
 ops:Array Oper
 qd:Nat
 vo:Nat
 gD:Nat
 ng:Nat
 tok:Nat
 iN:Oper
 l9:Oper
 lc:Oper
 jR:Oper
 l_:Oper
 oU:Nat
 BL:Array Oper
 ia:Nat
 yU:Array Oper
def uE.x(d:uE):Code:=.seq (.region d.NM d.ops false) (NL d.qd d.vo d.gD d.ng d.tok d.iN d.l9 d.lc d.jR d.l_ (.region d.oU d.BL false))
def uE.r(d:uE):Code:=.region d.ia d.yU false
def FQ:Code->Code->Option uE
 | .seq (.region NM ops false) (.block qd (.loop (.seq (.region gD ⟨[iN,l9]⟩ false) (.seq (.cond (.tmp tok) .skip (.exit a)) (.block vo (.seq (.region ng ⟨[lc,jR,l_]⟩ false) (.region oU BL false))))))),.region ia yU false=>match b2 qd a with
   |true=>some ⟨NM,ops,qd,vo,gD,ng,tok,iN,l9,lc,jR,l_,oU,BL,ia,yU⟩
   |false=>none
 |_,_=>none
theorem aky{x r:Code}{d:uE}(h:FQ x r=some d):x=d.x/\r=d.r:=by unfold FQ at h;split at h;split at h;rename_i ag;cases h;rw[<-a8 ag];exact⟨rfl,rfl⟩;cases h;cases h
def l3(e:MapEntry):Int:=match e.key with
 | .int _ x=>x
 |_=>0
def mM{El:Nat->Type}(f:cf El)(s:Nat):Option Value:=match dk f.aQ s with
 |some (.p v)=>some v
 |_=>none
section
variable{T:bD}{W w w':World}{au:List Nat}{X:Nat->Prop}{bl bl':List (az T.El)}{ρ ρ':List Value}
theorem Mem.adL{M:List Nat}(h:Mem T W au X bl ρ w)(h':Mem T W au X bl' ρ' w')(ap:w.heap.size<=w'.heap.size)(ag:∀k,k<w.heap.size->k∉M->w'.heap[k]? =w.heap[k]?):a1 M w w':=⟨h'.bO.os.trans h.bO.os.symm,h'.bO.tape.trans h.bO.tape.symm,h'.bO.output.trans h.bO.output.symm,ap,ag⟩
end
section
variable{E:Env}
structure oD (T:bD) where
 bf:List cW
 pbs:List bB
 R:Type
 v:R->Value
 Lj:Value->Option R
 fn:c8 T.El bf×ct T.El pbs->Option R
def oD.run(E:Env)(c:oD E.T)(ys:List (aE E.T.El))(bl:List (az E.T.El)):D (eX E.T.El):=match gl [] c.bf c.pbs bl ys with
 |(a,b)=>match gY a [] false c.bf c.pbs b with
  |some (d,_)=>.op (c.fn d) λ x=>.ok ⟨.ret (.p (c.v x)),a,[]⟩
  |none=>.no
def oD.fin{T:bD}(c:oD T)(r:eX T.El):Option c.R:=match r.e,r.ws with
 | .ret (.p u),[]=>c.Lj u
 |_,_=>none
def oD.Eq(E:Env)(a4:dW E)(LE:ig E)(f:Nat)(c:oD E.T):Prop:=∀(aH:c8 E.T.El c.bf)(aJ:ct E.T.El c.pbs),(kP E a4 LE f (fq id (cl false c.pbs) c.bf aH) (bA id (cl false c.pbs) false c.pbs aJ)).run c.fin=c.fn (aH,aJ)
theorem abL{f:Nat}{a4:dW E}{LE:ig E}(p:cJ E)(q:gH E a4)(ec:oJ E LE)(s:iA E){c:oD E.T}(hi:∀u x,c.Lj u=some x->u=c.v x)(t:c.Eq E a4 LE f):jt E f (c.run E):=by
 intro ys y r b W au X ρ0 w vs z A B;unfold oD.run at b;cases m:gl [] c.bf c.pbs y ys with
 |mk bl T=>
 rw[m]at b;obtain⟨ρ,j,n,C⟩:=vv z m B;simp only at b;split at b
 ·rename_i d sel fl;obtain⟨aH,aJ⟩:=d;obtain⟨x,I,J⟩:=b;have J:(⟨.ret (.p (c.v x)),bl,[]⟩:eX E.T.El)=r:=J;subst J;obtain⟨ap,_,F⟩:=sD j vm fl;obtain⟨G,H⟩:=F (aY (iE X bl ρ sel) (bA id (cl false c.pbs) false c.pbs aJ) (gp ρ sel) w) λ k a=>ap.tS a;have o:=ap.enter j H;obtain⟨cE,K,h⟩:=D.rG ((t aH aJ).trans I);have L:=(A.to n).enter s λ k a=>ap.tS a;have hc:=((Eb p q ec).ok _ _ _ _ K).2 _ _ _ _ _ vs o L (G vs C);refine hc.mono λ e w' M=>?_;obtain⟨U,fK,N,O,g⟩:=M;unfold oD.fin at h;split at h
  ·rename_i u P Q;have R:=hi _ _ h;subst R;have l:a1 [] w w':=o.adL fK N.sz λ k a _=>O k a λ i hi=>by rw[Q]at hi;simp at hi
   refine⟨ρ,j.ez l,n.trans (Mem.Cu l),λ k a _=>l.block k a (by simp),?_⟩;rw[P]at g;cases e with
   |returned v=>
    simp only[sd,ar]at g;have S:ar E.T (aY X bl ρ w') w' ρ bl (.p (c.v x)) v:=by simp only[ar];exact g
    exact S
   |panicked _=>exact g.elim
   |_=>exact g.elim
  ·cases h
 ·exact b.elim
def a2.rd(s:a2 E)(f:Nat)(c:oD E.T)(a:c.Eq E s.t.a4 s.t.LE f)(hi:∀u x,c.Lj u=some x->u=c.v x)(b:eE E.b3 f=true:=by kernel_rfl):a2 E:=⟨s.t.f f (c.run E),λ h=>(s.ok h).oR b (abL h (lP h (s.ok h).ce (s.ok h).le 100) (s.ok h).le s.eg hi a),s.eg⟩
theorem dM.dR.aea{t:dM E}(b:cJ E)(h:t.dR){f:Nat}(d:eE E.b3 f=true){c:hg E.T}(hc:jt E f (c.run E)):(t.z_ f c).dR:=by refine h.oR d λ ys bl r a=>?_;split at a;exact hc ys bl r a;exact((lP b h.ce h.le 100).ok f ys bl r a).2
def a2.dD(s:a2 E)(f:Nat)(c:hg E.T)(hc:jt E f (c.run E))(a:eE E.b3 f=true:=by kernel_rfl):a2 E:=⟨s.t.z_ f c,λ h=>(s.ok h).aea h a hc,s.eg⟩
structure Dk (T:bD) where
 eS:List Nat
 bf:List cW
 pbs:List bB
 out:Nat
 R:Type
 v:R->Value
 fn:c8 T.El bf×ct T.El pbs->Option R
def Dk.run(E:Env)(c:Dk E.T)(s:dg E.T.El):D (b1 E.T.El):=match ma E s.bl s.f [] (c.eS.map .tmp)with
 |some ys=>match gl [] c.bf c.pbs s.bl ys with
  |(a,b)=>match gY a [] false c.bf c.pbs b with
   |some (d,_)=>.op (c.fn d) λ x=>.ok ⟨.nm,⟨⟨[(c.out,.p (c.v x))],[],[]⟩,a,s.ws⟩⟩
   |none=>.no
 |none=>.no
def Dk.Dl(E:Env)(n:cm)(c:Dk E.T)(x r:Code):Prop:=
 ∀aH aJ ia,c.fn (aH,aJ)=some ia->∀(W:World)(au:List Nat)(X:Nat->Prop)(ρ:List Value)(a:Act)(w:World),a.tmps.size=n.n->a.defers=n.ds->Told E W au X c.eS c.bf c.pbs aH aJ ρ a w false ->
  ∀(b:Code)(Q:Exit->Act->World->Prop),(∀(a':Act)(w':World),a'.tmps.size=n.n->a'.defers=n.ds->a'.tmps.getD c.out undef=c.v ia->a1 [] w w'->b.wp E.P Q a' w')->(Code.seq x (.seq r b)).wp E.P Q a w
end
end a9
namespace aw
open Go Go.RowKit ad
def lM(f:Nat)(cs:List Value):Deferred:={ target:=.fn (.func f) cs.toArray,args:=#[] }
theorem ac8{P:Program}{f:FuncId}{fn:Func}{c:Code}{vs:List Value}{w:World}{R:Ending->World->Prop}{n:Nat}
 (b:P.funcs[f]? =some fn)(ag:fn.body=some c)(d:fn.ntmps=n)(e:hR vs.length n=true)
 (h:∀a,Fr ⟨n,[]⟩ (mH 0 vs) a->c.wp P (bodyPostD P fn R) a w):Calls P f vs.toArray w R:=by
 refine calls_of_wp_defers b ag ?_
 rw[d]
 exact h _ (Fr.init vs n e)
section
variable{P:Program}{ops:Array Oper}{Q:Exit->Act->World->Prop}{a:Act}{w:World}{rest:List Oper}{o:Oper}{l:List (Nat×Value)}{fn:Func}{R:Ending->World->Prop}{m:Nat}
theorem ahJ{f:Nat}{cs:List Value}(b:∀args w,(callFunc f args).run P w= .ok (.enter f args) w):(invoke (.fn (.func f) cs.toArray) #[]).run P w= .ok (.enter f cs.toArray) w:=by simp[invoke,b]
theorem wG{Q:Exit->Act->List Frame->World->Prop}{cs:List Frame}:∀(os:List Oper)(is:List Nat),is.map (λ i=>ops[i]?)=os.map some->(¬LetsOut λ e a w=>Q e a cs w)->∀a w,wpList P ops (λ e a w=>Q e a cs w) os a w->wpOpsS P ops Q is a cs w
 |[],[],_,_,a,w,h=>h
 |[],_::_,e,_,_,_,_=>by simp at e
 |_::_,[],e,_,_,_,_=>by simp at e
 |o::os,i::is,e,b,a,w,h=>by
  simp only[eZ,hH]at e;simp only[wpOpsS,e.1];unfold wpList at h;split at h
  ·rename_i j;rw[lH j];rcases h with h |h
   ·unfold Oper.wp at h;generalize(execOp a.eval o).run P w=r at h;cases r with
    |ok k w'=>
     cases k with
     |recover=>exact h.elim
     |value v=>exact wG os is e.2 b _ _ h
     |skip=>exact wG os is e.2 b _ _ h
     | «defer» d=>exact wG os is e.2 b _ _ h
     |enter f args=>exact Calls.mono h (λ e' w'' g=>by cases e' with
      |returned v=>exact wG os is e.2 b _ _ g
      |panicked c=>exact g
      |outgrown=>exact absurd g b)
     |row n args=>exact Rows.mono h (λ v w'' g=>wG os is e.2 b _ _ g)
     |_=>exact h.elim
    |halt x w'=>cases x with
     |panic v=>exact h
     |_=>exact h.elim
   ·exact absurd h.2 b
  ·rename_i j;rw[lG j];exact wG os is e.2 b _ _ h
theorem w2{n p:Exit->Act->World->Prop}(b:∀e a w,n e a w->p e a w):∀(os:List Oper)(a:Act)(w:World),wpList P ops n os a w->wpList P ops p os a w
 |[],a,w,h=>b _ _ _ h
 |o::os,a,w,h=>by
  unfold wpList at h⊢;split
  ·rename_i i;rw[lH i]at h;rcases h with h |h
   ·left;unfold Oper.wp at h⊢;generalize(execOp a.eval o).run P w=r at h⊢;cases r with
    |ok q w'=>
     cases q with
     |value v=>exact w2 b os _ _ h
     |skip=>exact w2 b os _ _ h
     | «defer» d=>exact w2 b os _ _ h
     |enter f args=>exact Calls.mono h (λ e' w'' g=>by cases e' with
      |returned v=>exact w2 b os _ _ g
      |panicked c=>exact b _ _ _ g
      |outgrown=>obtain⟨a',j,k⟩:=g;exact⟨a',j,b _ _ _ k⟩)
     |row s args=>exact Rows.mono h (λ v w'' g=>w2 b os _ _ g)
     |_=>exact h.elim
    |halt x w'=>cases x with
     |panic v=>exact b _ _ _ h
     |_=>exact h.elim
   ·right;obtain⟨a',j,k⟩:=h.2;exact⟨h.1,a',j,b _ _ _ k⟩
  ·rename_i i;rw[lG i]at h;exact w2 b os _ _ h
theorem amA{f:FuncId}{id:Nat}{b:Oper}{os:List Oper}{c:Code}{A:Array TypeId}{d n:Nat}{vs:List Value}{v:Value}{u j:FrameMode}(B:P.funcs[f]? =some fn)(ag:fn.body=some (.seq (.region id (b::os).toArray false) c))(C:fn.ntmps=n)
 (D:hR vs.length n=true)(E:b.op= .call { callee:=.builtin .recover,args:=#[],argTypes:=A })(F:b.guard=none)(aC:b.dst=some d)(G:eh d n=true)
 (H:∀(g:Frame)(cs:List Frame),g.mode=u->(recoverD (g::cs)=none/\v= .nilIface/\j=u)\/recoverD (g::cs)=some (v,{ g with mode:=j }::cs))(x:∀w,¬R .outgrown w)
 (h:∀a,Fr ⟨n,[]⟩ ((d,v)::mH 0 vs) a->wpList P (b::os).toArray (λ e a w=>e= .normal/\c.wp P (bodyPost P fn R) a w) os a w):CallsD P f vs.toArray u w λ e k w'=>k=j/\R e w':=by
 refine callsD_of_wpS B ag λ g cs hc=>?_
 rw[C]
 refine wpS_seq (wpS_region ?_)
 have K:fe (b::os).toArray.size=0::(fe os.length).map (·+1):=by simp[List.range_succ_eq_map]
 rw[K]
 have L:=Fr.init vs n D
 have p:∀y,Region.wanted b y=true:=λ y=>by simp[Region.wanted,F]
 have r:∀ρ w,(execOp ρ b).run P w= .ok .recover w:=λ ρ w=>by simp[execOp,E,resolve,invoke,builtin]
 have s:((fe os.length).map (·+1)).map (λ i=>(b::os).toArray[i]?)=os.map some:=by apply jO;intro i;simp only[List.map_map,kc,Function.comp];rcases gw i os.length with z |x9;simp[List.getElem?_range z,bx z];rw[gM (by simpa using x9),gM x9];rfl
 have go:∀t,(∃q,t= { g with mode:=q }::cs/\q=j)->wpOpsS P (b::os).toArray (Exit.thenS (c.wpS P (bodyPostS P fn g cs λ e k w'=>k=j/\R e w')) (bodyPostS P fn g cs λ e k w'=>k=j/\R e w')) ((fe os.length).map (·+1))
  (({ tmps:=vs.toArray++Array.replicate (n-vs.toArray.size) undef,defers:=[] }:Act).put b.dst v) t w:=by
  rintro t ⟨q,rfl,rfl⟩
  refine wG os _ s ?_ _ _ (w2 ?_ os _ _ (h _ (by rw[aC];exact L.put G)))
  ·rintro⟨a',w',I⟩;obtain⟨_,J⟩:=I;exact x _ J.2
  ·rintro e a' w' ⟨rfl,I⟩;refine wpS_of_wp (wp_mono I ?_);intro e M w'' J;cases e with
   |normal=>exact⟨J.1,q,rfl,J.2.choose,J.2.choose_spec.1,rfl,J.2.choose_spec.2⟩
   |ret=>exact⟨J.1,q,rfl,J.2.choose,J.2.choose_spec.1,rfl,J.2.choose_spec.2⟩
   |panic oV=>exact⟨J.1,q,rfl,rfl,J.2⟩
   |outgrown=>exact absurd J (x _)
   |exit i=>exact J
   |goto i=>exact J
 simp only[wpOpsS]
 rw[show(b::os).toArray[0]? =some b from rfl]
 simp only[p,if_true,r]
 rcases H g cs hc with⟨I,rfl,rfl⟩|I
 ·rw[I];exact go _ ⟨j,by rw[<-hc],rfl⟩
 ·rw[I];exact go _ ⟨j,rfl,rfl⟩
theorem V_(b:Frame)(cs:List Frame)(h:b.mode= .returning):recoverD (b::cs)=none:=by simp[recoverD,h]
end
end aw
namespace a9
open Go Go.RowKit aw ad
def Cp:List Oper->Option (List Oper×Operand×List Oper)
 |[]=>none
 |o::r=>match o.op,o.dst,o.guard with
  | .defer ⟨.value a,⟨[]⟩,_⟩,none,none=>some ([],a,r)
  |_,_,_=>match Cp r with
   |some (p,a,q)=>some (o::p,a,q)
   |none=>none
theorem Wr:∀ {l p q:List Oper}{b:Operand},Cp l=some (p,b,q)->∃o a,l=p++o::q/\o.op= .defer { callee:=.value b,args:=#[],argTypes:=a }/\o.dst=none/\o.guard=none
 |[],p,q,b,h=>by simp[Cp]at h
 |o::r,p,q,b,h=>by unfold Cp at h;split at h;rename_i c a I J d;simp only[aM,cv]at h;obtain⟨rfl,rfl,rfl⟩:=h;exact⟨o,a,rfl,I,J,d⟩;split at h;rename_i oi c i f;simp only[aM,cv]at h;obtain⟨rfl,rfl,rfl⟩:=h;obtain⟨g,a,e,I⟩:=Wr f;exact⟨g,a,by rw[e];rfl,I⟩;cases h
def NE:Code->Option (Nat×Array Oper×List Oper×Code)
 | .seq (.region _ ⟨o::os⟩ false) c=>match o.op,o.dst,o.guard with
   | .call ⟨.builtin .recover,⟨[]⟩,_⟩,some d,none=>some (d,⟨o::os⟩,os,c)
   |_,_,_=>none
 |_=>none
theorem amz{b c:Code}{d:Nat}{ops:Array Oper}{os:List Oper}(h:NE b=some (d,ops,os,c)):∃id o a,b= .seq (.region id ops false) c/\ops=(o::os).toArray/\o.op= .call { callee:=.builtin .recover,args:=#[],argTypes:=a }/\o.dst=some d/\o.guard=none:=by unfold NE at h;split at h;rename_i id o e g;split at h;rename_i a d' I J f;simp only[aM,cv]at h;obtain⟨rfl,rfl,rfl,rfl⟩:=h;exact⟨id,o,a,rfl,rfl,I,J,f⟩;cases h;cases h
section
variable(E:Env)(a4:dW E)(LE:ig E)
def xK(h:Nat)(cs:List (aE E.T.El))(v:aE E.T.El)(bl:List (az E.T.El)):D (List (az E.T.El)×List Nat):=match eE E.b3 h,E.P.funcs[h]? with
 |true,some fn=>match fn.body,hR cs.length fn.ntmps,fn.results with
  |some b,true,⟨[]⟩=>match NE b with
   |some (d,ops,os,c)=>match eh d fn.ntmps with
    |true=>(opsL E a4 ops fn.ntmps os ⟨⟨(d,v)::oZ 0 cs,[],[]⟩,bl,[]⟩).bind λ t=>match t.x with
     | .nm=>(den E a4 (LE h) fn.ntmps c t.s).bind λ a=>match a.x with
       | .nm=>.ok (a.s.bl,a.s.ws)
       | .rt=>.ok (a.s.bl,a.s.ws)
       |_=>.no
     |_=>.no
    |false=>.no
   |none=>.no
  |_,_,_=>.no
 |_,_=>.no
def DU(rs:List ResultVar)(h:Nat)(cs:List (aE E.T.El))(ws:List Nat)(t:b1 E.T.El):D (eX E.T.El):=match t.x with
 | .ex _=>.no
 | .eR y=>(xK E a4 LE h cs y t.s.bl).bind λ q=>match rD E ⟨t.s.f,q.1,[]⟩ rs with
   |some ys=>.ok ⟨.ret (jT ys),q.1,q.2++(t.s.ws++ws)⟩
   |none=>.no
 |_=>(xK E a4 LE h cs (.p .nilIface) t.s.bl).bind λ q=>match rD E ⟨t.s.f,q.1,[]⟩ rs with
  |some ys=>.ok ⟨.ret (jT ys),q.1,q.2++(t.s.ws++ws)⟩
  |none=>.no
def Jb(d:js E):dW E:=λ g ys bl=>match eE E.b3 g,E.P.funcs[g]? with
 |true,some fn=>match fn.body,hR ys.length fn.ntmps with
  |some (.seq x (.seq (.region _ ops false) c)),true=>match Cp ops.toList with
   |some (pre,e,post)=>(den E a4 (λ _=>none) fn.ntmps x ⟨⟨oZ 0 ys,[],[]⟩,bl,[]⟩).bind λ b=>match b.x with
    | .nm=>(opsL E a4 ops fn.ntmps pre b.s).bind λ t=>match t.x with
     | .nm=>match cq E t.s.bl t.s.f [] e with
       |some (.f (.func h) cs)=>(opsL E a4 ops fn.ntmps post ⟨t.s.f,t.s.bl,[]⟩).bind λ a=>match a.x with
        | .nm=>(den E a4 d fn.ntmps c a.s).bind (DU E a4 LE fn.results.toList h cs t.s.ws)
        |_=>DU E a4 LE fn.results.toList h cs t.s.ws a
       |_=>.no
     |_=>.no
    |_=>.no
   |none=>.no
  |_,_=>.no
 |_,_=>.no
end
theorem ab8{P:Program}{fn:Func}{R:Ending->World->Prop}{a:Act}{w:World}{f:Nat}{cs:List Value}{d:FrameMode}{S:World->Prop}(u:FrameMode)(x:Exit)(g:(x= .ret/\u= .returning)\/(x= .normal/\u= .returning)\/(∃c,x= .panic c/\u= .panicking c))(ap:settle d= .returning)(aC:a.defers=[lM f cs])
 (h:∀args w,(callFunc f args).run P w= .ok (.enter f args) w)(i:CallsD P f cs.toArray u w (λ e b w'=>b=d/\(e= .returned (.tuple #[])/\S w')))
 (k:∀w',S w'->bodyPost P fn R .ret { a with defers:=[] } w'):bodyPostD P fn R x a w:=by
 have key:Leaves P fn a.tmps R a.defers u w:=by
  rw[aC];have j:u≠ .run:=by rcases g with⟨_,rfl⟩|⟨_,rfl⟩|⟨c,_,rfl⟩<;>simp
  refine leaves_cons j (ahJ h) (i.mono ?_);rintro e b w' ⟨rfl,rfl,l⟩;have:=k w' l;show Leaves P fn a.tmps R [] (settle b) w'
  rw[ap];exact this.2
 rcases g with⟨rfl,rfl⟩|⟨rfl,rfl⟩|⟨c,rfl,rfl⟩
 ·exact key
 ·exact key
 ·exact key
theorem amB{v:Value}(a:Frame)(cs:List Frame)(h:a.mode= .panicking [{ v,recovered:=false }]):recoverD (a::cs)=some (v,{ a with mode:=.panicking [{ v,recovered:=true }] }::cs):=by simp[recoverD,h]
section
variable{E:Env}{a4:dW E}{LE:ig E}{W:World}{au:List Nat}{X:Nat->Prop}
theorem abG(G:cJ E)(H:gH E a4)(ec:oJ E LE){h:Nat}{cs:List (aE E.T.El)}{y:aE E.T.El}{bl:List (az E.T.El)}{q:List (az E.T.El)×List Nat}(f:(xK E a4 LE h cs y bl).out q)
 {ρ:List Value}{w:World}{us:List Value}{v:Value}(Q:Mem E.T W au X bl ρ w)(S:iB E X bl ρ w)(K:aR E.T (aY X bl ρ w) w ρ bl cs us)(T:ar E.T (aY X bl ρ w) w ρ bl y v){u A:FrameMode}
 (U:∀(l:Frame)(cs:List Frame),l.mode=u->(recoverD (l::cs)=none/\v= .nilIface/\A=u)\/recoverD (l::cs)=some (v,{ l with mode:=A }::cs)) :
 CallsD E.P h us.toArray u w λ e V w'=>V=A/\(e= .returned (.tuple #[])/\∃ρ',Mem E.T W au X q.1 ρ' w'/\To X bl q.1 ρ ρ' w w'/\eH bl ρ w w' q.2):=by
 unfold xK at f
 split at f
 ·rename_i fn Y L;have Z:=lZ Y;split at f
  ·rename_i b ag qD EM;split at f
   ·rename_i d ops os c eL;split at f
    ·rename_i Ki;obtain⟨id,o,fh,rfl,rfl,av,aC,g2⟩:=amz eL;obtain⟨t,I,J⟩:=D.fc f;have j:=K.len;have B:=ec h fn _ Z L ag;refine amA (R:=λ e w'=>e= .returned (.tuple #[])/\∃ρ',Mem E.T W au X q.1 ρ' w'/\To X bl q.1 ρ ρ' w w'/\eH bl ρ w w' q.2) L ag rfl (by rw[j];exact qD) av g2 aC Ki U (λ w' ⟨e,_⟩=>by cases e) λ a m=>?_
     have dt:R E W au X ⟨fn.ntmps,[]⟩ ⟨(d,y)::oZ 0 cs,[],[]⟩ bl ρ a w:=⟨Q,⟨⟨m.size,m.defers,λ t z r=>by
      simp only[dk]at r;split at r;rename_i e;have:=a8 e;subst this;cases r;rw[m.get d v (by simp[dz])];exact T
      ·rename_i e;obtain⟨C,ak,al⟩:=E9 K r;rw[m.get t C (by simp only[dz,e];exact ak)]
       exact al⟩,λ p F=>by simp at F,λ p F=>by simp at F⟩,S⟩
     cases k:t.x with
     |nm=>
      rw[k]at J;obtain⟨s,ax,g⟩:=D.fc J;have fin:∀ρ' a' w',dw E W au X ⟨fn.ntmps,[]⟩ bl ρ w s.s ρ' a' w'->(⟨s.s.bl,s.s.ws⟩:List (az E.T.El)×List Nat)=q->bodyPost E.P fn (λ e w'=>e= .returned (.tuple #[])/\∃ρ',Mem E.T W au X q.1 ρ' w'/\To X bl q.1 ρ ρ' w w'/\eH bl ρ w w' q.2) .ret a' w':=λ ρ' a' w' ap e=>by
       subst e;have aQ:Fr ⟨fn.ntmps,[]⟩ [] a':=⟨ap.r.db.dX.size,ap.r.db.dX.defers,λ t v h=>by simp[dz]at h⟩
       exact NA (rs:=fn.results.toList) (by simp) aQ (vs:=[]) (by rw[EM];trivial) ⟨rfl,ρ',ap.r.mem,ap.to,ap.wr⟩
      refine yI (n:=⟨fn.ntmps,[]⟩) (b0:=bl) (ρ0:=ρ) (w0:=w) G H os I ⟨dt,.refl,.nil⟩ λ cz bP bT c0=>?_;rw[k];refine⟨rfl,i_ (n:=⟨fn.ntmps,[]⟩) (b0:=bl) (ρ0:=ρ) (w0:=w) G H c B.2.2 ax c0 λ M N O P=>?_⟩;cases x:s.x with
      |nm=>rw[x]at g;exact fin M N O P g
      |rt=>rw[x]at g;exact fin M N O P g
      |ex i=>rw[x]at g;exact g.elim
      |eR y=>rw[x]at g;exact g.elim
     |ex i=>rw[k]at J;exact J.elim
     |rt=>rw[k]at J;exact J.elim
     |eR y=>rw[k]at J;exact J.elim
    ·exact f.elim
   ·exact f.elim
  ·exact f.elim
 ·exact f.elim
theorem ad8(z:cJ E)(A:gH E a4)(ec:oJ E LE){Dq:js E}{g:Nat}(sH:∀fn x id ops c ds,E.P.funcs[g]? =some fn->fn.body=some (.seq x (.seq (.region id ops false) c))->hU E Dq ⟨fn.ntmps,ds⟩ c):jt E g (Jb E a4 LE Dq g):=by
 intro ys bl r d W au X ρ w vs hm ew aD;unfold Jb at d;split at d
 ·rename_i fn ay e1;have AC:=lZ ay;split at d
  ·rename_i x id ops c hc qD;split at d
   ·rename_i pre hZ post KY;obtain⟨o,fh,P,av,Q,S⟩:=Wr KY;obtain⟨t0,T,U⟩:=D.fc d;have B:=aD.len;refine ac8 e1 hc rfl (by rw[B];exact qD) λ a V=>?_;have dt:R E W au X ⟨fn.ntmps,[]⟩ ⟨oZ 0 ys,[],[]⟩ bl ρ a w:=⟨hm,⟨⟨V.size,V.defers,λ t y aF=>by obtain⟨v,Y,al⟩:=E9 aD aF;rw[V.get t v Y];exact al⟩,λ p Z=>by simp at Z,λ p Z=>by simp at Z⟩,ew⟩
    refine wp_seq (i_ (n:=⟨fn.ntmps,[]⟩) (b0:=bl) (ρ0:=ρ) (w0:=w) z A x (n3 (λ _=>rfl) x) T ⟨dt,.refl,.nil⟩ λ ρ0 cw w0 ag5=>G8 (λ A6=>?_) λ A6=>by
     revert U;cases hD:t0.x with
     |nm=>exact absurd hD A6
     |_=>exact λ h=>h.elim)
    rw[A6]at U;obtain⟨t,I,J⟩:=D.fc U;refine wp_seq (wp_region_list ?_);rw[P];cases l:t.x with
    |nm=>
     rw[l]at J;simp only at J;refine FM (n:=⟨fn.ntmps,[]⟩) (b0:=bl) (ρ0:=ρ) (w0:=w) z A pre I l ag5 λ G k m b=>?_;split at J
     ·rename_i h cs Aw;have Rm:=cB b.r (cur:=[]) trivial Aw;simp only[ar]at Rm;obtain⟨us,Y,al⟩:=Rm
      have H:R E W au X ⟨fn.ntmps,[lM h us]⟩ t.s.f t.s.bl G ({ k with defers:=lM h us::k.defers }:Act) m:=⟨b.r.mem,⟨⟨b.r.db.dX.size,by
       show lM h us::k.defers=[lM h us]
       rw[b.r.db.dX.defers],b.r.db.dX.get⟩,b.r.db.gs,b.r.db.du⟩,b.r.eg⟩
      have qQ:dw E W au X ⟨fn.ntmps,[lM h us]⟩ t.s.bl G m ⟨t.s.f,t.s.bl,[]⟩ G ({ k with defers:=lM h us::k.defers }:Act) m:=⟨H,.refl,.nil⟩
      refine wpList_step λ K b9=>?_;rw[lH (y_ S)];unfold Oper.wp;have e:(execOp k.eval o).run E.P m= .ok (.defer (lM h us)) m:=by simp only[execOp,av,resolve,Y,Deferred.ofValue];simp[go_sem,lM]
      rw[e];show K (({ k with defers:=lM h us::k.defers }:Act).put o.dst undef) m
      rw[Q];refine b9 _ _ ?_;have leave:∀(t':b1 E.T.El),(DU E a4 LE fn.results.toList h cs t.s.ws t').out r->∀ρ' a' w',dw E W au X ⟨fn.ntmps,[lM h us]⟩ t.s.bl G m t'.s ρ' a' w'->mz E X t'.s.bl ρ' (bodyPostD E.P fn λ e w'=>∃ρ',Mem E.T W au X r.bl ρ' w'/\To X bl r.bl ρ ρ' w w'/\eH bl ρ w w' r.ws/\sd E X r.bl ρ' w' r.e e) a' w' t'.x:=λ t' j ρ' a' w' ap=>by
       have aN:aR E.T (aY X t'.s.bl ρ' w') w' ρ' t'.s.bl cs us:=aR.later ap.to.F ap.to.L cs al
       have fin:∀(y:aE E.T.El)(v:Value)(u L:FrameMode)(x:Exit),((xK E a4 LE h cs y t'.s.bl).bind λ q=>match rD E ⟨t'.s.f,q.1,[]⟩ fn.results.toList with|some ys=>.ok ⟨.ret (jT ys),q.1,q.2++(t'.s.ws++t.s.ws)⟩|none=>.no:D (eX E.T.El)).out r->ar E.T (aY X t'.s.bl ρ' w') w' ρ' t'.s.bl y v ->
        (∀(f:Frame)(cs:List Frame),f.mode=u->(recoverD (f::cs)=none/\v= .nilIface/\L=u)\/recoverD (f::cs)=some (v,{ f with mode:=L }::cs))->settle L= .returning->((x= .ret/\u= .returning)\/(x= .normal/\u= .returning)\/(∃c,x= .panic c/\u= .panicking c)) ->
        bodyPostD E.P fn (λ e w'=>∃ρ',Mem E.T W au X r.bl ρ' w'/\To X bl r.bl ρ ρ' w w'/\eH bl ρ w w' r.ws/\sd E X r.bl ρ' w' r.e e) x a' w':=λ y v u L x d ai k1 vN l=>by
        obtain⟨q,M,C⟩:=D.fc d
        split at C
        ·rename_i dT A7;have C:(⟨.ret (jT dT),q.1,q.2++(t'.s.ws++t.s.ws)⟩:eX E.T.El)=r:=C;have af6:eE E.b3 h=true:=by unfold xK at M;split at M;assumption;exact M.elim
         refine ab8 u x l vN ap.r.db.dX.defers (z.call h (lZ af6)) (abG z A ec M ap.r.mem ap.r.eg aN ai k1) λ cC ⟨N,fJ,F,an4⟩=>?_;have H:R E W au X ⟨fn.ntmps,[]⟩ t'.s.f q.1 N ({ a' with defers:=[] }:Act) cC:=R.to (bl:=t'.s.bl) (ρ:=ρ') (w:=w') ⟨ap.r.mem,⟨⟨ap.r.db.dX.size,rfl,ap.r.db.dX.get⟩,ap.r.db.gs,ap.r.db.du⟩,ap.r.eg⟩ F fJ;obtain⟨anR,aT,aV⟩:=NI (s:=⟨t'.s.f,q.1,[]⟩) H A7;subst C;have aQ:Fr ⟨fn.ntmps,[]⟩ [] ({ a' with defers:=[] }:Act):=⟨H.db.dX.size,rfl,λ t v h=>by simp[dz]at h⟩
         exact NA (rs:=fn.results.toList) (by simp) aQ aT ⟨N,fJ,(b.to.trans ap.to).trans F,(b.wr.cc b.to ap.wr).cc (b.to.trans ap.to) an4,FP aV⟩
        ·exact C.elim
       unfold DU at j;cases O:t'.x with
       |ex i=>rw[O]at j;exact j.elim
       |nm=>rw[O]at j;exact fin _ .nilIface .returning .returning .normal j (by simp only[ar]) (λ f cs hc=>.inl ⟨V_ f cs hc,rfl,rfl⟩) rfl (.inr (.inl ⟨rfl,rfl⟩))
       |rt=>rw[O]at j;exact fin _ .nilIface .returning .returning .ret j (by simp only[ar]) (λ f cs hc=>.inl ⟨V_ f cs hc,rfl,rfl⟩) rfl (.inl ⟨rfl,rfl⟩)
       |eR y=>rw[O]at j;intro v ai;exact fin y v (.panicking [{ v,recovered:=false }]) (.panicking [{ v,recovered:=true }]) _ j ai (λ f cs hc=>.inr (amB f cs hc)) rfl (.inr (.inr ⟨_,rfl,rfl⟩))
      obtain⟨F,ax,a5⟩:=D.fc J;refine yI (n:=⟨fn.ntmps,[lM h us]⟩) z A post ax qQ λ N c6 cC eM=>G8 (λ sS=>?_) λ sS=>?_;rw[sS]at a5;obtain⟨t3,cZ,gZ⟩:=D.fc a5;exact i_ (n:=⟨fn.ntmps,[lM h us]⟩) z A c (sH fn x id ops c _ e1 hc) cZ eM λ Pd eb hv EN=>leave t3 gZ Pd eb hv EN
      ·refine leave F ?_ N c6 cC eM;revert a5;cases ahl:F.x with
       |nm=>exact absurd ahl sS
       |_=>exact λ h=>h
     ·exact J.elim
    |ex i=>rw[l]at J;exact J.elim
    |rt=>rw[l]at J;exact J.elim
    |eR y=>rw[l]at J;exact J.elim
   ·exact d.elim
  ·exact d.elim
 ·exact d.elim
end
def Ct:Code->Code
 | .seq _ (.seq _ c)=>c
 |c=>c
def LI{E:Env}(i:Nat)(r:dg E.T.El->D (b1 E.T.El)):js E:=λ j=>match b2 j (1000000+i)with
 |true=>some r
 |false=>none
theorem aiX{E:Env}{g i:Nat}{r:dg E.T.El->D (b1 E.T.El)}{x y:Code}(a:(hG (Ct (lL E.P g))).filter (λ p=>b2 p.1 i)=[(i,x,y)])(e:lY (Ct (lL E.P g))=true)(f:∀ds,Du E ⟨ky E.P g,ds⟩ r x y) :
 ∀fn d id ops c ds,E.P.funcs[g]? =some fn->fn.body=some (.seq d (.seq (.region id ops false) c))->hU E (LI i r) ⟨fn.ntmps,ds⟩ c:=λ fn d id ops c ds h ag=>by
 have l:lL E.P g= .seq d (.seq (.region id ops false) c):=by unfold lL;rw[h];simp only;rw[ag]
 have m:ky E.P g=fn.ntmps:=by unfold ky;rw[h]
 rw[l]at a e
 rw[m]at f
 refine s3 (i:=i) (g:=r) (LE:=λ _=>none) (λ j q b=>?_) (λ n o s=>?_) e (n3 (λ _=>rfl) c)
 ·unfold LI at b;split at b;rename_i ag;cases b;exact .inl ⟨a8 ag,rfl⟩;cases b
 ·have k:(i,n,o)∈(hG c).filter (λ p=>b2 p.1 i):=List.mem_filter.2 ⟨s,by simp⟩;have a:(hG c).filter (λ p=>b2 p.1 i)=[(i,x,y)]:=a;rw[a]at k;have:=ft.1 k;cases this;exact f ds
def jN:List Int->Int->Int
 |[],n=>n
 |k::r,n=>jN r (if k<n then k else n)
theorem UI{x:Int}:∀ {l:List Int}{n:Int},jN (l++[x]) n=(if x<jN l n then x else jN l n)
 |[],n=>rfl
 |k::r,n=>by simp only[iQ,jN];exact UI
theorem aju{l l':List Int}(h:l.Perm l'):∀n,jN l n=jN l' n:=by
 induction h with
 |nil=>intro n;rfl
 |cons x _ c=>intro n;exact c _
 |swap x y l=>intro n;simp only[jN];congr 1;split<;>split<;>(first |omega |(split<;>omega))
 |trans _ _ a b=>intro n;rw[a,b]
end a9
namespace Go.Proofs.YtifhjkbiiekamaaGreatDoor
open Go Go.RowKit aw ad a9
def ny(dO:Bool):Env:=⟨aU.P,aU.T,aU.eg,dO,aU.b3,aU.iY,aU.zR⟩
theorem Rx:∀dO,cJ (ny dO)
 |true=>z3
 |false=>nN
noncomputable def tp:Code×Code:=match(hG (Ct (lL Tryz.prog 19))).filter (λ p=>b2 p.1 2)with
 |[p]=>p.2
 |_=>(.skip,.skip)
def fV:uE:=(FQ tp.1 tp.2).getD ⟨0,#[],0,0,0,0,0,default,default,default,default,default,0,#[],0,#[]⟩
theorem ajf:FQ tp.1 tp.2=some fV:=by kernel_rfl
theorem aje:(hG (Ct (lL Tryz.prog 19))).filter (λ p=>b2 p.1 2)=[(2,tp.1,tp.2)]:=by kernel_rfl
theorem ajh:lY (Ct (lL Tryz.prog 19))=true:=by kernel_rfl
theorem ajl:fV.iN.op= .next (.tmp 44) false/\fV.iN.dst=some 45/\fV.iN.guard=none:=by refine⟨?_,?_,?_⟩<;>kernel_rfl
theorem aji:fV.l9.op= .extract (.tmp 45) 0/\fV.l9.dst=some 46/\fV.l9.guard=none:=by refine⟨?_,?_,?_⟩<;>kernel_rfl
theorem ajj:fV.lc.op= .entry (.tmp 44)/\fV.lc.dst=some 47/\fV.lc.guard=none:=by refine⟨?_,?_,?_⟩<;>kernel_rfl
theorem ajk:fV.jR.op= .extract (.tmp 47) 0/\fV.jR.dst=some 48/\fV.jR.guard=none:=by refine⟨?_,?_,?_⟩<;>kernel_rfl
theorem ajm:fV.l_.op= .assign (.tmp 48)/\fV.l_.dst=some 10/\fV.l_.guard=none:=by refine⟨?_,?_,?_⟩<;>kernel_rfl
def L0:List Oper:=fV.ops.toList.take 4
def By:Oper:=(fV.ops.toList.drop 4).headD fV.iN
theorem ajn:fV.ops.toList=L0++[By]:=by kernel_rfl
theorem LZ:By.op= .range 90 (.tmp 43)/\By.dst=some 44/\By.guard=none:=by refine⟨?_,?_,?_⟩<;>kernel_rfl
def jM(i:Nat):Oper:=(fV.BL.toList.drop i).headD fV.iN
theorem ajo:fV.BL.toList=[jM 0,jM 1,jM 2,jM 3]:=by kernel_rfl
theorem LU:(jM 0).op= .move (.tmp 9)/\(jM 0).dst=some 49/\(jM 0).guard=none:=by refine⟨?_,?_,?_⟩<;>kernel_rfl
theorem LV:(jM 1).op= .move (.tmp 10)/\(jM 1).dst=some 50/\(jM 1).guard=none:=by refine⟨?_,?_,?_⟩<;>kernel_rfl
theorem LW:(jM 2).op= .call { callee:=.builtin .min,args:=#[.tmp 49,.tmp 50],argTypes:=#[3,3] }/\(jM 2).dst=some 51/\(jM 2).guard=none:=by refine⟨?_,?_,?_⟩<;>kernel_rfl
theorem LX:(jM 3).op= .assign (.tmp 51)/\(jM 3).dst=some 9/\(jM 3).guard=none:=by refine⟨?_,?_,?_⟩<;>kernel_rfl
def Bx:List Nat:=[9,10,44,45,46,47,48,49,50,51]
def minD(d:List (bc.El 3×bc.El 4))(n:Int):Int:=jN (List.map (α:=Int×Bool) Prod.fst d) n
def UC(s:dg bc.El):Option (dg bc.El):=match dk s.f.aQ 43,dk s.f.aQ 9 with
 |some (.m j),some (.p (.int .i64 n))=>match nth s.bl j with
  |some (.m 3 4 d)=>some ⟨⟨(9,.p (.int .i64 (minD d n)))::hY Bx s.f.aQ,[],[]⟩,s.bl,s.ws⟩
  |_=>none
 |_,_=>none
def UB(dO:Bool)(s:dg (ny dO).T.El):D (b1 (ny dO).T.El):=(opsL (ny dO) (Hw (ny dO)) fV.ops 65 L0 s).bind λ t=>match t.x with
 | .nm=>match UC t.s with
   |some a=>opsL (ny dO) (Hw (ny dO)) fV.yU 65 fV.yU.toList a
   |none=>.no
 |_=>.no
theorem Rw{F:Nat->Prop}{w:World}:∀ {es:List MapEntry}{d:List (Int×Bool)},gS (kt:=3) (vt:=4) bc F w sZ es d->es.map l3=d.map Prod.fst
 |[],[],_=>rfl
 |[],_::_,h=>h.elim
 |_::_,[],h=>h.elim
 |e::es,p::d,h=>by obtain⟨I,_,a⟩:=h;rw[eZ,eZ,Rw a];congr 1;unfold l3;rw[I];rfl
theorem Rv{F:Nat->Prop}{w:World}:∀ {es:List MapEntry}{d:List (Int×Bool)},gS (kt:=3) (vt:=4) bc F w sZ es d->∀e∈es,e.key= .int .i64 (l3 e)
 |[],_,_,e,he=>by simp at he
 |_::_,[],h,_,_=>h.elim
 |x::es,p::d,h,e,he=>by obtain⟨I,_,a⟩:=h;rcases cU.1 he with rfl |he;unfold l3;rw[I];rfl;exact Rv a e he
theorem ai8{α:Type}{s t:Nat}{x y:α}{r:List (Nat×α)}(h:dk ((s,x)::r) t=some y):(t=s/\y=x)\/dk r t=some y:=by simp only[dk]at h;split at h;rename_i ag;simp only[aM]at h;exact .inl ⟨(a8 ag).symm,h.symm⟩;exact .inr h
theorem amE{T:bD}{F:Nat->Prop}{w:World}{ρ:List Value}{bl:List (az T.El)}{u v:Value}(h:v=u):ar T F w ρ bl (.p u) v:=by simp only[ar];exact h
set_option maxRecDepth 100000
theorem ajv(dO:Bool)(ds:List Deferred):Du (ny dO) ⟨65,ds⟩ (UB dO) tp.1 tp.2:=by
 intro rest s t aj W au X b0 ρ0 w0 ρ a w Q h k;obtain⟨aa,aD⟩:=aky ajf;rw[aa,aD];obtain⟨t1,hq,c⟩:=D.fc aj;cases b:t1.x with
 |ex i=>rw[b]at c;exact c.elim
 |rt=>rw[b]at c;exact c.elim
 |eR y=>rw[b]at c;exact c.elim
 |nm=>
 rw[b]at c;simp only at c;split at c
 ·rename_i s1 l;unfold UC at l;split at l
  ·rename_i j n J K;split at l
   ·rename_i d Tb;rw[cH]at Tb;simp only[aM]at l;refine wp_seq (wp_seq (wp_region_list ?_));rw[ajn];refine FM (n:=⟨65,ds⟩) (Rx dO) Sd L0 hq b h λ cz u f A=>?_;have C:=A.r.db.dX.get 43 _ J;simp only[ar]at C;obtain⟨bm,dc,bp⟩:=C;have f9:u.tmps.getD 9 undef= .int .i64 n:=by simpa only[ar]using A.r.db.dX.get 9 _ K
    obtain⟨aqW,x4,L,M,es,clock,E,Tn,N,Ey⟩:=A.r.mem.ok j (.m 3 4 d) _ Tb dc;simp only[Value.map.injEq,aM]at x4;subst x4;obtain rfl:L=(sZ:gI (bc.El 3)):=by
     have O:(bc.e 3).key=some (sZ:gI (bc.El 3)):=by kernel_rfl
     exact eG (M.symm.trans O)
    have R:=Rw Tn;have mS:(es.toList.map (·.born)).Nodup:=List.nodup_iff_pairwise_ne.2 (N.imp λ h=>Nat.ne_of_lt h);have S:∀ {k:Nat}{o:Obj}{w:World},w.heap[k]? =some o->k<w.heap.size:=λ{k o w} h=>by rcases gw k w.heap.size with I |I;exact I;rw[hA I]at h;cases h
    have T:u.eval (.tmp 43)= .map (some bm):=bp;obtain⟨r,eL⟩:∃r,r=f.heap.size:=⟨_,rfl⟩
    have cF:aS (ny dO).P By u f (.pointer (some ⟨r,0,none⟩)) (f.alloc (.mapIter (some bm) clock #[] clock)):=by rw[eL];simp only[aS,execOp,LZ.1,T];rw[Sem.run_bind,run_range_map (P:=(ny dO).P) f 90 3 4 bm es clock Tryz.underlying90 E];rfl
    refine nr LZ.2.2 cF ?_;rw[LZ.2.1];refine wpList_nil ?_;obtain⟨F,U⟩:∃F,F=f.alloc (.mapIter (some bm) clock #[] clock):=⟨_,rfl⟩
    rw[<-U];have S3:a1 [] f F:=by rw[U];exact a1.alloc [] f _
    have TU:F.heap[r]? =some (.mapIter (some bm) clock #[] clock):=by rw[U,eL];exact heap_alloc_new f _
    have qP:r<F.heap.size:=S TU;have V:u.tmps.size=65:=A.r.db.dX.size;have PH:u.defers=ds:=A.r.db.dX.defers
    refine ahP (n:=65) (r:=r) (bm:=bm) (since:=clock) (clock:=clock) (ti:=44) (tn:=45) (tok:=46) (te:=47) (tk:=48) (tv:=10) (es:=es)
     (λ acc a' w'=>a'.tmps.size=65/\a'.defers=ds/\(∀t,t∉Bx->a'.tmps.getD t undef=u.tmps.getD t undef)/\a'.tmps.getD 44 undef= .pointer (some ⟨r,0,none⟩)/\Pz w' r bm clock clock es acc/\(acc.map (·.born)).Nodup/\(∀e∈acc,e∈es.toList)/\a1 [] f w'/\a'.tmps.getD 9 undef= .int .i64 (jN (acc.map l3) n))
     ajl aji ajj ajk ajm (by decide) (by decide) Ey (cS _) mS (λ acc a' w' h=>⟨h.1,h.2.2.2.1,h.2.2.2.2.1,h.2.2.2.2.2.1,h.2.2.2.2.2.2.1⟩) ?_ ?_ ?_
    ·intro acc e c6 B hv CD Y he KJ g K1 Z aro sM;obtain⟨i1,i2,i3,i4,⟨i5,arv⟩,i6,i7,i8,i9⟩:=Y;have S0:a1 [] f CD:=i8.trans Z λ x aa=>.inr (by simp at aa;omega);have t4:=K1 (by decide);rw[Rv Tn e he]at t4;have G:B.tmps.size=65:=g.1.trans i1;have eB:B.tmps.getD 9 undef= .int .i64 (jN (acc.map l3) n):=by rw[g.2.2 9 (by decide)];exact i9
     refine wp_region_list ?_;rw[ajo];refine nr LU.2.2 (Hj LU.1 (v:=.int .i64 (jN (acc.map l3) n)) eB) ?_;rw[LU.2.1];refine nr LV.2.2 (Hj LV.1 (v:=.int .i64 (l3 e)) (by rw[nP,kf (by decide)];exact t4)) ?_;rw[LV.2.1];refine nr LW.2.2 (X5 LW.1 (m:=jN (acc.map l3) n) (k:=l3 e) (by rw[nP,kf (by decide),mL (by rw[G];decide)]) (by rw[nP,mL (by rw[iq,G];decide)])) ?_;rw[LW.2.1];refine nr LX.2.2 (Hf LX.1 (v:=.int .i64 (jN ((acc++[e]).map l3) n)) (by rw[nP,mL (by rw[iq,iq,G];decide),List.map_append,List.map_singleton,UI])) ?_;rw[LX.2.1];refine wpList_nil ⟨rfl,by rw[iq,iq,iq,iq,G],g.2.1.trans i2,λ t b=>?_,?_,⟨sM,(S0.block bm (S E) (by simp)).trans E⟩,?_,?_,S0,?_⟩;have H:∀q∈Bx,q≠t:=λ q z e=>b (e▸z);rw[kf (H 9 (by decide)),kf (H 51 (by decide)),kf (H 50 (by decide)),kf (H 49 (by decide)),g.2.2 t (λ z=>b (by simp only[cU,hl,or_false]at z;rcases z with rfl |rfl |rfl |rfl |rfl<;>decide))];exact i3 t b;rw[kf (by decide),kf (by decide),kf (by decide),kf (by decide),g.2.2 44 (by decide)];exact i4;rw[List.map_append,List.map_singleton];exact fL.2 ⟨i6,by simp,λ x aa y hy ak=>by simp at hy;subst hy;subst ak;exact KJ aa⟩;intro x aa;rcases de.1 aa with aa |aa;exact i7 x aa;simp at aa;subst aa;exact he;exact mL (by rw[iq,iq,iq,G];decide)
    ·intro acc c6 B hv Y agO g;obtain⟨i1,i2,i3,i4,i5,i6,i7,i8,i9⟩:=Y
     have agx:jN (acc.map l3) n=minD d n:=by
      show _=jN (List.map (α:=Int×Bool) Prod.fst d) n
      rw[aju (agO.map l3) n,R]
     have kh:r1 Bx u B:=⟨(g.2.1.trans i2).trans PH.symm,(g.1.trans i1).trans V.symm,λ t b=>by rw[g.2.2 t (λ z=>b (by simp only[cU,hl,or_false]at z;rcases z with rfl |rfl<;>decide))];exact i3 t b⟩
     have aC:=(A.drew i8).drop kh;have eB:B.tmps.getD 9 undef= .int .i64 (minD d n):=by rw[g.2.2 9 (by decide),<-agx];exact i9
     have eM:dw (ny dO) W au X ⟨65,ds⟩ b0 ρ0 w0 s1 cz B hv:=by subst l;refine⟨⟨aC.r.mem,⟨⟨aC.r.db.dX.size,aC.r.db.dX.defers,λ t y hy=>?_⟩,λ p aB=>absurd aB hl,λ p aB=>absurd aB hl⟩,aC.r.eg⟩,aC.to,aC.wr⟩;rcases ai8 hy with⟨rfl,rfl⟩|hy;exact amE eB;exact aC.r.db.dX.get t y hy
     exact wp_seq (wp_region_list (yI (n:=⟨65,ds⟩) (Rx dO) Sd fV.yU.toList c eM k))
    ·refine⟨by rw[iq,V],PH,λ t b=>kf (λ e=>b (e▸(by decide:44∈Bx))),mL (by rw[V];decide),⟨⟨clock,cS _,TU⟩,(S3.block bm (S E) (by simp)).trans E⟩,by simp,by simp,S3,?_⟩;rw[kf (by decide),f9];rfl
   ·cases l
  ·cases l
 ·exact c.elim
set_option maxRecDepth 100000
@[reducible] def yo:hg bc:=⟨[],[],[.p .b],[],Bool,λ _=>some true,λ _ r=>((r,()),())⟩
def W3:dW iT:=xW iT (zv 2000).t.iS (λ _ _=>none) 100
def GI:xd iT:=λ g=>match b2 g 19 with
 |true=>some (Jb iT W3 (λ _ _=>none) (LI 2 (UB true)) 19)
 |false=>(zv 2000).t.iS g
theorem Qr(g:Nat)(h:List (aE bc.El)->List (az bc.El)->D (eX bc.El)):jt aU g h=jt iT g h:=by kernel_rfl
theorem Fc:oJ iT (λ _ _=>none):=λ g fn c _ _ _=>n3 (λ _=>rfl) c
theorem fs:ky iT.P 19=65:=by kernel_rfl
theorem anN:Dj iT GI:=by
 have hc:=((zv 2000).ok nN).ce;have b:Dj iT (zv 2000).t.iS:=⟨hc.b3,λ g h a=>(Qr g h)▸hc.ok g h a⟩
 have c:gH iT W3:=lP z3 b Fc 100;refine⟨λ g h a=>?_,λ g h a=>?_⟩;unfold GI at a;split at a;rename_i ag;rw[a8 ag];exact lZ (by kernel_rfl);exact b.b3 g h a;unfold GI at a;split at a;rename_i ag;rw[a8 ag];simp only[aM]at a;subst a;exact ad8 z3 c Fc (aiX aje ajh λ ds=>by rw[fs];exact ajv true ds);exact b.ok g h a
theorem ac5:yo.Eq iT (xW iT GI (λ _ _=>none) 100) (λ _ _=>none) 9:=λ aH aJ=>by kernel_rfl
theorem abu:jt iT 9 (yo.run iT):=λ ys bl r a=>zZ z3 (lP z3 anN Fc 100) Fc aew (c:=yo.gV) (e6.Eq.v ac5) ys bl r (yX a)
theorem amV:yo.run aU=yo.run iT:=by kernel_rfl
def zw(F:Nat):a2 aU:=(Zd F).add 9 (yo.run aU) (amV▸(Qr 9 _)▸abu)
set_option maxRecDepth 100000
def zA(F:Nat)(c:List ao)(d:List Int)(e:List (List ad.Field))(f:List (List (List UInt8)))(g:List (List ad.Target))(j:Int)(k:List UInt8)(h:Int)(i:List UInt8):Option ((Bool×Unit)×Unit):=(Oj F c d e f g j k h i).bind λ b=>
(Ok F c d e f g j k h i).bind λ a=>
(xr F (bE.mk c d e f g)).bind λ l=>
cond (decide (l=0)) ((xq F c d e f g j k).bind λ m=>
cond (decide (m.1.1=0)) ((xq F c d e f g h i).bind λ CH=>
cond (decide (CH.1.1=0)) ((oP F c d e f g j k h i).bind λ s=>
(uY F c d e f g j k h i).bind λ o=>
some (((true&&decide (b.1.2.1=CH.1.1)&&decide (a.1.2.1=CH.1.1)&&b.1.1==s.1.1&&
 match true with
 |true=>decide (Kind.mk a.1.1.1 a.1.1.2.1=Kind.mk o.1.1.1 o.1.1.2.1)
 |false=>!decide (Kind.mk a.1.1.1 a.1.1.2.1=Kind.mk o.1.1.1 o.1.1.2.1)),()),())) (
some (((true&&decide (b.1.2.1=CH.1.1)&&decide (a.1.2.1=CH.1.1)&&b.1.1==false&&
 match true with
 |true=>decide (Kind.mk a.1.1.1 a.1.1.2.1=Kind.mk 0 [])
 |false=>!decide (Kind.mk a.1.1.1 a.1.1.2.1=Kind.mk 0 [])),()),()))) (
cond (decide (m.1.1=0)) ((oP F c d e f g j k h i).bind λ t=>
(uY F c d e f g j k h i).bind λ p=>
some (((true&&decide (b.1.2.1=m.1.1)&&decide (a.1.2.1=m.1.1)&&b.1.1==t.1.1&&
 match true with
 |true=>decide (Kind.mk a.1.1.1 a.1.1.2.1=Kind.mk p.1.1.1 p.1.1.2.1)
 |false=>!decide (Kind.mk a.1.1.1 a.1.1.2.1=Kind.mk p.1.1.1 p.1.1.2.1)),()),())) (
some (((true&&decide (b.1.2.1=m.1.1)&&decide (a.1.2.1=m.1.1)&&b.1.1==false&&
 match true with
 |true=>decide (Kind.mk a.1.1.1 a.1.1.2.1=Kind.mk 0 [])
 |false=>!decide (Kind.mk a.1.1.1 a.1.1.2.1=Kind.mk 0 [])),()),())))) (
cond (decide (l=0)) ((xq F c d e f g h i).bind λ n=>
cond (decide (n.1.1=0)) ((oP F c d e f g j k h i).bind λ u=>
(uY F c d e f g j k h i).bind λ q=>
some (((true&&decide (b.1.2.1=n.1.1)&&decide (a.1.2.1=n.1.1)&&b.1.1==u.1.1&&
 match true with
 |true=>decide (Kind.mk a.1.1.1 a.1.1.2.1=Kind.mk q.1.1.1 q.1.1.2.1)
 |false=>!decide (Kind.mk a.1.1.1 a.1.1.2.1=Kind.mk q.1.1.1 q.1.1.2.1)),()),())) (
some (((true&&decide (b.1.2.1=n.1.1)&&decide (a.1.2.1=n.1.1)&&b.1.1==false&&
 match true with
 |true=>decide (Kind.mk a.1.1.1 a.1.1.2.1=Kind.mk 0 [])
 |false=>!decide (Kind.mk a.1.1.1 a.1.1.2.1=Kind.mk 0 [])),()),()))) (
cond (decide (l=0)) ((oP F c d e f g j k h i).bind λ v=>
(uY F c d e f g j k h i).bind λ r=>
some (((true&&decide (b.1.2.1=l)&&decide (a.1.2.1=l)&&b.1.1==v.1.1&&
 match true with
 |true=>decide (Kind.mk a.1.1.1 a.1.1.2.1=Kind.mk r.1.1.1 r.1.1.2.1)
 |false=>!decide (Kind.mk a.1.1.1 a.1.1.2.1=Kind.mk r.1.1.1 r.1.1.2.1)),()),())) (
some (((true&&decide (b.1.2.1=l)&&decide (a.1.2.1=l)&&b.1.1==false&&
 match true with
 |true=>decide (Kind.mk a.1.1.1 a.1.1.2.1=Kind.mk 0 [])
 |false=>!decide (Kind.mk a.1.1.1 a.1.1.2.1=Kind.mk 0 [])),()),()))))
@[reducible] def Lq(F:Nat):e6 bc:=⟨[.a [.l 39,.l 3,.l 36,.l 95,.l 96],.a [lT,.s],.a [lT,.s]],[],[lS],[],λ d=>zA F d.1.1.1 d.1.1.2.1 d.1.1.2.2.1 d.1.1.2.2.2.1 d.1.1.2.2.2.2.1 d.1.2.1.1 d.1.2.1.2.1 d.1.2.2.1.1 d.1.2.2.1.2.1⟩
theorem ac3(F:Nat):(Lq F).Eq aU (zw F).t.a4 (zw F).t.LE 5:=λ aH aJ=>by kernel_rfl
theorem abt(F:Nat):jt aU 5 ((Lq F).run aU):=QD nN (lP nN ((zw F).ok nN).ce ((zw F).ok nN).le 100) ((zw F).ok nN).le sE (ac3 F)
section
variable{F:Nat->Prop}{w:World}{cs:List Value}
theorem V1{d:bc.El 121}(h:(ad.hO).rd F w cs d):(bc.ty 121).rd F w cs d:=by obtain rfl:cs=_:=h;change eA (λ t=>(e7 z4 t).ty) F w [.s,.i .i64,.s] _ (d.Name,d.Kind.Kind,d.Kind.ao,());exact⟨_,_,rfl,rfl,_,_,rfl,rfl,_,_,rfl,rfl,rfl⟩
theorem V2{d:bc.El 47}(h:(ad.wU).rd F w cs d):(bc.ty 47).rd F w cs d:=by obtain rfl:cs=_:=h;change eA (λ t=>(e7 DZ t).ty) F w [.i .i64,.s] _ (d.Kind,d.ao,());exact⟨_,_,rfl,rfl,_,_,rfl,rfl,rfl⟩
theorem ame{d:bc.El 71}(h:(ad.wT).rd F w cs d):(bc.ty 71).rd F w cs d:=by obtain rfl:cs=_:=h;change eA (λ t=>(e7 D2 t).ty) F w [.i .i64,.i .i64,.i .i64,.s] _ (d.From,d.To,d.dU,d.ao,());exact⟨_,_,rfl,rfl,_,_,rfl,rfl,_,_,rfl,rfl,_,_,rfl,rfl,rfl⟩
theorem amd{d:bc.El 61}(h:(ad.np).rd F w cs d):(bc.ty 61).rd F w cs d:=by obtain⟨_,_,_,_,rfl,J,a⟩:=h;change eA (λ t=>(e7 D5 t).ty) F w [.s,.b,.l 47,.i .i64,.s,.i .i64,.i .i64,.s,.l 71] _ (d.Name,d.Static,d.cg,d.Returns.Kind,d.Returns.ao,d.fP,d.fO,d.Code,d.ck,());exact⟨_,_,rfl,rfl,_,_,rfl,rfl,_,_,rfl,iP (λ _ _=>V2) J,_,_,rfl,rfl,_,_,rfl,rfl,_,_,rfl,rfl,_,_,rfl,rfl,_,_,rfl,rfl,_,_,rfl,iP (λ _ _=>ame) a,rfl⟩
theorem amc{d:bc.El 39}(h:(ad.iw).rd F w cs d):(bc.ty 39).rd F w cs d:=by obtain⟨_,_,_,_,rfl,J,a⟩:=h;change eA (λ t=>(e7 D4 t).ty) F w [.s,.s,.l 121,.l 61] _ (d.Name,d.ch,d.Fields,d.a3,());exact⟨_,_,rfl,rfl,_,_,rfl,rfl,_,_,rfl,iP (λ _ _=>V1) J,_,_,rfl,iP (λ _ _=>amd) a,rfl⟩
theorem ama{d:bc.El 3}(h:((aw.eT .i64)).rd F w cs d):(bc.ty 3).rd F w cs d:=by obtain rfl:cs=_:=h;change eA (λ t=>(e7 D0 t).ty) F w [.i .i64] _ (d,());exact⟨_,_,rfl,rfl,rfl⟩
theorem amb{d:bc.El 36}(h:((bX ad.hO)).rd F w cs d):(bc.ty 36).rd F w cs d:=by obtain⟨A,c,rfl⟩:=nk h;change eA (λ t=>(e7 Iy t).ty) F w [.l 121] _ (d,());exact⟨_,_,rfl,iP (λ _ _=>V1) h,rfl⟩
theorem amf{d:bc.El 9}(h:(hN).rd F w cs d):(bc.ty 9).rd F w cs d:=by obtain rfl:cs=_:=h;change eA (λ t=>(e7 D3 t).ty) F w [.s] _ (d,());exact⟨_,_,rfl,rfl,rfl⟩
theorem amg{d:bc.El 95}(h:((bX hN)).rd F w cs d):(bc.ty 95).rd F w cs d:=by obtain⟨A,c,rfl⟩:=nk h;change eA (λ t=>(e7 Iz t).ty) F w [.l 9] _ (d,());exact⟨_,_,rfl,iP (λ _ _=>amf) h,rfl⟩
theorem al'{d:bc.El 102}(h:(ad.ix).rd F w cs d):(bc.ty 102).rd F w cs d:=by obtain rfl:cs=_:=h;change eA (λ t=>(e7 D1 t).ty) F w [.i .i64,.i .i64] _ (d.ao,d.Method,());exact⟨_,_,rfl,rfl,_,_,rfl,rfl,rfl⟩
theorem amh{d:bc.El 96}(h:((bX ad.ix)).rd F w cs d):(bc.ty 96).rd F w cs d:=by obtain⟨A,c,rfl⟩:=nk h;change eA (λ t=>(e7 Iw t).ty) F w [.l 102] _ (d,());exact⟨_,_,rfl,iP (λ _ _=>al') h,rfl⟩
end
section
variable{W:World}{bu:Nat}{cs:Array Value}{p:List MemPlace}
theorem fF:Tryz.prog.cellsOf 3=1:=by kernel_rfl
theorem abq:Tryz.prog.cellsOf 9=1:=by kernel_rfl
theorem aiY:∀ {l:List Value},l.length=2->∃a b,l=[a,b]
 |[],h=>by simp at h
 |[_],h=>by simp at h
 |[a,b],_=>⟨a,b,rfl⟩
 |_::_::_::_,h=>by simp at h
theorem ah4{l:List Value}{K:Int}{C:List UInt8}(h:DataW.trod (λ _=>()) Tryz.prog W 0 (λ _=>true) false bu 47 l=some (.agg [.lit (.int .i64 K),.lit (.string C)],p)):l=[.int .i64 K,bW C]:=by obtain⟨g,i,n,b,c,a,I⟩:=ChangeShapes.trod_struct2 Tryz.underlying47 h;rw[zY]at c;obtain⟨ef,d,rfl⟩:=aiY c;have a:DataW.trod (λ _=>()) Tryz.prog W 0 (λ _=>true) false n 3 (([ef,d].drop 0).take (Tryz.prog.cellsOf 3))=some g:=a;have I:DataW.trod (λ _=>()) Tryz.prog W 0 (λ _=>true) false n 9 (([ef,d].drop 1).take (Tryz.prog.cellsOf 9))=some i:=I;rw[fF]at a;rw[abq]at I;obtain⟨z,e,rfl,_⟩:=DataW.trod_int Tryz.underlying3 a;obtain⟨s,f,rfl,_⟩:=DataW.trod_string Tryz.underlying9 I;simp only[cv,DataW.agg.injEq,hH,DataW.lit.injEq,Lit.int.injEq,Lit.string.injEq,true_and,and_true]at b;obtain⟨⟨rfl,rfl⟩,_⟩:=b;simp at e f;subst e f;rfl
theorem SP{g:Nat}{name:String}(a:Tryz.prog.globalNamed name=some g)(b:W.var? Tryz.prog name=some cs){l:List Value}(c:cs.toList=l):ev W ⟨g,0,none⟩ l:=λ j u d=>by have:=World.var?_cell a b j;rw[<-g5,c,d]at this;simpa using this
theorem SQ{g:Nat}{name:String}(b:Tryz.prog.globalNamed name=some g)(a:W.var? Tryz.prog name=some cs):g<W.heap.size:=by simp only[World.var?,b,ae]at a;rcases gw g W.heap.size with h |h;exact h;rw[hA h]at a;cases a
theorem V6{g:Nat}(h:g<W.heap.size):aY (λ _=>False) ([]:List (az bc.El)) [] W g:=⟨λ h=>h,λ⟨i,B,h,I,_⟩=>by simp at I,h⟩
theorem ah5{g:Nat}{name:String}{K:Int}{C:List UInt8}(a:Tryz.prog.globalNamed name=some g)(b:W.var? Tryz.prog name=some cs)(h:DataW.trod (λ _=>()) Tryz.prog W 0 (λ _=>true) false bu 47 cs.toList=some (.agg [.lit (.int .i64 K),.lit (.string C)],p)) :
 ar bc (aY (λ _=>False) ([]:List (az bc.El)) [] W) W [] [] (.x 47 ((⟨K,C⟩:ad.Kind):bc.El 47) 0) (.pointer (some ⟨g,0,none⟩)):=by
 simp only[ar]
 exact⟨g,0,_,rfl,V6 (SQ a b),V2 (d:=(⟨K,C⟩:ad.Kind)) rfl,SP a b (ah4 h)⟩
theorem T9{F:Nat->Prop}:∀ {zs:List Int},c' (bc.ty 162) F W (zs.map λ z=>Value.int .i64 z) (zs:List (bc.El 162))
 |[]=>rfl
 |z::r=>⟨[.int .i64 z],r.map λ z=>Value.int .i64 z,rfl,by change eA (λ t=>(e7 Ix t).ty) F W [.i .i64] _ ((z:Int),());exact⟨_,_,rfl,rfl,rfl⟩,T9⟩
theorem ani{g:Nat}{name:String}{zs:List Int}(a:Tryz.prog.globalNamed name=some g)(c:zs.length=37)(b:W.var? Tryz.prog name=some (zs.map λ z=>Value.int .i64 z).toArray) :
 ar bc (aY (λ _=>False) ([]:List (az bc.El)) [] W) W [] [] (.x 163 (zs:bc.El 163) 0) (.pointer (some ⟨g,0,none⟩)):=by
 simp only[ar]
 exact⟨g,0,zs.map λ z=>Value.int .i64 z,rfl,V6 (SQ a b),⟨T9,c⟩,SP a b (by simp)⟩
theorem anG:Tryz.prog.underlying 162=some (.int .i64):=by kernel_rfl
theorem anH:Tryz.prog.underlying 163=some (.array 37 162):=by kernel_rfl
abbrev Ur:List (String×DataW Unit):=[("cinder/code.shapes",Rows.laid_cinder_code_shapes),("cinder/verify.number",Rows.laid_cinder_verify_number),("cinder/verify.row",Rows.laid_cinder_verify_row),("cinder/verify.null",Rows.laid_cinder_verify_null),("cinder/verify.unknown",Rows.laid_cinder_verify_unknown),("cinder/verify.top",Rows.laid_cinder_verify_top)]
theorem SR:Tryz.prog.globalNamed "cinder/code.shapes" =some 4:=by kernel_rfl
theorem aez:Tryz.prog.globalNamed "cinder/verify.number" =some 2:=by kernel_rfl
theorem aeB:Tryz.prog.globalNamed "cinder/verify.row" =some 5:=by kernel_rfl
theorem aey:Tryz.prog.globalNamed "cinder/verify.null" =some 1:=by kernel_rfl
theorem aex:Tryz.prog.globalNamed "cinder/verify.unknown" =some 0:=by kernel_rfl
theorem aeA:Tryz.prog.globalNamed "cinder/verify.top" =some 3:=by kernel_rfl
theorem Bm{name:String}{d:DataW Unit}{r:List (String×DataW Unit)}{g:Nat}{ps:List MemPlace}{K:Int}{C:List UInt8}(aC:d= .agg [.lit (.int .i64 K),.lit (.string C)])(a:Tryz.prog.globalNamed name=some g)(b:(Tryz.prog.globals[g]?).map (·.type)=some 47)
 (h:DataW.LaidVars Tryz.prog W ((name,d)::r) ps):ar bc (aY (λ _=>False) ([]:List (az bc.El)) [] W) W [] [] (.x 47 ((⟨K,C⟩:ad.Kind):bc.El 47) 0) (.pointer (some ⟨g,0,none⟩))/\∃q,DataW.LaidVars Tryz.prog W r q:=by
 subst aC
 obtain⟨g',t',cs,bu,p,q,I,J,c,e,f,_⟩:=h
 obtain rfl:=eG (a.symm.trans I)
 obtain rfl:=eG (b.symm.trans J)
 exact⟨ah5 a c e,q,f⟩
theorem aeu{P:Nat->aE bc.El->Prop}(a:P 0 (.x 47 ((⟨6,[]⟩:ad.Kind):bc.El 47) 0))(I:P 1 (.x 47 ((⟨5,[]⟩:ad.Kind):bc.El 47) 0))(J:P 2 (.x 47 ((⟨1,[]⟩:ad.Kind):bc.El 47) 0))(b:P 3 (.x 47 ((⟨3,[79,98,106,101,99,116]⟩:ad.Kind):bc.El 47) 0))(c:P 4 (.x 163 (([0,1,0,3,3,0,0,0,0,0,0,0,0,2,2,2,2,2,3,4,4,0,3,0,0,0,4,0,0,3,3,0,0,0,4,0,0]:List Int):bc.El 163) 0))(d:P 5 (.x 47 ((⟨2,[]⟩:ad.Kind):bc.El 47) 0)):∀g y,dk x1 g=some y->P g y:=λ g y h=>by have:=jK h;simp only[x1,cU,cv,hl,or_false]at this;rcases this with⟨rfl,rfl⟩|⟨rfl,rfl⟩|⟨rfl,rfl⟩|⟨rfl,rfl⟩|⟨rfl,rfl⟩|⟨rfl,rfl⟩;exact a;exact I;exact J;exact b;exact c;exact d
theorem aev(h:laidMet Tryz.prog Ur W):iB aU (λ _=>False) [] [] W:=by have a:=ani SR rfl (Lib.tabIs_of_head (zs:=[0,1,0,3,3,0,0,0,0,0,0,0,0,2,2,2,2,2,3,4,4,0,3,0,0,0,4,0,0,3,3,0,0,0,4,0,0]) SR (by kernel_rfl) anH anG (by kernel_rfl) (by kernel_rfl) h);obtain⟨ps,h,_,_⟩:=h;obtain⟨_,_,_,_,_,q,_,_,_,_,h,_⟩:=h;obtain⟨b,_,h⟩:=Bm rfl aez (by kernel_rfl) h;obtain⟨c,_,h⟩:=Bm rfl aeB (by kernel_rfl) h;obtain⟨d,_,h⟩:=Bm rfl aey (by kernel_rfl) h;obtain⟨e,_,h⟩:=Bm rfl aex (by kernel_rfl) h;obtain⟨f,_,h⟩:=Bm rfl aeA (by kernel_rfl) h;exact aeu (P:=λ g y=>ar bc (aY (λ _=>False) ([]:List (az bc.El)) [] W) W [] [] y (.pointer (some ⟨g,0,none⟩))) e d b f a c
end
end Go.Proofs.YtifhjkbiiekamaaGreatDoor
namespace ad
theorem On{n:Int}(a: -9223372036854775808<=n)(I:n<=9223372036854775807):bj n=n:=by unfold bj;omega
theorem gE{i n:Nat}(hi:i<n)(a:n<=140737488355328):bj ((i:Int)+1)=((i+1 :Nat):Int):=by rw[On (by omega) (by omega)];omega
theorem br{α:Type}{l:List α}{i:Nat}{x:α}(h:l[i]? =some x):idx l (i:Int)=some x:=by unfold idx;rw[lH (by omega)];simpa using h
theorem b6{i n:Nat}(h:i<n):decide ((i:Int)<(n:Int))=true:=ly (by omega)
theorem b5(n:Nat):decide ((n:Int)<(n:Int))=false:=lA (by omega)
def cT{ρ:Type}:Option ρ->Way ρ Unit
 |some r=>.out r
 |none=>.go ()
def hP{ρ:Type}(o:Option ρ)(y:Option (Way ρ Unit)):Option (Way ρ Unit):=match o with
 |some r=>some (.out r)
 |none=>y
theorem each{α ρ:Type}{l:List α}{L:Nat->Int->Option (Way ρ Unit)}(g:α->Option ρ)(a:l.length<=140737488355328)
 (ap:∀k (i:Nat) x,l[i]? =some x->L (k+1) (i:Int)=hP (g x) (L k (bj ((i:Int)+1))))
 (b:∀k,L (k+1) (l.length:Int)=some (.go ())){F:Nat}(c:l.length<F):L F 0=some (cT (l.findSome? g)):=by
 have key:∀(d i k:Nat),i+d=l.length->d<k->L k (i:Int)=some (cT ((l.drop i).findSome? g)):=by
  intro d;induction d with
  |zero=>
   intro i k h e;obtain⟨k,rfl⟩:∃k',k=k'+1:=⟨k-1,by omega⟩
   have hi:i=l.length:=by omega
   subst hi;rw[b];simp[cT]
  |succ d f=>
   intro i k h e;obtain⟨k,rfl⟩:∃k',k=k'+1:=⟨k-1,by omega⟩
   have hi:i<l.length:=by omega
   rw[ap k i l[i] (bx hi),hJ hi,iI];cases j:g l[i]with
   |some r=>rfl
   |none=>simp only[hP];rw[gE hi a];exact f (i+1) k (by omega) (by omega)
 have:=key l.length 0 F (by omega) c
 simpa using this
theorem lO{ρ:Type}{n:Nat}{L:Nat->Int->Option (Way ρ Unit)}(g:Nat->Option ρ)(b:n<=140737488355328)
 (ap:∀k (i:Nat),i<n->L (k+1) (i:Int)=hP (g i) (L k (bj ((i:Int)+1))))
 (c:∀k,L (k+1) (n:Int)=some (.go ())){F:Nat}(d:n<F):L F 0=some (cT ((fe n).findSome? g)):=by
 have h:=each (l:=fe n) (L:=L) g (by simpa using b) (λ k i x a=>by
  have hi:i<n:=by have:=(bg.1 a).1;simpa using this
  rw[List.getElem?_range hi]at a;simp only[aM]at a;subst a;exact ap k i hi) (λ k=>by simpa using c k) (F:=F) (by simpa using d)
 exact h
theorem Fb{σ:Type}{n:Nat}(T:Nat->Nat->Option σ)(fin:σ)(ap:∀k i,i<n->T (k+1) i=T k (i+1))(a:∀k,T (k+1) n=some fin){F:Nat}(b:n<F):T F 0=some fin:=by
 have key:∀(d i k:Nat),i+d=n->d<k->T k i=some fin:=by
  intro d;induction d with
  |zero=>
   intro i k h c;obtain⟨k,rfl⟩:∃k',k=k'+1:=⟨k-1,by omega⟩
   have hi:i=n:=by omega
   subst hi;exact a k
  |succ d e=>
   intro i k h c;obtain⟨k,rfl⟩:∃k',k=k'+1:=⟨k-1,by omega⟩
   rw[ap k i (by omega)];exact e (i+1) k (by omega) (by omega)
 exact key n 0 F (by omega) b
abbrev Small(F n:Nat):Prop:=n<=140737488355328/\n<F
def oW(b:UInt8):Bool:=((((decide (97<=(b.toNat:Int)))&&(decide ((b.toNat:Int)<=122)))||((decide (65<=(b.toNat:Int)))&&(decide ((b.toNat:Int)<=90))))||((decide (48<=(b.toNat:Int)))&&(decide ((b.toNat:Int)<=57))))||(decide ((b.toNat:Int)=95))
def fU(s:List UInt8):Bool:=(s.findSome? λ b=>if oW b then none else some ()).isNone&&decide (s≠[])&&decide (s.length<=20)
theorem uW{F:Nat}{s:List UInt8}(h:Small F s.length):lF F s=some (fU s):=by
 unfold lF;have l1:=each (l:=s) (L:=oQ s) (λ b=>if oW b then none else some false) h.1 (λ k i x a=>by
  rw[oQ,b6 (bg.1 a).1,lI,br a,ae];show cond (!oW x) _ _=_
  cases oW x<;>rfl) (λ k=>by rw[oQ,b5];rfl) h.2
 rw[l1];unfold fU;have e:∀s:List UInt8,s.findSome? (λ b=>if oW b then none else some false)=(s.findSome? (λ b=>if oW b then none else some ())).map (λ _=>false):=by
  intro s;induction s with
  |nil=>rfl
  |cons b r c=>simp only[iI];cases oW b<;>simp[c]
 rw[e];cases s.findSome? (λ b=>if oW b then none else some ())with
 |some _=>rfl
 |none=>simp only[ie,cT,y0,Option.isNone_none,lb];congr 1;rw[io];cases s<;>first |(simp;done)|(simp;omega)
theorem yj{F:Nat}{s:List UInt8}(h:Small F s.length):k5 F s=some (fU s):=by
 rw[<-uW h];unfold k5 lF bytesOf;rw[lH h.1,ae];have e:∀k n,vS s k n=oQ s k n:=by
  intro k;induction k with
  |zero=>intro n;rfl
  |succ k a=>
   intro n;rw[vS,oQ];simp only[a];congr 1;congr 1;funext b;have hc:(((((decide ((b.toNat:Int)<97))||(decide (122<(b.toNat:Int))))&&((decide ((b.toNat:Int)<65))||(decide (90<(b.toNat:Int)))))&&((decide ((b.toNat:Int)<48))||(decide (57<(b.toNat:Int)))))&&(!decide ((b.toNat:Int)=95)))= !oW b:=by unfold oW;rw[io];first |(simp;done)|(simp;omega)
   rw[hc];rfl
 rw[e];cases oQ s F 0 with
 |none=>rfl
 |some w=>
  cases w with
  |out r=>rfl
  |go u=>simp only[y0];congr 1;rw[io];cases s<;>first |(simp;done)|(simp;omega)
def kindOk(k:Kind):Bool:=if k.Kind=3\/k.Kind=4 then fU k.ao else(decide (k.Kind=1)||decide (k.Kind=2))&&decide (k.ao=[])
theorem K'{F:Nat}{k:Kind}(h:Small F k.ao.length):qV F k=some (kindOk k):=by unfold qV ES kindOk;simp only[ae,yj h];by_cases a:k.Kind=3\/k.Kind=4;rw[lH a];rcases a with e |e<;>simp[e];rw[lG a];have aN: ¬k.Kind=3:=λ e=>a (.inl e);have bI: ¬k.Kind=4:=λ e=>a (.inr e);simp[aN,bI]
theorem HD{F:Nat}{k:Kind}(h:Small F k.ao.length):p7 F k=some (kindOk k):=by unfold p7 kindOk;simp only[uW h,ae];by_cases a:k.Kind=3\/k.Kind=4;rw[lH a];rcases a with e |e<;>simp[e];rw[lG a];have aN: ¬k.Kind=3:=λ e=>a (.inl e);have bI: ¬k.Kind=4:=λ e=>a (.inr e);by_cases I:k.Kind=1;simp[I];by_cases J:k.Kind=2;simp[J];simp[aN,bI,I,J]
def gF(n a b:Int):Bool:=decide (a<=n)&&decide (n<=b)
def o4(h:Handler):Option Int:=if fU h.ao then(if gF h.From 0 200&&gF h.To 0 200&&gF h.dU 0 200 then none else some 3)else some 1
def qX(k:Kind):Option Int:=if kindOk k then none else some 7
def wu(m:Method):Int:=
 if fU m.Name then
  if 4<m.cg.length\/200<m.Code.length\/4<m.ck.length then 2
  else if gF m.fP 0 10&&gF m.fO 0 10 then
   match m.cg.findSome? qX with
   |some e=>e
   |none=>if m.Returns=⟨0,[]⟩\/kindOk m.Returns=true then(m.ck.findSome? o4).getD 0 else 7
  else 3
 else 1
structure Method.Fits (F:Nat) (m:Method):Prop where
 name:Small F m.Name.length
 args:Small F m.cg.length
 arg:∀k∈m.cg,Small F k.ao.length
 ret:Small F m.Returns.ao.length
 sJ:Small F m.ck.length
 hand:∀h∈m.ck,Small F h.ao.length
structure ao.Fits (F:Nat) (c:ao):Prop where
 name:Small F c.Name.length
 super:Small F c.ch.length
 fields:Small F c.Fields.length
 field:∀f∈c.Fields,Small F f.Name.length/\Small F f.Kind.ao.length
 methods:Small F c.a3.length
 method:∀m∈c.a3,m.Fits F
def Fits(F:Nat)(l:List ao):Prop:=Small F l.length/\∀c∈l,c.Fits F
theorem W9{F:Nat}(o:Option Int)(d:Int):cO (α:=Unit) (some (cT o)) (λ _=>some d)=some (o.getD d):=by cases o<;>rfl
theorem W_{o:Option Int}{k:Option Int}:cO (α:=Unit) (some (cT o)) (λ _=>k)=(match o with|some e=>some e |none=>k):=by cases o<;>rfl
theorem ahC{F:Nat}{m:Method}(h:m.Fits F):vV F m=some (wu m):=by
 have l1:sU F m F 0=some (cT (m.cg.findSome? qX)):=each qX h.args.1 (λ k i x a=>by
  rw[sU,b6 (bg.1 a).1,lI,br a,ae,K' (h.arg x (bR a)),ae];unfold qX;show cond (!kindOk x) _ _=_
  cases kindOk x<;>rfl) (λ k=>by rw[sU,b5];rfl) h.args.2
 have c:∀ {x:Handler}(_:x∈m.ck)(Y:Option (Way Int Unit)),((k5 F x.ao).bind λ f=>
  cond (!f) (some (.out 1)) ((km x.From 0 200).bind λ g=>
  cond (!g) (some (.out 3)) ((km x.To 0 200).bind λ j=>
  cond (!j) (some (.out 3)) ((km x.dU 0 200).bind λ l=>
  cond (!l) (some (.out 3)) Y))))=hP (o4 x) Y:=by
  intro x a Y
  rw[yj (h.hand x a)]
  unfold o4 km
  simp only[ae]
  show cond (!fU x.ao) _ (cond (!gF x.From 0 200) _ (cond (!gF x.To 0 200) _ (cond (!gF x.dU 0 200) _ _)))=_
  cases fU x.ao<;>cases gF x.From 0 200<;>cases gF x.To 0 200<;>cases gF x.dU 0 200<;>rfl
 have n:vW F m F 0=some (cT (m.ck.findSome? o4)):=each o4 h.sJ.1 (λ k i x a=>by rw[vW,b6 (bg.1 a).1,lI,br a,ae];exact c (bR a) _) (λ k=>by rw[vW,b5];rfl) h.sJ.2;have o:n1 F m F 0=some (cT (m.ck.findSome? o4)):=each o4 h.sJ.1 (λ k i x a=>by rw[n1,b6 (bg.1 a).1,lI,br a,ae];exact c (bR a) _) (λ k=>by rw[n1,b5];rfl) h.sJ.2;unfold vV km wu;rw[yj h.name,l1,n,o];have p:=K' (F:=F) (k:=(⟨m.Returns.Kind,m.Returns.ao⟩:Kind)) h.ret;simp only[ae,p,W9 (F:=F),W_];cases fU m.Name with
 |false=>rfl
 |true=>
  simp only[fg,lJ,if_true];by_cases d:4<m.cg.length\/200<m.Code.length\/4<m.ck.length
  ·rw[lH d];have:((decide (4<(m.cg.length:Int)))||(decide (200<(m.Code.length:Int)))||(decide (4<(m.ck.length:Int))))=true:=by simp;omega
   rw[this];rfl
  ·rw[lG d];have:((decide (4<(m.cg.length:Int)))||(decide (200<(m.Code.length:Int)))||(decide (4<(m.ck.length:Int))))=false:=by simp;omega
   rw[this];show cond (!gF m.fP 0 10) _ (cond (!gF m.fO 0 10) _ _)=_
   cases gF m.fP 0 10<;>cases gF m.fO 0 10<;>try rfl
   simp only[fg,lJ,kr,if_true];cases m.cg.findSome? qX with
   |some e=>rfl
   |none=>
    simp only;by_cases b:m.Returns=⟨0,[]⟩
    ·rw[lH (.inl b),show(decide ((⟨m.Returns.Kind,m.Returns.ao⟩:Kind)=⟨0,[]⟩))=true from ly b];rfl
    ·rw[show(decide ((⟨m.Returns.Kind,m.Returns.ao⟩:Kind)=⟨0,[]⟩))=false from lA b];simp only[kV,lI];show cond (!kindOk m.Returns) _ _=_
     cases EE:kindOk m.Returns with
     |true=>rw[lH (.inr rfl)];rfl
     |false=>rw[lG (by simp[b])];rfl
theorem aaP{F:Nat}{m:Method}(h:m.Fits F):uS F m=some (wu m):=by
 have l1:uT F m F 0=some (cT (m.cg.findSome? qX)):=each qX h.args.1 (λ k i x c=>by rw[uT,b6 (bg.1 c).1,lI,br c,ae,HD (h.arg x (bR c)),ae];unfold qX;cases kindOk x<;>rfl) (λ k=>by rw[uT,b5];rfl) h.args.2;have j:uU F m F 0=some (cT (m.ck.findSome? o4)):=each o4 h.sJ.1 (λ k i x c=>by
  rw[uU,b6 (bg.1 c).1,lI,br c,ae,uW (h.hand x (bR c))];unfold o4 p9;simp only[ae];show cond (!fU x.ao) _ (cond (!gF x.From 0 200) _ (cond (!gF x.To 0 200) _ (cond (!gF x.dU 0 200) _ _)))=_
  cases fU x.ao<;>cases gF x.From 0 200<;>cases gF x.To 0 200<;>cases gF x.dU 0 200<;>rfl) (λ k=>by rw[uU,b5];rfl) h.sJ.2
 unfold uS p9 wu;rw[uW h.name,l1,j];have l:=HD (F:=F) (k:=(⟨m.Returns.Kind,m.Returns.ao⟩:Kind)) h.ret;simp only[ae,l,W9 (F:=F),W_];cases fU m.Name with
 |false=>rfl
 |true=>
  simp only[fg,lJ,if_true];by_cases f:4<m.cg.length\/200<m.Code.length\/4<m.ck.length
  ·rw[lH f];have:((decide (4<(m.cg.length:Int)))||(decide (200<(m.Code.length:Int)))||(decide (4<(m.ck.length:Int))))=true:=by simp;omega
   rw[this];rfl
  ·rw[lG f];have:((decide (4<(m.cg.length:Int)))||(decide (200<(m.Code.length:Int)))||(decide (4<(m.ck.length:Int))))=false:=by simp;omega
   rw[this];show cond (!gF m.fP 0 10) _ (cond (!gF m.fO 0 10) _ _)=_
   cases gF m.fP 0 10<;>cases gF m.fO 0 10<;>try rfl
   simp only[fg,lJ,kr,if_true];cases m.cg.findSome? qX with
   |some e=>rfl
   |none=>
    simp only;show cond ((!kindOk m.Returns)&&_) _ _=_
    by_cases d:m.Returns=⟨0,[]⟩
    ·rw[lH (.inl d),d];simp
    ·have n:((!decide (m.Returns.Kind=0))||(!decide (m.Returns.ao=[])))=true:=by
      rcases o:m.Returns with⟨a,b⟩;rw[o]at d;by_cases g:a=0
      ·by_cases ag:b=[]
       ·subst g;subst ag;exact absurd rfl d
       ·simp[ag]
      ·simp[g]
     rw[n];cases EE:kindOk m.Returns with
     |true=>rw[lH (.inr rfl)];rfl
     |false=>rw[lG (by simp[d])];rfl
def gW(f:Field):Option Int:=if fU f.Name then(if kindOk f.Kind then none else some 7)else some 1
def fX(e:Int):Option Int:=if e=0 then none else some e
def fK(m:Method):Option Int:=fX (wu m)
def xF(c:ao):Int:=
 if fU c.Name&&(decide (c.ch=[])||fU c.ch)then
  if 6<c.Fields.length\/8<c.a3.length then 2
  else(c.Fields.findSome? gW).getD ((c.a3.findSome? fK).getD 0)
 else 1
def nM(c:ao):Option Int:=fX (xF c)
def sp(l:List ao):Int:=if 10<l.length then 2 else(l.findSome? nM).getD 0
def pF{ρ:Type}(o:Option ρ)(y:Option ρ):Option ρ:=match o with
 |some e=>some e
 |none=>y
theorem Ms{e:Int}{Y:Option (Way Int Unit)}:cond (!decide (e=0)) (some (.out e)) Y=hP (fX e) Y:=by unfold fX hP;by_cases h:e=0;rw[lH h,ly h];rfl;rw[lG h,lA h];rfl
theorem QG{a b:Nat}(x y:Nat):((decide ((x:Int)<(a:Int)))||(decide ((y:Int)<(b:Int))))=decide (x<a\/y<b):=by rw[io];simp
theorem lk{o:Option Int}{k:Unit->Option (Way Int Unit)}:c5 (α:=Unit) (some (cT o)) k=hP o (k ()):=by cases o<;>rfl
theorem jV{ρ:Type}{o:Option ρ}{k:Unit->Option ρ}:cO (α:=Unit) (some (cT o)) k=pF o (k ()):=by cases o<;>rfl
theorem nl{o:Option Int}{Y:Option (Way Int Unit)}{k:Unit->Option (Way Int Unit)}:c5 (α:=Unit) (hP o Y) k=hP o (c5 (α:=Unit) Y k):=by cases o<;>rfl
section
variable{F:Nat}
theorem ahB{c:ao}(h:c.Fits F):Bb F c=some (xF c):=by
 have d:∀ {x:Field}(_:x∈c.Fields)(Y:Option (Way Int Unit)),((k5 F x.Name).bind λ l=>
  cond (!l) (some (.out 1)) ((qV F (⟨x.Kind.Kind,x.Kind.ao⟩:Kind)).bind λ n=>
  cond (!n) (some (.out 7)) Y))=hP (gW x) Y:=by
  intro x a Y
  rw[yj (h.field x a).1,K' (k:=(⟨x.Kind.Kind,x.Kind.ao⟩:Kind)) (h.field x a).2]
  unfold gW
  simp only[ae]
  show cond (!fU x.Name) _ (cond (!kindOk x.Kind) _ _)=_
  cases fU x.Name<;>cases kindOk x.Kind<;>rfl
 have f:∀ {x:Method}(_:x∈c.a3)(Y:Option (Way Int Unit)),((vV F (⟨x.Name,x.Static,x.cg,(⟨x.Returns.Kind,x.Returns.ao⟩:Kind),x.fP,x.fO,x.Code,x.ck⟩:Method)).bind λ g=>
  cond (!decide (g=0)) (some (.out g)) Y)=hP (fK x) Y:=by
  intro x a Y
  have:=ahC (F:=F) (m:=(⟨x.Name,x.Static,x.cg,(⟨x.Returns.Kind,x.Returns.ao⟩:Kind),x.fP,x.fO,x.Code,x.ck⟩:Method)) (h.method x a)
  rw[this,ae]
  exact Ms
 have l1:vT F c F 0=some (cT (c.Fields.findSome? gW)):=each gW h.fields.1 (λ k i x a=>by rw[vT,b6 (bg.1 a).1,lI,br a,ae];exact d (bR a) _) (λ k=>by rw[vT,b5];rfl) h.fields.2;have o:qU F c F 0=some (cT (c.Fields.findSome? gW)):=each gW h.fields.1 (λ k i x a=>by rw[qU,b6 (bg.1 a).1,lI,br a,ae];exact d (bR a) _) (λ k=>by rw[qU,b5];rfl) h.fields.2;have q:vU F c F 0=some (cT (c.a3.findSome? fK)):=each fK h.methods.1 (λ k i x a=>by rw[vU,b6 (bg.1 a).1,lI,br a,ae];exact f (bR a) _) (λ k=>by rw[vU,b5];rfl) h.methods.2;have r:n0 F c F 0=some (cT (c.a3.findSome? fK)):=each fK h.methods.1 (λ k i x a=>by rw[n0,b6 (bg.1 a).1,lI,br a,ae];exact f (bR a) _) (λ k=>by rw[n0,b5];rfl) h.methods.2;unfold Bb xF;rw[yj h.name,yj h.super,l1,q,o,r];simp only[ae,jV,show(6 :Int)=((6 :Nat):Int) from rfl,show(8 :Int)=((8 :Nat):Int) from rfl,QG];cases fU c.Name with
 |false=>rfl
 |true=>
  simp only[fg,lJ,lb]
  have j:∀p:Bool,p=decide (6<c.Fields.length\/8<c.a3.length)->cond p (some (2 :Int)) (pF (c.Fields.findSome? gW) (pF (c.a3.findSome? fK) (some 0)))=
   some (if 6<c.Fields.length\/8<c.a3.length then 2 else(c.Fields.findSome? gW).getD ((c.a3.findSome? fK).getD 0)):=by
   intro p s
   subst s
   by_cases b:6<c.Fields.length\/8<c.a3.length
   ·rw[lH b,ly b];rfl
   ·rw[lG b,lA b];cases c.Fields.findSome? gW with
    |some e=>rfl
    |none=>cases c.a3.findSome? fK<;>rfl
  by_cases ap:c.ch=[]
  ·rw[ly ap];simp only[fg,lJ,Bool.true_or,if_true];exact j _ rfl
  ·rw[lA ap];simp only[kV,lI,k9];cases fU c.ch with
   |false=>rfl
   |true=>simp only[fg,lJ,if_true];exact j _ rfl
theorem ahA{l:List ao}(h:Fits F l):Ba F l=some (sp l):=by have l1:sT F l F 0=some (cT (l.findSome? nM)):=each nM h.1.1 (λ k i x a=>by rw[sT,b6 (bg.1 a).1,lI,br a,ae,ahB (c:=(⟨x.Name,x.ch,x.Fields,x.a3⟩:ao)) (h.2 x (bR a)),ae];exact Ms) (λ k=>by rw[sT,b5];rfl) h.1.2;unfold Ba sp;rw[l1,jV];by_cases b:10<l.length;rw[lH b,ly (show(10 :Int)<(l.length:Int) by omega)];rfl;rw[lG b,lA (show¬(10 :Int)<(l.length:Int) by omega)];cases l.findSome? nM<;>rfl
theorem aaO{l:List ao}(h:Fits F l):zG F l=some (sp l):=by
 have body:∀ {c:ao}(_:c.Fits F),xo F c F 0=some (cT (c.Fields.findSome? gW))/\r7 F c F 0=some (cT (c.Fields.findSome? gW))/\xp F c F 0=some (cT (c.a3.findSome? fK))/\r8 F c F 0=some (cT (c.a3.findSome? fK)):=by
  intro c hc
  have b:∀ {x:Field}(_:x∈c.Fields)(i:Int)(_:idx c.Fields i=some x)(Y:Option (Way Int Unit)),((lF F x.Name).bind λ q=>
   cond (!q) (some (.out 1)) ((idx c.Fields i).bind λ x=>(p7 F (⟨x.Kind.Kind,x.Kind.ao⟩:Kind)).bind λ r=>
   cond (!r) (some (.out 7)) Y))=hP (gW x) Y:=by
   intro x a i hi Y
   rw[uW (hc.field x a).1,hi]
   unfold gW
   simp only[ae]
   rw[HD (k:=(⟨x.Kind.Kind,x.Kind.ao⟩:Kind)) (hc.field x a).2,ae]
   show cond (!fU x.Name) _ (cond (!kindOk x.Kind) _ _)=_
   cases fU x.Name<;>cases kindOk x.Kind<;>rfl
  have d:∀ {x:Method}(_:x∈c.a3)(Y:Option (Way Int Unit)),((uS F x).bind λ m=>
   cond (!decide (m=0)) (some (.out m)) Y)=hP (fK x) Y:=by
   intro x a Y
   rw[aaP (hc.method x a),ae]
   exact Ms
  refine⟨each gW hc.fields.1 (λ k i x a=>?_) (λ k=>by rw[xo,b5];rfl) hc.fields.2,each gW hc.fields.1 (λ k i x a=>?_) (λ k=>by rw[r7,b5];rfl) hc.fields.2,
   each fK hc.methods.1 (λ k i x a=>?_) (λ k=>by rw[xp,b5];rfl) hc.methods.2,each fK hc.methods.1 (λ k i x a=>?_) (λ k=>by rw[r8,b5];rfl) hc.methods.2⟩
  ·rw[xo,b6 (bg.1 a).1,lI,br a,ae];rw[<-br a];exact b (bR a) _ (br a) _
  ·rw[r7,b6 (bg.1 a).1,lI,br a,ae];rw[<-br a];exact b (bR a) _ (br a) _
  ·rw[xp,b6 (bg.1 a).1,lI,br a,ae];exact d (bR a) _
  ·rw[r8,b6 (bg.1 a).1,lI,br a,ae];exact d (bR a) _
 have l1:uG F l F 0=some (cT (l.findSome? nM)):=each nM h.1.1 (λ k i c a=>by
  have hc:=h.2 c (bR a);obtain⟨s,t,u,DB⟩:=body hc;rw[uG,b6 (bg.1 a).1,lI,br a,ae,uW hc.name,uW hc.super,s,u,t,DB];simp only[ae,lk,show(6 :Int)=((6 :Nat):Int) from rfl,show(8 :Int)=((8 :Nat):Int) from rfl,QG];unfold nM xF;cases fU c.Name with
  |false=>rfl
  |true=>
   simp only[fg,lJ,lb]
   have n:∀(p:Bool)(Y:Option (Way Int Unit)),p=decide (6<c.Fields.length\/8<c.a3.length)->c5 (α:=Unit) (cond p (some (.out (2 :Int))) (hP (c.Fields.findSome? gW) (hP (c.a3.findSome? fK) (some (.go ()))))) (λ _=>Y)=
    hP (fX (if 6<c.Fields.length\/8<c.a3.length then 2 else(c.Fields.findSome? gW).getD ((c.a3.findSome? fK).getD 0))) Y:=by
    intro p Y v
    subst v
    by_cases f:6<c.Fields.length\/8<c.a3.length
    ·rw[lH f,ly f];rfl
    ·rw[lG f,lA f,lJ];have g:∀e,c.Fields.findSome? gW=some e->fX e=some e:=by intro e j;obtain⟨x,_,a⟩:=ed j;unfold gW at a;split at a;split at a;cases a;injection a with a;subst a;rfl;injection a with a;subst a;rfl
     have w:∀e,c.a3.findSome? fK=some e->fX e=some e:=by intro e j;obtain⟨x,_,a⟩:=ed j;unfold fK at a;unfold fX at a⊢;split at a;cases a;rename_i y;injection a with a;subst a;rw[lG y]
     cases b:c.Fields.findSome? gW with
     |some e=>simp only[h2,g e b];rfl
     |none=>
      cases d:c.a3.findSome? fK with
      |some e=>simp only[h2,iG,w e d];rfl
      |none=>rfl
   by_cases ap:c.ch=[]
   ·rw[ly ap];simp only[fg,lJ,Bool.true_or,if_true];exact n _ _ rfl
   ·rw[lA ap];simp only[kV,lI,k9];cases fU c.ch with
    |false=>rfl
    |true=>simp only[fg,lJ,if_true];exact n _ _ rfl) (λ k=>by rw[uG,b5];rfl) h.1.2
 unfold zG sp;rw[l1,jV];by_cases o:10<l.length;rw[lH o,ly (show(10 :Int)<(l.length:Int) by omega)];rfl;rw[lG o,lA (show¬(10 :Int)<(l.length:Int) by omega)];cases l.findSome? nM<;>rfl
end
structure Right (l:List ao):Prop where
 len:l.length<=10
 name:∀c∈l,fU c.Name=true
 fields:∀c∈l,c.Fields.length<=6
 methods:∀c∈l,c.a3.length<=8
 method:∀c∈l,∀m∈c.a3,m.cg.length<=4/\m.ck.length<=4
theorem ajg{m:Method}(h:wu m=0):m.cg.length<=4/\m.ck.length<=4:=by unfold wu at h;split at h;split at h;exact absurd h (by decide);rename_i I;exact⟨by omega,by omega⟩;exact absurd h (by decide)
theorem akg{e:Int}(h:fX e=none):e=0:=by unfold fX at h;split at h;assumption;cases h
theorem akh{e x:Int}(h:fX e=some x):x≠0:=by unfold fX at h;split at h;cases h;rename_i a;injection h with h;subst h;exact a
theorem ahM{s:List UInt8}(h:fU s=true):s≠[]:=by unfold fU at h;simp only[bM,decide_eq_true_eq]at h;exact h.1.2
theorem abD{l:List ao}(h:sp l=0):Right l:=by
 unfold sp at h;by_cases g:10<l.length;rw[lH g]at h;exact absurd h (by decide)
 ·rw[lG g]at h
  have i:∀c∈l,xF c=0:=by
   intro c hc;cases d:l.findSome? nM with
   |some e=>rw[d]at h;simp only[h2]at h;subst h;obtain⟨x,_,a⟩:=ed d;unfold nM fX at a;split at a;cases a;rename_i j;injection a with a;exact absurd a j
   |none=>have:=fk.1 d c hc;unfold nM fX at this;split at this;assumption;cases this
  have key:∀c∈l,fU c.Name=true/\c.Fields.length<=6/\c.a3.length<=8/\∀m∈c.a3,m.cg.length<=4/\m.ck.length<=4:=by
   intro c hc;have b:=i c hc;unfold xF at b;split at b
   ·rename_i I;simp only[bM]at I;split at b;exact absurd b (by decide)
    ·rename_i J;refine⟨I.1,by omega,by omega,λ m k=>?_⟩;cases d:c.Fields.findSome? gW with
     |some e=>rw[d]at b;simp only[h2]at b;subst b;obtain⟨x,_,a⟩:=ed d;unfold gW at a;split at a;split at a;cases a;injection a with a;exact absurd a (by decide);injection a with a;exact absurd a (by decide)
     |none=>
      rw[d]at b;simp only[iG]at b;cases f:c.a3.findSome? fK with
      |some e=>rw[f]at b;simp only[h2]at b;subst b;obtain⟨x,_,a⟩:=ed f;exact absurd rfl (akh a)
      |none=>exact ajg (akg (fk.1 f m k))
   ·exact absurd b (by decide)
  exact⟨by omega,λ c hc=>(key c hc).1,λ c hc=>(key c hc).2.1,λ c hc=>(key c hc).2.2.1,λ c hc=>(key c hc).2.2.2⟩
def dA{α:Type}(p:α->Bool):List α->Option Nat
 |[]=>none
 |x::r=>if p x then some 0 else(dA p r).map (·+1)
theorem BR{α:Type}{p:α->Bool}:∀ {l:List α}{i:Nat},dA p l=some i->∃x,l[i]? =some x/\p x=true/\∀j y,j<i->l[j]? =some y->p y=false
 |[],i,h=>by simp[dA]at h
 |x::r,i,h=>by
  simp only[dA]at h;split at h;rename_i a;injection h with h;subst h;exact⟨x,rfl,a,λ j y d=>absurd d (by omega)⟩
  ·rename_i a;cases b:dA p r with
   |none=>rw[b]at h;cases h
   |some k=>
    rw[b]at h;simp only[fC,aM]at h;subst h;obtain⟨y,I,J,e⟩:=BR b;refine⟨y,by simpa using I,J,λ j z d c=>?_⟩;cases j with
    |zero=>simp only[dm,aM]at c;subst c;simpa using a
    |succ j=>exact e j z (by omega) (by simpa using c)
theorem MG{α:Type}{p:α->Bool}:∀ {l:List α},dA p l=none->∀x∈l,p x=false
 |[],_,x,a=>by cases a
 |y::r,h,x,a=>by
  simp only[dA]at h;split at h;cases h
  ·rename_i b;have c:dA p r=none:=by simpa using h
   rcases cU.1 a with rfl |e;simpa using b;exact MG c x e
theorem akD{α:Type}{p:α->Bool}{l:List α}{i:Nat}{x:α}(hi:l[i]? =some x)(a:p x=true)(ag:∀j y,j<i->l[j]? =some y->p y=false):dA p l=some i:=by
 cases h:dA p l with
 |none=>have:=MG h x (bR hi);rw[a]at this;cases this
 |some j=>obtain⟨y,I,J,b⟩:=BR h;rcases Nat.lt_trichotomy i j with e |e |e;have:=b i x e hi;rw[a]at this;cases this;rw[e];have:=ag j y e I;rw[J]at this;cases this
theorem MF{α:Type}{p:α->Bool}{l:List α}{i:Nat}(h:dA p l=some i):i<l.length:=by obtain⟨x,I,_⟩:=BR h;exact(bg.1 I).1
theorem D_{α ρ:Type}{l:List α}{L:Nat->Int->Option (Way ρ Unit)}(p:α->Bool)(f:Nat->ρ)(a:l.length<=140737488355328)
 (ap:∀k (i:Nat) x,l[i]? =some x->L (k+1) (i:Int)=cond (p x) (some (.out (f i))) (L k (bj ((i:Int)+1))))
 (b:∀k,L (k+1) (l.length:Int)=some (.go ())){F:Nat}(c:l.length<F):L F 0=some (cT ((dA p l).map f)):=by
 have key:∀(d i k:Nat),i+d=l.length->d<k->L k (i:Int)=some (cT ((dA p (l.drop i)).map λ j=>f (i+j))):=by
  intro d;induction d with
  |zero=>
   intro i k h e;obtain⟨k,rfl⟩:∃k',k=k'+1:=⟨k-1,by omega⟩
   have hi:i=l.length:=by omega
   subst hi;rw[b];simp[cT,dA]
  |succ d g=>
   intro i k h e;obtain⟨k,rfl⟩:∃k',k=k'+1:=⟨k-1,by omega⟩
   have hi:i<l.length:=by omega
   rw[ap k i l[i] (bx hi),hJ hi,dA];cases m:p l[i]with
   |true=>simp[cT]
   |false=>simp only[lJ,hT,if_false];rw[gE hi a,g (i+1) k (by omega) (by omega)];congr 2;rw[Option.map_map];congr 1;funext j;simp only[Function.comp];congr 1;omega
 have:=key l.length 0 F (by omega) c
 simpa using this
def g4(nm:List UInt8)(c:ao):Bool:=decide (c.Name=nm)
def bC(l:List ao)(nm:List UInt8):Int:=((dA (g4 nm) l).map λ n:Nat=>(n:Int)).getD (-1)
theorem lE{F:Nat}{l:List ao}(h:Small F l.length)(nm:List UInt8):iD F l nm=some (bC l nm):=by unfold iD bC;have l1:uV l nm F 0=some (cT ((dA (g4 nm) l).map λ n:Nat=>(n:Int))):=D_ (g4 nm) _ h.1 (λ k i x a=>by rw[uV,b6 (bg.1 a).1,lI,br a,ae];rfl) (λ k=>by rw[uV,b5];rfl) h.2;rw[l1,jV];cases dA (g4 nm) l<;>rfl
theorem jx{l:List ao}{nm:List UInt8}:bC l nm<l.length:=by
 unfold bC;cases h:dA (g4 nm) l with
 |none=>simp only[ie,iG];omega
 |some i=>have:=MF h;simp only[fC,h2];omega
theorem abE{l:List ao}{nm:List UInt8}:bC l nm<0↔dA (g4 nm) l=none:=by
 unfold bC;cases h:dA (g4 nm) l with
 |none=>simp
 |some i=>simp only[fC,h2];constructor<;>intro h<;>first |omega |cases h
theorem wN{α:Type}{l:List α}{i:Nat}{x:α}(h:l[i]? =some x):l.set i x=l:=by obtain⟨a,e⟩:=bg.1 h;rw[<-e,lp]
theorem DP{α:Type}{b:Nat}{l:List α}(h:l.length*b<=140737488355328):(cc b ([]:List α) l).bind (λ l=>some l)=some l:=by unfold cc;rw[lH (by simpa using h)];simp
theorem akv{F:Nat}{l:List ao}(p:100<F)(h:Right l):Bt F l=some l:=by
 have f:∀(ei:List Method),ei.length<=8 ->(∀m∈ei,m.cg.length<=4/\m.ck.length<=4)->pr F ei (ei.length:Int) 0=some ei:=by
  intro ei g b;refine Fb (n:=ei.length) (λ k i=>pr k ei (ei.length:Int) (i:Int)) ei (λ k i hi=>?_) (λ k=>?_) (F:=F) (by omega)
  ·obtain⟨x,a⟩:∃x,ei[i]? =some x:=⟨ei[i],bx hi⟩
   have ag:=b x (bR a);show pr (k+1) ei (ei.length:Int) (i:Int)=_
   rw[pr,b6 hi,lI,br a,ae];unfold N1 N0;rw[DP (by omega),ae,DP (by omega),ae,ae,ae];have j:ei.set (i:Int).toNat (⟨x.Name,x.Static,x.cg,(⟨x.Returns.Kind,x.Returns.ao⟩:Kind),x.fP,x.fO,x.Code,x.ck⟩:Method)=ei:=wN (i:=i) a;simp only[j,br a,ae];rw[gE hi (by omega)]
  ·show pr (k+1) ei (ei.length:Int) (ei.length:Int)=_
   rw[pr,b5];rfl
 unfold Bt;have o:n' F l F [] 0=some l:=by
  refine Fb (n:=l.length) (λ k i=>n' F l k (l.take i) (i:Int)) l (λ k i hi=>?_) (λ k=>?_) (F:=F) (by have:=h.len;omega)
  ·obtain⟨x,a⟩:∃x,l[i]? =some x:=⟨l[i],bx hi⟩
   have c:=bR a;have q:=h.fields x c;have b:=h.methods x c;have d:=h.len;show n' F l (k+1) (l.take i) (i:Int)=_
   rw[n',b6 hi,lI,br a,ae];unfold NZ N2;rw[DP (by omega),ae,DP (by omega),ae,f x.a3 b (h.method x c),ae];unfold cc;rw[lH (by simp only[fM,dp,g3];omega)];simp only[ae];rw[gE hi (by omega)];have e:l.take i++[(⟨x.Name,x.ch,x.Fields,x.a3⟩:ao)]=l.take (i+1):=by rw[jP,a];rfl
   rw[e]
  ·show n' F l (k+1) (l.take l.length) (l.length:Int)=_
   rw[n',b5,jY];rfl
 rw[o];rfl
def ek:Nat->List ao->List (List UInt8×Int)
 |_,[]=>[]
 |k,c::r=>(c.Name,(k:Int))::ek (k+1) r
theorem yB(nm:List UInt8):∀(l:List ao)(k:Nat),e2 (ek k l) nm=(dA (g4 nm) l).map λ n:Nat=>((n+k:Nat):Int)
 |[],k=>rfl
 |c::r,k=>by simp only[ek,e2,dA,g4];by_cases h:c.Name=nm;simp[h];simp only[h,if_false,decide_false,hT];rw[yB nm r (k+1),Option.map_map];congr 1;funext j;simp only[Function.comp];congr 1;omega
theorem U1(c:ao):∀(l:List ao)(k:Nat),ek k (l++[c])=ek k l++[(c.Name,((k+l.length:Nat):Int))]
 |[],k=>by simp[ek]
 |d::r,k=>by simp only[iQ,ek,dp];rw[U1 c r (k+1)];congr 4;omega
theorem UO{cj β:Type} [DecidableEq cj]{k:cj}{v:β}:∀ {m:List (cj×β)},e2 m k=none->la m k v=m++[(k,v)]
 |[],_=>rfl
 |p::r,h=>by simp only[e2]at h;split at h;cases h;rename_i a;simp only[la,lG a,iQ];rw[UO h]
def uD(l:List ao):Prop:=∀(i j:Nat)(x y:ao),l[i]? =some x->l[j]? =some y->x.Name=y.Name->i=j
theorem U'{l:List ao}(h:uD l){i:Nat}{x:ao}(hi:l[i]? =some x):bC l x.Name=(i:Int):=by unfold bC;rw[akD (i:=i) hi (by simp[g4]) (λ j y a hy=>by simp only[g4,decide_eq_false_iff_not];intro e;have:=h j i y x hy hi e;omega)];rfl
theorem ajM{F:Nat}{l:List ao}(R:100<F)(h:Right l) :
 (uD l/\l5 ⟨l,[],[]⟩ F [] 0=some (.go (ek 0 l))/\p6 F l F 0=some (.go ()))\/
 (¬uD l/\(∃m,l5 ⟨l,[],[]⟩ F [] 0=some (.out (6,m)))/\p6 F l F 0=some (.out 6)):=by
 have w:=h.len
 have A:p6 F l F 0=some (cT ((fe l.length).findSome? λ i:Nat=>(l[i]?).bind λ x:ao=>if bC l x.Name=(i:Int)then none else some 6)):=lO _ (by omega) (λ k i hi=>by
  obtain⟨x,c⟩:∃x,l[i]? =some x:=⟨l[i],bx hi⟩
  rw[p6,b6 hi,lI,br c,ae,lE ⟨by omega,by omega⟩,ae,c,ae];by_cases e:bC l x.Name=(i:Int)
  ·rw[lH e,ly e];rfl
  ·rw[lG e,lA e];rfl) (λ k=>by rw[p6,b5];rfl) (by omega)
 have key:∀(d i k:Nat),i+d=l.length->d<k->uD (l.take i) ->
  (uD l/\l5 ⟨l,[],[]⟩ k (ek 0 (l.take i)) i=some (.go (ek 0 l)))\/(¬uD l/\∃m,l5 ⟨l,[],[]⟩ k (ek 0 (l.take i)) i=some (.out (6,m))):=by
  intro d
  induction d with
  |zero=>
   intro i k hi G n;obtain⟨k,rfl⟩:∃k',k=k'+1:=⟨k-1,by omega⟩
   have e:i=l.length:=by omega
   subst e;rw[jY]at n⊢;left;refine⟨n,?_⟩;rw[l5,b5];rfl
  |succ d H=>
   intro i k hi G n;obtain⟨k,rfl⟩:∃k',k=k'+1:=⟨k-1,by omega⟩
   have o:i<l.length:=by omega
   obtain⟨x,c⟩:∃x,l[i]? =some x:=⟨l[i],bx o⟩
   rw[l5,b6 o,lI,br c,ae,yB];cases p:dA (g4 x.Name) (l.take i)with
   |some j=>
    right;obtain⟨y,I,J,_⟩:=BR p;refine⟨λ g=>?_,_,rfl⟩;have K:j<i:=by have:=(bg.1 I).1;simp only[fM]at this;omega
    have hy:l[j]? =some y:=by rw[ht]at I;rw[lH K]at I;exact I
    have:=g j i y x hy c (by simpa[g4]using J);omega
   |none=>
    simp only[ie,Option.isSome_none,lJ];have r:e2 (ek 0 (l.take i)) x.Name=none:=by rw[yB,p];rfl
    rw[UO r,gE o (by omega)];have L:l.take (i+1)=l.take i++[x]:=by rw[jP,c];rfl
    have al:ek 0 (l.take i)++[(x.Name,(i:Int))]=ek 0 (l.take (i+1)):=by rw[L,U1];congr 4;simp only[fM];omega
    rw[al];refine H (i+1) k (by omega) (by omega) ?_;intro a b u v f ag s;rw[ht]at f ag;split at f
    ·split at ag
     ·rename_i M S;have N:=MG p;have B:∀(q:Nat)(z:ao),q<i->l[q]? =some z->z.Name≠x.Name:=λ q z O P e=>by have:=N z (bR (i:=q) (by rw[ht,lH O];exact P));simp[g4,e]at this
      by_cases t:a=i;by_cases vC:b=i;omega;subst t;rw[c]at f;injection f with f;subst f;exact absurd s.symm (B b v (by omega) ag);by_cases vC:b=i;subst vC;rw[c]at ag;injection ag with ag;subst ag;exact absurd s (B a u (by omega) f);exact n a b u v (by rw[ht,lH (by omega)];exact f) (by rw[ht,lH (by omega)];exact ag) s
     ·cases ag
    ·cases f
 have C:=key l.length 0 F (by omega) (by omega) (λ i j x y hi=>by simp at hi)
 have Q:ek 0 (l.take 0)=[]:=by simp[ek]
 rw[Q]at C
 rcases C with⟨g,I⟩|⟨g,I⟩
 ·left;refine⟨g,I,?_⟩;rw[A]
  have:((fe l.length).findSome? λ i:Nat=>(l[i]?).bind λ x:ao=>if bC l x.Name=(i:Int)then none else some (6 :Int))=none:=by
   rw[fk];intro i hi;obtain⟨x,c⟩:∃x,l[i]? =some x:=⟨l[i]'(by simpa using hi),bx _⟩
   rw[c,ae,lH (U' g c)]
  rw[this];rfl
 ·right;refine⟨g,I,?_⟩;rw[A];cases D:((fe l.length).findSome? λ i:Nat=>(l[i]?).bind λ x:ao=>if bC l x.Name=(i:Int)then none else some (6 :Int))with
  |some e=>
   obtain⟨i,_,hi⟩:=ed D;cases c:l[i]? with
   |none=>rw[c]at hi;cases hi
   |some x=>rw[c,ae]at hi;split at hi;cases hi;injection hi with hi;subst hi;rfl
  |none=>
   exfalso
   apply g
   have E:∀(i:Nat)(x:ao),l[i]? =some x->bC l x.Name=(i:Int):=by intro i x c;have:=fk.1 D i (by have:=(bg.1 c).1;simpa using this);rw[c,ae]at this;split at this;assumption;cases this
   intro i j x y c hy e
   have I:=E i x c
   have J:=E j y hy
   rw[e]at I
   omega
def wZ{ρ σ:Type}(o:Option ρ)(a:σ):Way ρ σ:=match o with
 |some r=>.out r
 |none=>.go a
def Xb{ρ σ:Type}(o:Option ρ)(y:Option (Way ρ σ)):Option (Way ρ σ):=match o with
 |some r=>some (.out r)
 |none=>y
theorem HI{ρ σ:Type}{n:Nat}(T:Nat->Nat->Option (Way ρ σ))(g:Nat->Option ρ)(fin:σ)(ap:∀k i,i<n->T (k+1) i=Xb (g i) (T k (i+1)))(a:∀k,T (k+1) n=some (.go fin)){F:Nat}(b:n<F) :
 T F 0=some (wZ ((fe n).findSome? g) fin):=by
 have key:∀(d i k:Nat),i+d=n->d<k->T k i=some (wZ (((fe n).drop i).findSome? g) fin):=by
  intro d;induction d with
  |zero=>
   intro i k h c;obtain⟨k,rfl⟩:∃k',k=k'+1:=⟨k-1,by omega⟩
   have hi:i=n:=by omega
   subst hi;rw[a,h7 (by simp)];rfl
  |succ d e=>
   intro i k h c;obtain⟨k,rfl⟩:∃k',k=k'+1:=⟨k-1,by omega⟩
   have hi:i<n:=by omega
   rw[ap k i hi,hJ (by simpa using hi),iI];simp only[List.getElem_range];cases f:g i with
   |some r=>rfl
   |none=>simp only[Xb];exact e (i+1) k (by omega) (by omega)
 have:=key n 0 F (by omega) b
 simpa using this
theorem Ek{α β cx:Type}(g:α->Option β)(f:β->cx):∀l:List α,l.findSome? (λ c=>(g c).map f)=(l.findSome? g).map f
 |[]=>rfl
 |c::r=>by
  simp only[iI];cases g c with
  |some e=>rfl
  |none=>simp only[ie];exact Ek g f r
def cI(l:List ao):List Int:=l.map λ c=>bC l c.ch
theorem N5{l:List ao}{i:Nat}{x:ao}(h:l[i]? =some x):(cI l)[i]? =some (bC l x.ch):=by simp[cI,h]
def oy(c:ao):Option Int:=if(decide (c.Name=[79,98,106,101,99,116]))==(decide (c.ch=[]))then none else some 4
def m6(l:List ao)(c:ao):Option Int:=if c.ch=[]\/0<=bC l c.ch then none else some 5
section
variable{F:Nat}{l:List ao}
theorem ant(b:100<F)(h:Right l):uM l F 0=some (cT (l.findSome? oy)):=each oy (by have:=h.len;omega) (λ k i x a=>by rw[uM,b6 (bg.1 a).1,lI,br a,ae,ae];unfold oy;cases(decide (x.Name=[79,98,106,101,99,116]))==(decide (x.ch=[]))<;>rfl) (λ k=>by rw[uM,b5];rfl) (by have:=h.len;omega)
theorem ans(b:100<F)(h:Right l)(m:List (List UInt8×Int))(s:List Int):rf ⟨l,m,s⟩ F 0=some (cT ((l.findSome? oy).map λ e=>(e,(⟨l,m,s⟩:a7)))):=by
 have:=each (l:=l) (L:=rf ⟨l,m,s⟩) (λ c=>(oy c).map λ e=>(e,(⟨l,m,s⟩:a7))) (by have:=h.len;omega) (λ k i x a=>by
  rw[rf];show cond (decide ((i:Int)<(l.length:Int))) ((idx l (i:Int)).bind _) _=_
  rw[b6 (bg.1 a).1,lI,br a,ae];unfold oy;cases(decide (x.Name=[79,98,106,101,99,116]))==(decide (x.ch=[]))<;>rfl) (λ k=>by
   rw[rf];show cond (decide ((l.length:Int)<(l.length:Int))) _ _=_
   rw[b5];rfl) (F:=F) (by have:=h.len;omega)
 rw[this,Ek]
theorem ajy(c:100<F)(h:Right l):r_ F l F 0=some (cT (l.findSome? (m6 l))):=each (m6 l) (by have:=h.len;omega) (λ k i x a=>by
 have b:=h.len;rw[r_,b6 (bg.1 a).1,lI,br a,ae,ae,lE ⟨by omega,by omega⟩,ae];unfold m6;by_cases ap:x.ch=[]
 ·rw[lH (.inl ap),ly ap];rfl
 ·rw[lA ap];by_cases hc:0<=bC l x.ch;rw[lH (.inr hc),lA (show¬bC l x.ch<0 by omega)];rfl
  ·rw[lG (by simp[ap,hc]),ly (show bC l x.ch<0 by omega)];rfl) (λ k=>by rw[r_,b5];rfl) (by have:=h.len;omega)
theorem abF(h:Right l):bC l []= -1:=by
 unfold bC;cases a:dA (g4 []) l with
 |none=>rfl
 |some i=>obtain⟨x,I,J,_⟩:=BR a;have:=ahM (h.name x (bR I));simp[g4]at J;exact absurd J this
theorem ajx(u:100<F)(h:Right l):∃o:Option (Int×a7),o.map (·.1)=l.findSome? (m6 l)/\ku ⟨l,ek 0 l,[]⟩ F [] 0=some (wZ o (cI l)):=by
 have c:=h.len;refine⟨(fe l.length).findSome? λ i=>((l[i]?).bind (m6 l)).map λ e=>(e,(⟨l,ek 0 l,(cI l).take i⟩:a7)),?_,?_⟩
 ·have g:∀(n:Nat),n<=l.length->((List.range' (l.length-n) n).findSome? λ i=>((l[i]?).bind (m6 l)).map λ e=>(e,(⟨l,ek 0 l,(cI l).take i⟩:a7))).map (·.1)=(l.drop (l.length-n)).findSome? (m6 l):=by
   intro n;induction n with
   |zero=>intro _;simp
   |succ n m=>
    intro d;have hi:l.length- (n+1)<l.length:=by omega
    rw[List.range'_succ,iI,hJ hi,iI,bx hi,ae];cases m6 l l[l.length- (n+1)]with
    |some e=>rfl
    |none=>simp only[ie];rw[show l.length- (n+1)+1=l.length-n by omega];exact m (by omega)
  have:=g l.length (cS _);simpa[List.range_eq_range']using this
 ·refine HI (n:=l.length) (λ k i=>ku ⟨l,ek 0 l,[]⟩ k ((cI l).take i) (i:Int)) _ (cI l) (λ k i hi=>?_) (λ k=>?_) (F:=F) (by omega)
  ·obtain⟨x,b⟩:∃x,l[i]? =some x:=⟨l[i],bx hi⟩
   show ku ⟨l,ek 0 l,[]⟩ (k+1) ((cI l).take i) (i:Int)=_
   rw[ku];show cond (decide ((i:Int)<(l.length:Int))) (c5 (α:=List Int) ((idx l (i:Int)).bind _) _) _=_
   rw[b6 hi,lI,br b,ae,b,ae];have f:e2 (ek 0 l) x.ch=(dA (g4 x.ch) l).map λ n:Nat=>((n+0 :Nat):Int):=yB x.ch l 0;have aN:(cI l).take (i+1)=(cI l).take i++[bC l x.ch]:=by rw[jP,N5 b];rfl
   have p:cc 8 ((cI l).take i) [bC l x.ch]=some ((cI l).take (i+1)):=by unfold cc;rw[lH (by simp only[fM,dp,g3];omega),aN]
   have fin:∀n:Int,n=bC l x.ch->c5 (α:=List Int) (c5 (α:=Int) (ρ:=Int×a7) (some (.go n)) λ(q:Int)=>(cc 8 ((cI l).take i) [q]).bind λ r=>some (.go r)) (λ(s:List Int)=>ku ⟨l,ek 0 l,[]⟩ k s (bj ((i:Int)+1)))=ku ⟨l,ek 0 l,[]⟩ k ((cI l).take (i+1)) ((i+1 :Nat):Int):=by intro n d;subst d;rw[lh,p,ae,lh,gE hi (by omega)]
   unfold m6;by_cases ap:x.ch=[]
   ·rw[lH (.inl ap),ly ap,lI];exact fin (-1) (by rw[ap,abF h])
   ·rw[lA ap,lJ];cases a:dA (g4 x.ch) l with
    |none=>have v:bC l x.ch<0:=abE.2 a;rw[lG (by simp[ap];omega),f,a];rfl
    |some j=>
     have t:bC l x.ch=(j:Int):=by unfold bC;rw[a];rfl
     rw[lH (.inr (by omega)),f,a];exact fin _ (by rw[t];simp)
  ·show ku ⟨l,ek 0 l,[]⟩ (k+1) ((cI l).take l.length) (l.length:Int)=_
   rw[ku];show cond (decide ((l.length:Int)<(l.length:Int))) _ _=_
   rw[b5,lJ,hF (by simp[cI])]
def cP(S:List Int):Nat->Int->Option (List Int)
 |0,n=>if n<0 then some []else none
 |k+1,n=>if n<0 then some []else(idx S n).bind λ m=>(cP S k m).map (n:: ·)
theorem Of{S:List Int}:∀ {k:Nat}{n:Int}{c:List Int},cP S k n=some c->cP S (k+1) n=some c
 |0,n,c,h=>by simp only[cP]at h⊢;split at h;rename_i a;rw[lH a];exact h;cases h
 |k+1,n,c,h=>by
  rw[cP]at h⊢;split at h;rename_i a;rw[lH a];exact h
  ·rename_i a;rw[lG a];cases hi:idx S n with
   |none=>rw[hi]at h;cases h
   |some m=>
    rw[hi,ae]at h;rw[ae];cases b:cP S k m with
    |none=>rw[b]at h;cases h
    |some d=>rw[b]at h;rw[Of b];exact h
theorem GF{S:List Int}{k k':Nat}{n:Int}{c:List Int}(h:cP S k n=some c)(a:k<=k'):cP S k' n=some c:=by
 obtain⟨d,rfl⟩:∃d,k'=k+d:=⟨k'-k,by omega⟩
 clear a;induction d with
 |zero=>exact h
 |succ d b=>exact Of b
theorem anL{S:List Int}{k k':Nat}{n:Int}{c a:List Int}(h:cP S k n=some c)(h':cP S k' n=some a):c=a:=by have I:=GF h (Nat.le_max_left k k');have J:=GF h' (Nat.le_max_right k k');rw[I]at J;exact eG J
theorem WV{S:List Int}:∀ {k:Nat}{n:Int}{c:List Int},cP S k n=some c->c.length<=k/\cP S c.length n=some c
 |0,n,c,h=>by simp only[cP]at h;split at h;rename_i a;injection h with h;subst h;simp[cP,a];cases h
 |k+1,n,c,h=>by
  have d:=h;rw[cP]at h;split at h;rename_i a;injection h with h;subst h;simp[cP,a]
  ·rename_i a;cases hi:idx S n with
   |none=>rw[hi]at h;cases h
   |some m=>
    rw[hi,ae]at h;cases b:cP S k m with
    |none=>rw[b]at h;cases h
    |some e=>rw[b]at h;simp only[fC,aM]at h;subst h;obtain⟨I,J⟩:=WV b;refine⟨by simpa using I,?_⟩;rw[dp,cP,lG a,hi,ae,J];rfl
theorem GG{S:List Int}:∀ {k:Nat}{n:Int}{c:List Int},cP S k n=some c->∀x∈c,(0<=x/\x<S.length)/\∃k' a,cP S k' x=some a/\a.length<=c.length/\a≠[]
 |0,n,c,h,x,b=>by simp only[cP]at h;split at h;injection h with h;subst h;cases b;cases h
 |k+1,n,c,h,x,b=>by
  have f:=h;rw[cP]at h;split at h;injection h with h;subst h;cases b
  ·rename_i j;cases hi:idx S n with
   |none=>rw[hi]at h;cases h
   |some m=>
    rw[hi,ae]at h;cases d:cP S k m with
    |none=>rw[d]at h;cases h
    |some a=>rw[d]at h;simp only[fC,aM]at h;subst h;obtain⟨o,p,_⟩:=il hi;rcases cU.1 b with rfl |e;exact⟨⟨by omega,by omega⟩,k+1,_,f,cS _,by simp⟩;obtain⟨I,k',g,J,q,i⟩:=GG d x e;exact⟨I,k',g,J,by simp only[dp];omega,i⟩
theorem WU{S:List Int}:∀ {k:Nat}{n:Int}{c:List Int},cP S k n=some c->c.Nodup
 |0,n,c,h=>by simp only[cP]at h;split at h;injection h with h;subst h;simp;cases h
 |k+1,n,c,h=>by
  have b:=h;rw[cP]at h;split at h;injection h with h;subst h;simp
  ·cases hi:idx S n with
   |none=>rw[hi]at h;cases h
   |some m=>
    rw[hi,ae]at h;cases a:cP S k m with
    |none=>rw[a]at h;cases h
    |some f=>rw[a]at h;simp only[fC,aM]at h;subst h;refine jC.2 ⟨λ d=>?_,WU a⟩;obtain⟨_,k',g,J,e,_⟩:=GG a n d;have:=anL b J;subst this;simp only[dp]at e;omega
theorem ME:∀(n:Nat)(c:List Nat),c.Nodup->(∀x∈c,x<n)->c.length<=n
 |0,c,_,h=>by
  cases c with
  |nil=>simp
  |cons x r=>exact absurd (h x (by simp)) (by omega)
 |n+1,c,aC,h=>by
  by_cases b:n∈c
  ·have I:=ME n (c.erase n) (aC.erase n) (λ x a=>by
    have J:=(aC.mem_erase_iff).1 a;have:=h x J.2;omega)
   rw[List.length_erase_of_mem b]at I;omega
  ·have:=ME n c aC (λ x a=>by
    have I:=h x a;have:x≠n:=λ e=>b (e▸a);omega)
   omega
theorem WS{S:List Int}{k:Nat}{n:Int}{c:List Int}(h:cP S k n=some c):c.length<=S.length:=by
 have d:=GG h;have aC:=WU h;have:=ME S.length (c.map Int.toNat) (by
  rw[List.Nodup,List.pairwise_map];refine List.Pairwise.imp_of_mem ?_ aC;intro a b f ag g e;have I:=(d a f).1;have J:=(d b ag).1;exact g (by omega)) (λ x i=>by
  obtain⟨y,hy,rfl⟩:=kg.1 i;have I:=(d y hy).1;omega)
 simpa using this
theorem anK{S:List Int}{k:Nat}{n:Int}(a:S.length<=k):cP S k n=cP S S.length n:=by
 cases h:cP S k n with
 |some c=>obtain⟨_,J⟩:=WV h;exact(GF J (WS h)).symm
 |none=>
  cases h':cP S S.length n with
  |none=>rfl
  |some c=>rw[GF h' a]at h;cases h
theorem abA{m:List (List UInt8×Int)}{S:List Int}{k:Nat}{n:Int}{c:List Int}(h:cP S k n=some c)(hc:c.length<=1000)(j:1001<F):n5 F ⟨l,m,S⟩ n=some c:=by
 have key:∀(k:Nat)(n:Int)(c acc:List Int)(f:Nat),cP S k n=some c->c.length<f->acc.length+c.length<=1000 ->n6 ⟨l,m,S⟩ f acc n=some (acc++c):=by
  intro k;induction k with
  |zero=>
   intro n c acc f h d _;obtain⟨f,rfl⟩:∃a,f=a+1:=⟨f-1,by omega⟩
   simp only[cP]at h;split at h;injection h with h;subst h;rw[n6,lA (by omega)];simp;cases h
  |succ k e=>
   intro n c acc f h d g;obtain⟨f,rfl⟩:∃a,f=a+1:=⟨f-1,by omega⟩
   rw[cP]at h;split at h;injection h with h;subst h;rw[n6,lA (by omega)];simp
   ·rename_i o;cases hi:idx S n with
    |none=>rw[hi]at h;cases h
    |some x=>
     rw[hi,ae]at h;cases b:cP S k x with
     |none=>rw[b]at h;cases h
     |some i=>
      rw[b]at h;simp only[fC,aM]at h;subst h;simp only[dp]at d g;rw[n6,ly (by omega),lI];unfold cc;rw[lH (by simp only[dp,g3];omega)];show((some (acc++[n])).bind λ p=>(idx S n).bind λ q=>_)=_
      rw[ae,hi,ae,e x i (acc++[n]) f b (by omega) (by simp only[fz,dp,g3];omega)];simp
 unfold n5;rw[key k n c [] F h (by omega) (by simp;omega)];rfl
end
end ad
