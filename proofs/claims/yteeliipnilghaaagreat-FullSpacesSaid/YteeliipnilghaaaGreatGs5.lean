/- Part 5 of the proof that is ended in the last text: small logic, what the functions compute, walks, plain laws. -/
import Derived.Test.YteeliipnilghaaaGreatGs4
open Int renaming le_refl->j6
open List renaming length->hr,length_pos_iff->kA,mem_append->cg,mem_singleton->dm,replicate->eF,take->k1
open Nat renaming mul_one->jl,zero_add->ji,zero_le->fY
open Option renaming map->dL,map_eq_some_iff->cF,some.injEq->aM
noncomputable section
namespace Go.Proofs.YteeliipnilghaaaGreat
open Go Go.RowKit aw I a7
set_option maxRecDepth 100000
@[reducible] def JI{α:Type}(x:List UInt8×List UInt8×List I.Field×List I.Method×α):I.al:=⟨x.1,x.2.1,x.2.2.1,x.2.2.2.1⟩
@[reducible] def dW{α:Type}(x:List Int×Int×Int×Int×Int×List Int×Int×α):I.aP:=⟨x.1,x.2.1,x.2.2.1,x.2.2.2.1,x.2.2.2.2.1,x.2.2.2.2.2.1,x.2.2.2.2.2.2.1⟩
@[reducible] def NP{α:Type}(x:Int×List UInt8×α):I.Kind:=⟨x.1,x.2.1⟩
@[reducible] def fM{α:Type}(x:List I.al×List Int×List (List I.Field)×List (List (List UInt8))×List (List I.Target)×α):I.aN:=⟨x.1,x.2.1,x.2.2.1,x.2.2.2.1,x.2.2.2.2.1⟩
@[reducible] def w8{α:Type}(x:List UInt8×Bool×List I.Kind×Int×List UInt8×Int×Int×List UInt8×List I.Handler×α):I.Method:=⟨x.1,x.2.1,x.2.2.1,⟨x.2.2.2.1,x.2.2.2.2.1⟩,x.2.2.2.2.2.1,x.2.2.2.2.2.2.1,x.2.2.2.2.2.2.2.1,x.2.2.2.2.2.2.2.2.1⟩
@[reducible] def hT{α:Type}(x:List I.al×List Int×List (List I.Field)×List (List (List UInt8))×List (List I.Target)×α):I.b4:=⟨⟨x.1,x.2.1,x.2.2.1,x.2.2.2.1,x.2.2.2.2.1⟩⟩
@[reducible] def gn:bJ:=.c 72 [.l 3,lS,lS,lS,lS,.l 3,lS,.l 134,.l 3,.l 124,.l 120,.l 121,.l 3,.l 3,.M 1]
@[reducible] def jo:bJ:=.c 72 [.l 3,lS,lS,lS,lS,.l 3,lS,.l 134,.l 3,.l 124,.l 120,.l 121,.l 3,.l 3,.M 2]
@[reducible] def oo:bJ:=.c 131 [.s,.b,.l 128,lS,.s,lS,lS,.s,.l 157]
@[reducible] def alY:bJ:=.c 24 [.R 1,lS,lS,lS,lS,.l 3,lS]
@[reducible] def jU:bJ:=.c 24 [.l 3,lS,lS,lS,lS,.l 3,lS]
@[reducible] def RU:cy:=.a [.s,.b,.l 128,lS,.s,lS,lS,.s,.l 157]
@[reducible] def kq:cy:=.a [.l 3,lS,lS,lS,lS,.l 3,lS]
@[reducible] def dV:bJ:=.c 30 [.l 134,.l 3,.l 124,.l 120,.l 121]
@[reducible] def iD:cy:=.a [.l 134,.l 3,.l 124,.l 120,.l 121]
@[reducible] def alZ:bJ:=.c 30 [.l 134,.l 3,.R 4,.R 5,.R 6]
@[reducible] def alV:bJ:=.c 30 [.l 134,.R 2,.R 3,.R 4,.R 5]
@[reducible] def jp:bJ:=.c 134 [.s,.s,.l 136,.l 131]
@[reducible] def alW:bJ:=.c 134 [.s,.s,.R 2,.R 3]
@[reducible] def my:bJ:=.c 117 [.l 134,.M 1,.R 2]
@[reducible] def eJ:bJ:=.c 117 [.l 134,.M 1,.l 3]
@[reducible] def alX:bJ:=.c 117 [.l 134,.M 2,.l 3]
def avH(F:Nat):aS aE:=⟨OL F,λ _=>awt F,rfl⟩
def WJ(k:Nat)(a:List UInt8)(b:Int)(e2:Int):=dv ((a.length:Int)=e2/\True) (bb (FE a k b))
theorem aaS(k:Nat)(a:List UInt8)(b:Int):bb (FE a k b)=WJ k a b (a.length:Int):=(dJ ⟨rfl,trivial⟩).symm
def arz(F:Nat):aS aE:=(avH F).bW 140 0 F ⟨[0,6,7,8],[.p (.s),.p (.l 5),lL,lL],[],
 [⟨⟨.nm,[0],[.p (.s)],[]⟩,Unit,λ d r=>((d.1.1,()),())⟩,
  ⟨⟨.rt,[2],[lQ],[]⟩,Bool,λ d r=>((r,()),())⟩],
 λ k d=>WJ k d.1.2.1 d.1.2.2.2.1 d.1.2.2.1⟩ (bM.bV (λ d=>dI) λ k da db q h=>by
 obtain⟨(v0:List UInt8),(v1:List UInt8),(b:Int),(v3:Int),_⟩:=da
 obtain⟨a,_⟩:=ej h
 dsimp only at a
 obtain⟨rfl,_⟩:=a
 conv=>rhs;change dL (α:=Unit⊕Bool) _ (WJ (k+1) v1 v3 (v1.length:Int));rw[<-aaS (k+1) v1 v3];simp only[FE,a',aaS];simp only[bS]
 kernel_rfl)
def aeP(F:Nat):aS aE:=(arz F).rt 140 ⟨[.p (.s)],[],[lQ],[],Bool,λ d=>p_ F d.1.1,λ d r=>((r,()),())⟩ λ da db=>by
 obtain⟨(v0:List UInt8),_⟩:=da;conv=>rhs;simp only[p_,a',aaS]
 kernel_rfl
def auh(F:Nat):aS aE:=(aeP F).rt 162 ⟨[lL],[],[lQ],[],Bool,λ d=>QG d.1.1,λ d r=>((r,()),())⟩ λ da db=>by
 conv=>rhs;simp only[QG,a']
 kernel_rfl
def auF(F:Nat):aS aE:=(auh F).rt 141 ⟨[.a [lS,.s]],[],[lQ],[],Bool,λ d=>yX F (NP d.1.1),λ d r=>((r,()),())⟩ λ da db=>by
 conv=>rhs;simp only[yX,a']
 kernel_rfl
def auQ(F:Nat):aS aE:=(auF F).rt 163 ⟨[lL,lL,lL],[],[lQ],[],Bool,λ d=>oZ d.1.1 d.1.2.1 d.1.2.2.1,λ d r=>((r,()),())⟩ λ da db=>by
 conv=>rhs;simp only[oZ,a']
 kernel_rfl
def WK(F:Nat)(k:Nat)(a:I.Method)(Cp:Int)(e1:Int)(e5:List I.Kind):=dv ((a.cD.length:Int)=e1/\(a.cD:List I.Kind)=e5/\True) (bb (BT F a k Cp))
theorem aaT(F:Nat)(k:Nat)(a:I.Method)(Cp:Int):bb (BT F a k Cp)=WK F k a Cp (a.cD.length:Int) a.cD:=(dJ ⟨rfl,rfl,trivial⟩).symm
def au1(F:Nat):aS aE:=(auQ F).bW 142 1 F ⟨[1,41,42,43],[.p (.B 0),.p (.l 128),lL,lL],[oo],
 [⟨⟨.nm,[1],[.p (.B 0)],[oo]⟩,Unit,λ d r=>(((),()),(d.2.1,()))⟩,
  ⟨⟨.rt,[2],[lL],[.d]⟩,Int,λ d r=>((r,()),((),()))⟩],
 λ k d=>WK F k (⟨d.2.1.1,d.2.1.2.1,d.1.2.1,(NP d.2.1.2.2.2),d.2.1.2.2.2.2.2.1,d.2.1.2.2.2.2.2.2.1,d.2.1.2.2.2.2.2.2.2.1,d.2.1.2.2.2.2.2.2.2.2.1⟩:I.Method) d.1.2.2.2.1 d.1.2.2.1 d.2.1.2.2.1⟩ (bM.bV (λ d=>dI) λ k da db q h=>by
 obtain⟨_,(v0:List I.Kind),(v1:Int),(c:Int),_⟩:=da
 obtain⟨⟨(v3:List UInt8),(v4:Bool),(v5:List I.Kind),(e:Int),(f:List UInt8),(g:Int),(v9:Int),(a:List UInt8),(b:List I.Handler),_⟩,_⟩:=db
 obtain⟨i,_⟩:=ej h
 dsimp only at i
 obtain⟨rfl,rfl,_⟩:=i
 conv=>rhs;change dL (α:=Unit⊕Int) _ (WK F (k+1) (⟨v3,v4,v0,(⟨e,f⟩:I.Kind),g,v9,a,b⟩:I.Method) c (v0.length:Int) (v0));rw[<-aaT F (k+1) (⟨v3,v4,v0,(⟨e,f⟩:I.Kind),g,v9,a,b⟩:I.Method) c];simp only[BT,a',aaT];simp only[bS]
 kernel_rfl)
def P2(F:Nat)(k:Nat)(a:I.Method)(b:Int)(e1:Int):=dv ((a.cL.length:Int)=e1/\True) (bb (ur F a k b))
theorem Sb(F:Nat)(k:Nat)(a:I.Method)(b:Int):bb (ur F a k b)=P2 F k (⟨[],false,[],(⟨0,[]⟩:I.Kind),0,0,[],a.cL⟩:I.Method) b (a.cL.length:Int):=(show bb (ur F a k b)=bb (ur F (⟨[],false,[],(⟨0,[]⟩:I.Kind),0,0,[],a.cL⟩:I.Method) k b) by kernel_rfl).trans (dJ ⟨rfl,trivial⟩).symm
theorem aH7(F:Nat)(k:Nat)(a:I.Method)(b:Int):bb (FI F a k b)=P2 F k (⟨[],false,[],(⟨0,[]⟩:I.Kind),0,0,[],a.cL⟩:I.Method) b (a.cL.length:Int):=(show bb (FI F a k b)=bb (ur F a k b) by kernel_rfl).trans (Sb F k a b)
def ava(F:Nat):aS aE:=(au1 F).bW 142 3 F ⟨[62,63,64],[.p (.l 157),lL,lL],[],
 [⟨⟨.nm,[],[],[]⟩,Unit,λ d r=>((),())⟩,
  ⟨⟨.rt,[2],[lL],[]⟩,Int,λ d r=>((r,()),())⟩],
 λ k d=>P2 F k (⟨[],false,[],(⟨0,[]⟩:I.Kind),0,0,[],d.1.1⟩:I.Method) d.1.2.2.1 d.1.2.1⟩ (bM.bV (λ d=>dI) λ k da db q h=>by
 obtain⟨(v0:List I.Handler),(v1:Int),(a:Int),_⟩:=da
 obtain⟨b,_⟩:=ej h
 dsimp only at b
 obtain⟨rfl,_⟩:=b
 conv=>rhs;change dL (α:=Unit⊕Int) _ (P2 F (k+1) (⟨[],false,[],(⟨0,[]⟩:I.Kind),0,0,[],v0⟩:I.Method) a (v0.length:Int));rw[<-Sb F (k+1) (⟨[],false,[],(⟨0,[]⟩:I.Kind),0,0,[],v0⟩:I.Method) a];simp only[ur,a',Sb];simp only[bS]
 kernel_rfl)
def avl(F:Nat):aS aE:=(ava F).rt 142 ⟨[RU],[],[lL],[],Int,λ d=>FH F (w8 d.1.1),λ d r=>((r,()),())⟩ λ da db=>by
 obtain⟨⟨(v0:List UInt8),(v1:Bool),(a:List I.Kind),(v3:Int),(v4:List UInt8),(v5:Int),(b:Int),(c:List UInt8),(e:List I.Handler),_⟩,_⟩:=da;conv=>rhs;simp only[FH,a',aaT,Sb,aH7]
 kernel_rfl
def P0(F:Nat)(k:Nat)(c_:I.al)(a:Int)(e1:Int)(e5:List I.Field):=dv ((c_.Fields.length:Int)=e1/\(c_.Fields:List I.Field)=e5/\True) (bb (yW F c_ k a))
theorem R'(F:Nat)(k:Nat)(c_:I.al)(a:Int):bb (yW F c_ k a)=P0 F k c_ a (c_.Fields.length:Int) c_.Fields:=(dJ ⟨rfl,rfl,trivial⟩).symm
theorem aH5(F:Nat)(k:Nat)(c_:I.al)(a:Int):bb (FF F c_ k a)=P0 F k c_ a (c_.Fields.length:Int) c_.Fields:=(show bb (FF F c_ k a)=bb (yW F c_ k a) by kernel_rfl).trans (R' F k c_ a)
def avw(F:Nat):aS aE:=(avl F).bW 107 1 F ⟨[1,36,37,38],[.p (.B 0),.p (.l 136),lL,lL],[jp],
 [⟨⟨.nm,[1],[.p (.B 0)],[jp]⟩,Unit,λ d r=>(((),()),(d.2.1,()))⟩,
  ⟨⟨.rt,[2],[lL],[.d]⟩,Int,λ d r=>((r,()),((),()))⟩],
 λ k d=>P0 F k (⟨d.2.1.1,d.2.1.2.1,d.1.2.1,d.2.1.2.2.2.1⟩:I.al) d.1.2.2.2.1 d.1.2.2.1 d.2.1.2.2.1⟩ (bM.bV (λ d=>dI) λ k da db q h=>by
 obtain⟨_,(v0:List I.Field),(v1:Int),(a:Int),_⟩:=da
 obtain⟨⟨(v3:List UInt8),(v4:List UInt8),(v5:List I.Field),(b:List I.Method),_⟩,_⟩:=db
 obtain⟨c,_⟩:=ej h
 dsimp only at c
 obtain⟨rfl,rfl,_⟩:=c
 conv=>rhs;change dL (α:=Unit⊕Int) _ (P0 F (k+1) (⟨v3,v4,v0,b⟩:I.al) a (v0.length:Int) (v0));rw[<-R' F (k+1) (⟨v3,v4,v0,b⟩:I.al) a];simp only[yW,a',R'];simp only[bS]
 kernel_rfl)
def P1(F:Nat)(k:Nat)(c_:I.al)(a:Int)(e1:Int):=dv ((c_.bn.length:Int)=e1/\True) (bb (uq F c_ k a))
theorem Sa(F:Nat)(k:Nat)(c_:I.al)(a:Int):bb (uq F c_ k a)=P1 F k (⟨[],[],[],c_.bn⟩:I.al) a (c_.bn.length:Int):=(show bb (uq F c_ k a)=bb (uq F (⟨[],[],[],c_.bn⟩:I.al) k a) by kernel_rfl).trans (dJ ⟨rfl,trivial⟩).symm
theorem aH6(F:Nat)(k:Nat)(c_:I.al)(a:Int):bb (FG F c_ k a)=P1 F k (⟨[],[],[],c_.bn⟩:I.al) a (c_.bn.length:Int):=(show bb (FG F c_ k a)=bb (uq F c_ k a) by kernel_rfl).trans (Sa F k c_ a)
def arA(F:Nat):aS aE:=(avw F).bW 107 4 F ⟨[54,55,56],[.p (.l 131),lL,lL],[],
 [⟨⟨.nm,[],[],[]⟩,Unit,λ d r=>((),())⟩,
  ⟨⟨.rt,[2],[lL],[]⟩,Int,λ d r=>((r,()),())⟩],
 λ k d=>P1 F k (⟨[],[],[],d.1.1⟩:I.al) d.1.2.2.1 d.1.2.1⟩ (bM.bV (λ d=>dI) λ k da db q h=>by
 obtain⟨(v0:List I.Method),(v1:Int),(a:Int),_⟩:=da
 obtain⟨b,_⟩:=ej h
 dsimp only at b
 obtain⟨rfl,_⟩:=b
 conv=>rhs;change dL (α:=Unit⊕Int) _ (P1 F (k+1) (⟨[],[],[],v0⟩:I.al) a (v0.length:Int));rw[<-Sa F (k+1) (⟨[],[],[],v0⟩:I.al) a];simp only[uq,a',Sa];simp only[bS]
 kernel_rfl)
def arL(F:Nat):aS aE:=(arA F).rt 107 ⟨[.a [.s,.s,.l 136,.l 131]],[],[lL],[],Int,λ d=>Mk F (JI d.1.1),λ d r=>((r,()),())⟩ λ da db=>by
 obtain⟨⟨(v0:List UInt8),(v1:List UInt8),(a:List I.Field),(v3:List I.Method),_⟩,_⟩:=da;conv=>rhs;simp only[Mk,a',R',aH5,Sa,aH6]
 kernel_rfl
def WI(F:Nat)(k:Nat)(a:List I.al)(b:Int)(e1:Int):=dv ((a.length:Int)=e1/\True) (bb (BS F a k b))
theorem aaR(F:Nat)(k:Nat)(a:List I.al)(b:Int):bb (BS F a k b)=WI F k a b (a.length:Int):=(dJ ⟨rfl,trivial⟩).symm
def arW(F:Nat):aS aE:=(arL F).bW 74 0 F ⟨[9,10,11],[.p (.l 134),lL,lL],[],
 [⟨⟨.nm,[],[],[]⟩,Unit,λ d r=>((),())⟩,
  ⟨⟨.rt,[2],[lL],[]⟩,Int,λ d r=>((r,()),())⟩],
 λ k d=>WI F k d.1.1 d.1.2.2.1 d.1.2.1⟩ (bM.bV (λ d=>dI) λ k da db q h=>by
 obtain⟨(v0:List I.al),(v1:Int),(a:Int),_⟩:=da
 obtain⟨b,_⟩:=ej h
 dsimp only at b
 obtain⟨rfl,_⟩:=b
 conv=>rhs;change dL (α:=Unit⊕Int) _ (WI F (k+1) v0 a (v0.length:Int));rw[<-aaR F (k+1) v0 a];simp only[BS,a',aaR];simp only[bS]
 kernel_rfl)
def ar7(F:Nat):aS aE:=(arW F).rt 74 ⟨[.p (.l 134)],[],[lL],[],Int,λ d=>Mj F d.1.1,λ d r=>((r,()),())⟩ λ da db=>by
 obtain⟨(v0:List I.al),_⟩:=da;conv=>rhs;simp only[Mj,a',aaR]
 kernel_rfl
def asg(F:Nat):aS aE:=(ar7 F).bW 75 2 F ⟨[3,5,8,9,10,23,24,25],[.p (.R 0),.p (.B 1),.p (.l 134),lL,lL,.p (.R 3),lL,lL],[.r 134 false,alW,.r 136 true,.r 131 true],
 [⟨⟨.nm,[3,5,8,9,10],[.p (.R 0),.p (.B 1),.p (.l 134),lL,lL],[.r 134 false,alW,.r 136 true,.r 131 true]⟩,List I.Method,λ d r=>(((),(),d.1.2.2.1,d.1.2.2.2.1,d.1.2.2.2.2.1,()),(d.2.1,(d.2.2.1.1,d.2.2.1.2.1,(),(),()),d.2.2.2.1,r,()))⟩],
 λ k d=>wF k d.2.2.2.2.1 d.1.2.2.2.2.2.2.1 d.1.2.2.2.2.2.2.2.1⟩ (bM.bV (λ d=>rfl) λ k da db q h=>by
 obtain⟨_,_,(v0:List I.al),(v1:Int),(a:Int),_,(v3:Int),(v4:Int),_⟩:=da
 obtain⟨(v5:List I.al),⟨(b:List UInt8),(c:List UInt8),_,_,_⟩,(e:List I.Field),(v9:List I.Method),_⟩:=db
 conv=>rhs;simp only[wF,a',acp,acq];simp only[bS]
 kernel_rfl)
def W5(F:Nat)(k:Nat)(a:List I.al)(b:List I.al)(c:Int)(e1:Int):=dv ((a.length:Int)=e1/\True) (uF F a k b c)
theorem abb(F:Nat)(k:Nat)(a:List I.al)(b:List I.al)(c:Int):uF F a k b c=W5 F k a b c (a.length:Int):=(dJ ⟨rfl,trivial⟩).symm
def ass(F:Nat):aS aE:=(asg F).bW 75 0 F ⟨[3,8,9,10],[.p (.R 0),.p (.l 134),lL,lL],[.r 134 false],
 [⟨⟨.nm,[3],[.p (.R 0)],[.r 134 false]⟩,List I.al,λ d r=>(((),()),(r,()))⟩],
 λ k d=>W5 F k d.1.2.1 d.2.1 d.1.2.2.2.1 d.1.2.2.1⟩ (bM.bV (λ d=>dI) λ k da db q h=>by
 obtain⟨_,(v0:List I.al),(v1:Int),(a:Int),_⟩:=da
 obtain⟨(v3:List I.al),_⟩:=db
 obtain⟨b,_⟩:=ej h
 dsimp only at b
 obtain⟨rfl,_⟩:=b
 conv=>rhs;change dL (α:=List I.al) _ (W5 F (k+1) v0 v3 a (v0.length:Int));rw[<-abb F (k+1) v0 v3 a];simp only[uF,a',abb,aco,acr];simp only[bS]
 kernel_rfl)
def asD(F:Nat):aS aE:=(ass F).rt 75 ⟨[.p (.l 134)],[],[.p (.l 134)],[],List I.al,λ d=>Mz F d.1.1,λ d r=>((r,()),())⟩ λ da db=>by
 obtain⟨(v0:List I.al),_⟩:=da;conv=>rhs;simp only[Mz,a',abb]
 kernel_rfl
def WV(k:Nat)(a:I.bt)(b:List ((List UInt8)×Int))(c:Int)(e1:Int)(e3:List I.al):=dv ((a.l.length:Int)=e1/\(a.l:List I.al)=e3/\True) (bb (rc a k b c))
theorem aa3(k:Nat)(a:I.bt)(b:List ((List UInt8)×Int))(c:Int):bb (rc a k b c)=WV k (⟨a.l,[],a.dC⟩:I.bt) b c (a.l.length:Int) a.l:=(show bb (rc a k b c)=bb (rc (⟨a.l,[],a.dC⟩:I.bt) k b c) by kernel_rfl).trans (dJ ⟨rfl,rfl,trivial⟩).symm
def asO(F:Nat):aS aE:=(asD F).bW 76 0 F ⟨[0,14,15,16],[.p (.B 0),.p (.l 134),lL,lL],[my,.m 9 3,.r 3 true],
 [⟨⟨.nm,[0],[.p (.B 0)],[my,.m 9 3,.r 3 true]⟩,List ((List UInt8)×Int),λ d r=>(((),()),((d.2.1.1,(),(),()),r,d.2.2.2.1,()))⟩,
  ⟨⟨.rt,[2],[lL],[my,.m 9 3,.r 3 true]⟩,Int×I.bt,λ d r=>((r.1,()),((d.2.1.1,(),(),()),r.2.bZ,d.2.2.2.1,()))⟩],
 λ k d=>WV k (⟨d.1.2.1,[],d.2.2.2.1⟩:I.bt) d.2.2.1 d.1.2.2.2.1 d.1.2.2.1 d.2.1.1⟩ (bM.bV (λ d=>dI) λ k da db q h=>by
 obtain⟨_,(v0:List I.al),(v1:Int),(a:Int),_⟩:=da
 obtain⟨⟨(v3:List I.al),_,_,_⟩,(v4:List ((List UInt8)×Int)),(v5:List Int),_⟩:=db
 obtain⟨b,_⟩:=ej h
 dsimp only at b
 obtain⟨rfl,rfl,_⟩:=b
 conv=>rhs;change dL (α:=(List ((List UInt8)×Int))⊕(Int×I.bt)) _ (WV (k+1) (⟨v0,[],v5⟩:I.bt) v4 a (v0.length:Int) (v0));rw[<-aa3 (k+1) (⟨v0,[],v5⟩:I.bt) v4 a];simp only[rc,a',aa3];simp only[bS]
 kernel_rfl)
def asZ(F:Nat):aS aE:=(asO F).rt 76 ⟨[.p (.B 0)],[my,.m 9 3,.r 3 true],[lL],[my,.m 9 3,.r 3 true],Int×I.bt,λ d=>IP F (⟨d.2.1.1,d.2.2.1,d.2.2.2.1⟩:I.bt),λ d r=>((r.1,()),((d.2.1.1,(),(),()),r.2.bZ,d.2.2.2.1,()))⟩ λ da db=>by
 obtain⟨_,_⟩:=da;obtain⟨⟨(v0:List I.al),_,_,_⟩,(v1:List ((List UInt8)×Int)),(a:List Int),_⟩:=db;conv=>rhs;simp only[IP,a',aa3]
 kernel_rfl
def WM(k:Nat)(a:I.bt)(Cr:Int)(e1:Int)(e3:List I.al):=dv ((a.l.length:Int)=e1/\(a.l:List I.al)=e3/\True) (bb (zm a k Cr))
theorem aaV(k:Nat)(a:I.bt)(Cr:Int):bb (zm a k Cr)=WM k a Cr (a.l.length:Int) a.l:=(dJ ⟨rfl,rfl,trivial⟩).symm
def as_(F:Nat):aS aE:=(asZ F).bW 77 0 F ⟨[0,14,15,16],[.p (.B 0),.p (.l 134),lL,lL],[my,.m 9 3,.r 3 true],
 [⟨⟨.nm,[0],[.p (.B 0)],[my,.m 9 3,.r 3 true]⟩,Unit,λ d r=>(((),()),((d.2.1.1,(),(),()),d.2.2.1,d.2.2.2.1,()))⟩,
  ⟨⟨.rt,[2],[lL],[my,.m 9 3,.r 3 true]⟩,Int×I.bt,λ d r=>((r.1,()),((d.2.1.1,(),(),()),d.2.2.1,r.2.dC,()))⟩],
 λ k d=>WM k (⟨d.1.2.1,d.2.2.1,d.2.2.2.1⟩:I.bt) d.1.2.2.2.1 d.1.2.2.1 d.2.1.1⟩ (bM.bV (λ d=>dI) λ k da db q h=>by
 obtain⟨_,(v0:List I.al),(v1:Int),(a:Int),_⟩:=da
 obtain⟨⟨(v3:List I.al),_,_,_⟩,(v4:List ((List UInt8)×Int)),(v5:List Int),_⟩:=db
 obtain⟨b,_⟩:=ej h
 dsimp only at b
 obtain⟨rfl,rfl,_⟩:=b
 conv=>rhs;change dL (α:=Unit⊕(Int×I.bt)) _ (WM (k+1) (⟨v0,v4,v5⟩:I.bt) a (v0.length:Int) (v0));rw[<-aaV (k+1) (⟨v0,v4,v5⟩:I.bt) a];simp only[zm,a',aaV];simp only[bS]
 kernel_rfl)
def WN(k:Nat)(a:I.bt)(b:List Int)(c:Int)(e1:Int)(e3:List I.al):=dv ((a.l.length:Int)=e1/\(a.l:List I.al)=e3/\True) (bb (o6 a k b c))
theorem aaW(k:Nat)(a:I.bt)(b:List Int)(c:Int):bb (o6 a k b c)=WN k (⟨a.l,a.bZ,[]⟩:I.bt) b c (a.l.length:Int) a.l:=(show bb (o6 a k b c)=bb (o6 (⟨a.l,a.bZ,[]⟩:I.bt) k b c) by kernel_rfl).trans (dJ ⟨rfl,rfl,trivial⟩).symm
def atj(F:Nat):aS aE:=(as_ F).bW 77 2 F ⟨[0,31,32,33],[.p (.B 0),.p (.l 134),lL,lL],[my,.m 9 3,.r 3 false],
 [⟨⟨.nm,[0],[.p (.B 0)],[my,.m 9 3,.r 3 false]⟩,List Int,λ d r=>(((),()),((d.2.1.1,(),(),()),d.2.2.1,r,()))⟩,
  ⟨⟨.rt,[2],[lL],[my,.m 9 3,.r 3 false]⟩,Int×I.bt,λ d r=>((r.1,()),((d.2.1.1,(),(),()),d.2.2.1,r.2.dC,()))⟩],
 λ k d=>WN k (⟨d.1.2.1,d.2.2.1,[]⟩:I.bt) d.2.2.2.1 d.1.2.2.2.1 d.1.2.2.1 d.2.1.1⟩ (bM.bV (λ d=>dI) λ k da db q h=>by
 obtain⟨_,(v0:List I.al),(v1:Int),(a:Int),_⟩:=da
 obtain⟨⟨(v3:List I.al),_,_,_⟩,(v4:List ((List UInt8)×Int)),(v5:List Int),_⟩:=db
 obtain⟨b,_⟩:=ej h
 dsimp only at b
 obtain⟨rfl,rfl,_⟩:=b
 conv=>rhs;change dL (α:=(List Int)⊕(Int×I.bt)) _ (WN (k+1) (⟨v0,v4,[]⟩:I.bt) v5 a (v0.length:Int) (v0));rw[<-aaW (k+1) (⟨v0,v4,[]⟩:I.bt) v5 a];simp only[o6,a',aaW];simp only[bS]
 kernel_rfl)
def WQ(k:Nat)(a:I.bt)(b:List Int)(c:Int)(d:Int)(e1:Int)(e3:Int):=dv ((a.l.length:Int)=e1/\(a.l.length:Int)=e3/\True) (wD a b k c d)
theorem aaY(k:Nat)(a:I.bt)(b:List Int)(c:Int)(d:Int):wD a b k c d=WQ k (⟨a.l,a.bZ,[]⟩:I.bt) b c d (a.l.length:Int) (a.l.length:Int):=(show wD a b k c d=wD (⟨a.l,a.bZ,[]⟩:I.bt) b k c d by kernel_rfl).trans (dJ ⟨rfl,rfl,trivial⟩).symm
def att(F:Nat):aS aE:=(atj F).bW 77 7 F ⟨[0,10,69,70,78,79],[.p (.B 0),lL,lL,lL,lL,lL],[my,.m 9 3,.r 3 true],
 [⟨⟨.nm,[0,10,69,70],[.p (.B 0),lL,lL,lL],[my,.m 9 3,.r 3 true]⟩,Int,λ d r=>(((),r,d.1.2.2.1,d.1.2.2.2.1,()),((d.2.1.1,(),(),()),d.2.2.1,d.2.2.2.1,()))⟩],
 λ k d=>WQ k (⟨d.2.1.1,d.2.2.1,[]⟩:I.bt) d.2.2.2.1 d.1.2.1 d.1.2.2.2.2.2.1 d.1.2.2.1 d.1.2.2.2.2.1⟩ (bM.bV (λ d=>dI) λ k da db q h=>by
 obtain⟨_,(v0:Int),(v1:Int),(e:Int),(v3:Int),(v4:Int),_⟩:=da
 obtain⟨⟨(v5:List I.al),_,_,_⟩,(a:List ((List UInt8)×Int)),(b:List Int),_⟩:=db
 obtain⟨c,_⟩:=ej h
 dsimp only at c
 obtain⟨rfl,rfl,_⟩:=c
 conv=>rhs;change dL (α:=Int) _ (WQ (k+1) (⟨v5,a,[]⟩:I.bt) b v0 v4 (v5.length:Int) (v5.length:Int));rw[<-aaY (k+1) (⟨v5,a,[]⟩:I.bt) b v0 v4];simp only[wD,a',aaY];simp only[bS]
 kernel_rfl)
def WO(F:Nat)(k:Nat)(a:I.bt)(b:List Int)(c:Int)(b8:Int):=dv ((a.l.length:Int)=b8/\True) (bb (uy F a b k c))
theorem aaX(F:Nat)(k:Nat)(a:I.bt)(b:List Int)(c:Int):bb (uy F a b k c)=WO F k (⟨a.l,a.bZ,[]⟩:I.bt) b c (a.l.length:Int):=(show bb (uy F a b k c)=bb (uy F (⟨a.l,a.bZ,[]⟩:I.bt) b k c) by kernel_rfl).trans (dJ ⟨rfl,trivial⟩).symm
def atE(F:Nat):aS aE:=(att F).bW 77 5 F ⟨[0,69,70],[.p (.B 0),lL,lL],[my,.m 9 3,.r 3 true],
 [⟨⟨.nm,[],[],[my,.m 9 3,.r 3 true]⟩,Unit,λ d r=>((),((d.2.1.1,(),(),()),d.2.2.1,d.2.2.2.1,()))⟩,
  ⟨⟨.rt,[2],[lL],[my,.m 9 3,.r 3 true]⟩,Int×I.bt,λ d r=>((r.1,()),((d.2.1.1,(),(),()),d.2.2.1,r.2.dC,()))⟩],
 λ k d=>WO F k (⟨d.2.1.1,d.2.2.1,[]⟩:I.bt) d.2.2.2.1 d.1.2.2.1 d.1.2.1⟩ (bM.bV (λ d=>dI) λ k da db q h=>by
 obtain⟨_,(v0:Int),(v1:Int),_⟩:=da
 obtain⟨⟨(a:List I.al),_,_,_⟩,(v3:List ((List UInt8)×Int)),(v4:List Int),_⟩:=db
 obtain⟨b,_⟩:=ej h
 dsimp only at b
 obtain⟨rfl,_⟩:=b
 conv=>rhs;change dL (α:=Unit⊕(Int×I.bt)) _ (WO F (k+1) (⟨a,v3,[]⟩:I.bt) v4 v1 (a.length:Int));rw[<-aaX F (k+1) (⟨a,v3,[]⟩:I.bt) v4 v1];simp only[uy,a',aaY,aaX];simp only[bS]
 kernel_rfl)
def atP(F:Nat):aS aE:=(atE F).rt 77 ⟨[.p (.B 0)],[my,.m 9 3,.r 3 false],[lL],[my,.m 9 3,.r 3 false],Int×I.bt,λ d=>Q9 F (⟨d.2.1.1,d.2.2.1,d.2.2.2.1⟩:I.bt),λ d r=>((r.1,()),((d.2.1.1,(),(),()),d.2.2.1,r.2.dC,()))⟩ λ da db=>by
 obtain⟨_,_⟩:=da;obtain⟨⟨(v0:List I.al),_,_,_⟩,(v1:List ((List UInt8)×Int)),(a:List Int),_⟩:=db;conv=>rhs;simp only[Q9,a',aaV,aaW,aaX]
 kernel_rfl
def at1(F:Nat):aS aE:=(atP F).rt 78 ⟨[.p (.B 0)],[eJ,.m 9 3],[lL],[eJ,.m 9 3],Int,λ d=>Q_ F (⟨d.2.1.1,d.2.2.1,d.2.1.2.2.1⟩:I.bt),λ d r=>((r,()),((d.2.1.1,(),d.2.1.2.2.1,()),d.2.2.1,()))⟩ λ da db=>by
 conv=>rhs;simp only[Q_,a']
 kernel_rfl
def at5(F:Nat):aS aE:=(at1 F).rt 112 ⟨[.a [lS,.s],.p (.B 0)],[.c 120 [.R 1],.r 9 false],[],[.c 120 [.R 1],.r 9 false],List (List UInt8),λ d=>F5 (NP d.1.1) d.2.2.1,λ d r=>((),(((),()),r,()))⟩ λ da db=>by
 conv=>rhs;simp only[F5,a']
 kernel_rfl
def W0(k:Nat)(a:I.al)(c:List (List UInt8))(d:Int)(e4:Int)(b:List I.Field):=dv ((a.Fields.length:Int)=e4/\(a.Fields:List I.Field)=b/\True) (zp a k c d)
theorem aa8(k:Nat)(a:I.al)(b:List (List UInt8))(c:Int):zp a k b c=W0 k a b c (a.Fields.length:Int) a.Fields:=(dJ ⟨rfl,rfl,trivial⟩).symm
def at6(F:Nat):aS aE:=(at5 F).bW 79 2 F ⟨[0,3,4,6,23,24,25,30,31,32],[.p (.B 0),.p (.B 2),.f 112 [.B 2],.p (.B 4),.p (.l 134),lL,lL,.p (.l 136),lL,lL],[eJ,.m 9 3,.c 120 [.R 3],.r 9 false,jp],
 [⟨⟨.nm,[0,3,4,6,23,24,25],[.p (.B 0),.p (.B 2),.f 112 [.B 2],.p (.B 4),.p (.l 134),lL,lL],[eJ,.m 9 3,.c 120 [.R 3],.r 9 false,jp]⟩,List (List UInt8),λ d r=>(((),(),((),()),(),d.1.2.2.2.2.1,d.1.2.2.2.2.2.1,d.1.2.2.2.2.2.2.1,()),((d.2.1.1,(),d.2.1.2.2.1,()),d.2.2.1,((),()),r,d.2.2.2.2.2.1,()))⟩],
 λ k d=>W0 k (⟨d.2.2.2.2.2.1.1,d.2.2.2.2.2.1.2.1,d.1.2.2.2.2.2.2.2.1,d.2.2.2.2.2.1.2.2.2.1⟩:I.al) d.2.2.2.2.1 d.1.2.2.2.2.2.2.2.2.2.1 d.1.2.2.2.2.2.2.2.2.1 d.2.2.2.2.2.1.2.2.1⟩ (bM.bV (λ d=>dI) λ k da db q h=>by
 obtain⟨_,_,⟨_,_⟩,_,(v0:List I.al),(v1:Int),(g:Int),(v3:List I.Field),(v4:Int),(v5:Int),_⟩:=da
 obtain⟨⟨(i:List I.al),_,(j:List Int),_⟩,(l:List ((List UInt8)×Int)),⟨_,_⟩,(v9:List (List UInt8)),⟨(a:List UInt8),(b:List UInt8),(f:List I.Field),(c:List I.Method),_⟩,_⟩:=db
 obtain⟨e,_⟩:=ej h
 dsimp only at e
 obtain⟨rfl,rfl,_⟩:=e
 conv=>rhs;change dL (α:=List (List UInt8)) _ (W0 (k+1) (⟨a,b,v3,c⟩:I.al) v9 v5 (v3.length:Int) (v3));rw[<-aa8 (k+1) (⟨a,b,v3,c⟩:I.al) v9 v5];simp only[zp,a',aa8];simp only[bS]
 kernel_rfl)
def W2(k:Nat)(a:I.Method)(c:List (List UInt8))(d:Int)(e7:Int)(b:List I.Kind):=dv ((a.cD.length:Int)=e7/\(a.cD:List I.Kind)=b/\True) (zq a k c d)
theorem aa_(k:Nat)(a:I.Method)(b:List (List UInt8))(c:Int):zq a k b c=W2 k a b c (a.cD.length:Int) a.cD:=(dJ ⟨rfl,rfl,trivial⟩).symm
def aue(F:Nat):aS aE:=(at6 F).bW 79 6 F ⟨[0,3,4,10,23,24,25,42,43,44,49,50,51],[.p (.B 0),.p (.B 2),.f 112 [.B 2],.p (.B 4),.p (.l 134),lL,lL,.p (.l 131),lL,lL,.p (.l 128),lL,lL],[eJ,.m 9 3,.c 120 [.R 3],.r 9 false,oo],
 [⟨⟨.nm,[0,3,4,10,23,24,25,42,43,44],[.p (.B 0),.p (.B 2),.f 112 [.B 2],.p (.B 4),.p (.l 134),lL,lL,.p (.l 131),lL,lL],[eJ,.m 9 3,.c 120 [.R 3],.r 9 false,oo]⟩,List (List UInt8),λ d r=>(((),(),((),()),(),d.1.2.2.2.2.1,d.1.2.2.2.2.2.1,d.1.2.2.2.2.2.2.1,d.1.2.2.2.2.2.2.2.1,d.1.2.2.2.2.2.2.2.2.1,d.1.2.2.2.2.2.2.2.2.2.1,()),((d.2.1.1,(),d.2.1.2.2.1,()),d.2.2.1,((),()),r,d.2.2.2.2.2.1,()))⟩],
 λ k d=>W2 k (⟨d.2.2.2.2.2.1.1,d.2.2.2.2.2.1.2.1,d.1.2.2.2.2.2.2.2.2.2.2.1,(NP d.2.2.2.2.2.1.2.2.2),d.2.2.2.2.2.1.2.2.2.2.2.1,d.2.2.2.2.2.1.2.2.2.2.2.2.1,d.2.2.2.2.2.1.2.2.2.2.2.2.2.1,d.2.2.2.2.2.1.2.2.2.2.2.2.2.2.1⟩:I.Method) d.2.2.2.2.1 d.1.2.2.2.2.2.2.2.2.2.2.2.2.1 d.1.2.2.2.2.2.2.2.2.2.2.2.1 d.2.2.2.2.2.1.2.2.1⟩ (bM.bV (λ d=>dI) λ k da db q h=>by
 obtain⟨_,_,⟨_,_⟩,_,(v0:List I.al),(v1:Int),(t:Int),(v3:List I.Method),(v4:Int),(v5:Int),(f:List I.Kind),(u:Int),(g:Int),_⟩:=da
 obtain⟨⟨(v9:List I.al),_,(p:List Int),_⟩,(s:List ((List UInt8)×Int)),⟨_,_⟩,(a:List (List UInt8)),⟨(i:List UInt8),(j:Bool),(v:List I.Kind),(l:Int),(b:List UInt8),(m:Int),(n:Int),(c:List UInt8),(e:List I.Handler),_⟩,_⟩:=db
 obtain⟨o,_⟩:=ej h
 dsimp only at o
 obtain⟨rfl,rfl,_⟩:=o
 conv=>rhs;change dL (α:=List (List UInt8)) _ (W2 (k+1) (⟨i,j,f,(⟨l,b⟩:I.Kind),m,n,c,e⟩:I.Method) a g (f.length:Int) (f));rw[<-aa_ (k+1) (⟨i,j,f,(⟨l,b⟩:I.Kind),m,n,c,e⟩:I.Method) a g];simp only[zq,a',aa_];simp only[bS]
 kernel_rfl)
def W3(k:Nat)(a:I.Method)(b:List (List UInt8))(c:Int)(e7:Int):=dv ((a.cL.length:Int)=e7/\True) (uE a k b c)
theorem aa'(k:Nat)(a:I.Method)(b:List (List UInt8))(c:Int):uE a k b c=W3 k (⟨[],false,[],(⟨0,[]⟩:I.Kind),0,0,[],a.cL⟩:I.Method) b c (a.cL.length:Int):=(show uE a k b c=uE (⟨[],false,[],(⟨0,[]⟩:I.Kind),0,0,[],a.cL⟩:I.Method) k b c by kernel_rfl).trans (dJ ⟨rfl,trivial⟩).symm
def auf(F:Nat):aS aE:=(aue F).bW 79 8 F ⟨[0,3,4,23,24,25,42,43,44,64,65,66],[.p (.B 0),.p (.B 2),.f 112 [.B 2],.p (.l 134),lL,lL,.p (.l 131),lL,lL,.p (.l 157),lL,lL],[eJ,.m 9 3,.c 120 [.R 3],.r 9 false],
 [⟨⟨.nm,[0,3,4,23,24,25,42,43,44],[.p (.B 0),.p (.B 2),.f 112 [.B 2],.p (.l 134),lL,lL,.p (.l 131),lL,lL],[eJ,.m 9 3,.c 120 [.R 3],.r 9 false]⟩,List (List UInt8),λ d r=>(((),(),((),()),d.1.2.2.2.1,d.1.2.2.2.2.1,d.1.2.2.2.2.2.1,d.1.2.2.2.2.2.2.1,d.1.2.2.2.2.2.2.2.1,d.1.2.2.2.2.2.2.2.2.1,()),((d.2.1.1,(),d.2.1.2.2.1,()),d.2.2.1,((),()),r,()))⟩],
 λ k d=>W3 k (⟨[],false,[],(⟨0,[]⟩:I.Kind),0,0,[],d.1.2.2.2.2.2.2.2.2.2.1⟩:I.Method) d.2.2.2.2.1 d.1.2.2.2.2.2.2.2.2.2.2.2.1 d.1.2.2.2.2.2.2.2.2.2.2.1⟩ (bM.bV (λ d=>dI) λ k da db q h=>by
 obtain⟨_,_,⟨_,_⟩,(v0:List I.al),(v1:Int),(i:Int),(v3:List I.Method),(v4:Int),(v5:Int),(b:List I.Handler),(j:Int),(c:Int),_⟩:=da
 obtain⟨⟨(v9:List I.al),_,(f:List Int),_⟩,(g:List ((List UInt8)×Int)),⟨_,_⟩,(a:List (List UInt8)),_⟩:=db
 obtain⟨e,_⟩:=ej h
 dsimp only at e
 obtain⟨rfl,_⟩:=e
 conv=>rhs;change dL (α:=List (List UInt8)) _ (W3 (k+1) (⟨[],false,[],(⟨0,[]⟩:I.Kind),0,0,[],b⟩:I.Method) a c (b.length:Int));rw[<-aa' (k+1) (⟨[],false,[],(⟨0,[]⟩:I.Kind),0,0,[],b⟩:I.Method) a c];simp only[uE,a',aa'];simp only[bS]
 kernel_rfl)
def W1(F:Nat)(k:Nat)(a:I.al)(b:List (List UInt8))(c:Int)(e4:Int):=dv ((a.bn.length:Int)=e4/\True) (uD F a k b c)
theorem aa9(F:Nat)(k:Nat)(a:I.al)(b:List (List UInt8))(c:Int):uD F a k b c=W1 F k (⟨[],[],[],a.bn⟩:I.al) b c (a.bn.length:Int):=(show uD F a k b c=uD F (⟨[],[],[],a.bn⟩:I.al) k b c by kernel_rfl).trans (dJ ⟨rfl,trivial⟩).symm
def aug(F:Nat):aS aE:=(auf F).bW 79 4 F ⟨[0,3,4,23,24,25,42,43,44],[.p (.B 0),.p (.B 2),.f 112 [.B 2],.p (.l 134),lL,lL,.p (.l 131),lL,lL],[eJ,.m 9 3,.c 120 [.R 3],.r 9 false],
 [⟨⟨.nm,[0,3,4,23,24,25],[.p (.B 0),.p (.B 2),.f 112 [.B 2],.p (.l 134),lL,lL],[eJ,.m 9 3,.c 120 [.R 3],.r 9 false]⟩,List (List UInt8),λ d r=>(((),(),((),()),d.1.2.2.2.1,d.1.2.2.2.2.1,d.1.2.2.2.2.2.1,()),((d.2.1.1,(),d.2.1.2.2.1,()),d.2.2.1,((),()),r,()))⟩],
 λ k d=>W1 F k (⟨[],[],[],d.1.2.2.2.2.2.2.1⟩:I.al) d.2.2.2.2.1 d.1.2.2.2.2.2.2.2.2.1 d.1.2.2.2.2.2.2.2.1⟩ (bM.bV (λ d=>dI) λ k da db q h=>by
 obtain⟨_,_,⟨_,_⟩,(v0:List I.al),(v1:Int),(b:Int),(v3:List I.Method),(v4:Int),(v5:Int),_⟩:=da
 obtain⟨⟨(c:List I.al),_,(e:List Int),_⟩,(f:List ((List UInt8)×Int)),⟨_,_⟩,(v9:List (List UInt8)),_⟩:=db
 obtain⟨a,_⟩:=ej h
 dsimp only at a
 obtain⟨rfl,_⟩:=a
 conv=>rhs;change dL (α:=List (List UInt8)) _ (W1 F (k+1) (⟨[],[],[],v3⟩:I.al) v9 v5 (v3.length:Int));rw[<-aa9 F (k+1) (⟨[],[],[],v3⟩:I.al) v9 v5];simp only[uD,a',aa_,aa',aa9];simp only[bS]
 kernel_rfl)
def WZ(F:Nat)(k:Nat)(a:I.bt)(b:List (List UInt8))(c:Int)(e1:Int)(e3:List I.al):=dv ((a.l.length:Int)=e1/\(a.l:List I.al)=e3/\True) (zo F a k b c)
theorem aa7(F:Nat)(k:Nat)(a:I.bt)(b:List (List UInt8))(c:Int):zo F a k b c=WZ F k a b c (a.l.length:Int) a.l:=(dJ ⟨rfl,rfl,trivial⟩).symm
def aui(F:Nat):aS aE:=(aug F).bW 79 0 F ⟨[0,3,4,23,24,25],[.p (.B 0),.p (.B 2),.f 112 [.B 2],.p (.l 134),lL,lL],[eJ,.m 9 3,.c 120 [.R 3],.r 9 false],
 [⟨⟨.nm,[0,3],[.p (.B 0),.p (.B 2)],[eJ,.m 9 3,.c 120 [.R 3],.r 9 false]⟩,List (List UInt8),λ d r=>(((),(),()),((d.2.1.1,(),d.2.1.2.2.1,()),d.2.2.1,((),()),r,()))⟩],
 λ k d=>WZ F k (⟨d.1.2.2.2.1,d.2.2.1,d.2.1.2.2.1⟩:I.bt) d.2.2.2.2.1 d.1.2.2.2.2.2.1 d.1.2.2.2.2.1 d.2.1.1⟩ (bM.bV (λ d=>dI) λ k da db q h=>by
 obtain⟨_,_,⟨_,_⟩,(v0:List I.al),(v1:Int),(a:Int),_⟩:=da
 obtain⟨⟨(v3:List I.al),_,(v4:List Int),_⟩,(v5:List ((List UInt8)×Int)),⟨_,_⟩,(b:List (List UInt8)),_⟩:=db
 obtain⟨c,_⟩:=ej h
 dsimp only at c
 obtain⟨rfl,rfl,_⟩:=c
 conv=>rhs;change dL (α:=List (List UInt8)) _ (WZ F (k+1) (⟨v0,v5,v4⟩:I.bt) b a (v0.length:Int) (v0));rw[<-aa7 F (k+1) (⟨v0,v5,v4⟩:I.bt) b a];simp only[zo,a',aa8,aa9,aa7];simp only[bS]
 kernel_rfl)
def W4(k:Nat)(b:I.bt)(a:List (List UInt8))(c:Int)(b8:Int):=dv ((a.length:Int)=b8/\True) (bb (B9 b a k c))
theorem aba(k:Nat)(b:I.bt)(a:List (List UInt8))(c:Int):bb (B9 b a k c)=W4 k b a c (a.length:Int):=(dJ ⟨rfl,trivial⟩).symm
def auj(F:Nat):aS aE:=(aui F).bW 79 10 F ⟨[0,78,79,80],[.p (.B 0),.p (.R 2),lL,lL],[eJ,.m 9 3,.r 9 true],
 [⟨⟨.nm,[],[],[eJ,.m 9 3,.d]⟩,Unit,λ d r=>((),((d.2.1.1,(),d.2.1.2.2.1,()),d.2.2.1,(),()))⟩,
  ⟨⟨.rt,[2],[lL],[eJ,.m 9 3,.d]⟩,Int,λ d r=>((r,()),((d.2.1.1,(),d.2.1.2.2.1,()),d.2.2.1,(),()))⟩],
 λ k d=>W4 k (⟨d.2.1.1,d.2.2.1,d.2.1.2.2.1⟩:I.bt) d.2.2.2.1 d.1.2.2.2.1 d.1.2.2.1⟩ (bM.bV (λ d=>dI) λ k da db q h=>by
 obtain⟨_,_,(v0:Int),(v1:Int),_⟩:=da
 obtain⟨⟨(a:List I.al),_,(v3:List Int),_⟩,(v4:List ((List UInt8)×Int)),(v5:List (List UInt8)),_⟩:=db
 obtain⟨b,_⟩:=ej h
 dsimp only at b
 obtain⟨rfl,_⟩:=b
 conv=>rhs;change dL (α:=Unit⊕Int) _ (W4 (k+1) (⟨a,v4,v3⟩:I.bt) v5 v1 (v5.length:Int));rw[<-aba (k+1) (⟨a,v4,v3⟩:I.bt) v5 v1];simp only[B9,a',aba];simp only[bS]
 kernel_rfl)
def auk(F:Nat):aS aE:=(auj F).rt 79 ⟨[.p (.B 0)],[eJ,.m 9 3],[lL],[eJ,.m 9 3],Int,λ d=>My F (⟨d.2.1.1,d.2.2.1,d.2.1.2.2.1⟩:I.bt),λ d r=>((r,()),((d.2.1.1,(),d.2.1.2.2.1,()),d.2.2.1,()))⟩ λ da db=>by
 obtain⟨_,_⟩:=da;obtain⟨⟨(v0:List I.al),_,(v1:List Int),_⟩,(a:List ((List UInt8)×Int)),_⟩:=db;conv=>rhs;simp only[My,a',aa7,aba]
 kernel_rfl
def W6(k:Nat)(a:List (List UInt8))(b:List ((List UInt8)×Bool))(c:Int)(e1:List (List UInt8))(e2:Int):=dv ((a:List (List UInt8))=e1/\(a.length:Int)=e2/\True) (B_ a k b c)
theorem abd(k:Nat)(a:List (List UInt8))(b:List ((List UInt8)×Bool))(c:Int):B_ a k b c=W6 k a b c a (a.length:Int):=(dJ ⟨rfl,rfl,trivial⟩).symm
def aul(F:Nat):aS aE:=(auk F).bW 113 0 F ⟨[0,3,7,8,9],[.p (.l 9),.p (.M 0),.p (.l 9),lL,lL],[.m 9 4],
 [⟨⟨.nm,[0,3],[.p (.l 9),.p (.M 0)],[.m 9 4]⟩,List ((List UInt8)×Bool),λ d r=>((d.1.1,(),()),(r,()))⟩],
 λ k d=>W6 k d.1.1 d.2.1 d.1.2.2.2.2.1 d.1.2.2.1 d.1.2.2.2.1⟩ (bM.bV (λ d=>dI) λ k da db q h=>by
 obtain⟨(v0:List (List UInt8)),_,(v1:List (List UInt8)),(b:Int),(v3:Int),_⟩:=da
 obtain⟨(v4:List ((List UInt8)×Bool)),_⟩:=db
 obtain⟨a,_⟩:=ej h
 dsimp only at a
 obtain⟨rfl,rfl,_⟩:=a
 conv=>rhs;change dL (α:=List ((List UInt8)×Bool)) _ (W6 (k+1) v0 v4 v3 (v0) (v0.length:Int));rw[<-abd (k+1) v0 v4 v3];simp only[B_,a',abd];simp only[bS]
 kernel_rfl)
def aum(F:Nat):aS aE:=(aul F).rt 113 ⟨[.p (.l 9)],[],[lQ],[],Bool,λ d=>IR F d.1.1,λ d r=>((r,()),())⟩ λ da db=>by
 obtain⟨(v0:List (List UInt8)),_⟩:=da;conv=>rhs;simp only[IR,a',abd]
 kernel_rfl
def WX(k:Nat)(b:List I.Field)(c:List (List UInt8))(d:Int)(e3:Int)(a:List (List UInt8)):=dv ((b.length:Int)=e3/\([]:List (List UInt8))=a/\True) (zn b k c d)
theorem aa5(k:Nat)(a:List I.Field)(b:List (List UInt8))(c:Int):zn a k b c=WX k a b c (a.length:Int) []:=(dJ ⟨rfl,rfl,trivial⟩).symm
def aun(F:Nat):aS aE:=(aum F).bW 80 2 F ⟨[0,4,5,6,14,15,16,23,24,25],[.p (.B 0),.p (.B 2),.p (.R 3),.p (.R 4),.p (.l 134),lL,lL,.p (.R 5),lL,lL],[eJ,.m 9 3,jp,.r 9 false,.r 9 false,.r 136 true],
 [⟨⟨.nm,[0,4,5,6,14,15,16],[.p (.B 0),.p (.B 2),.p (.R 3),.p (.R 4),.p (.l 134),lL,lL],[eJ,.m 9 3,jp,.r 9 false,.r 9 false,.d]⟩,List (List UInt8),λ d r=>(((),(),(),(),d.1.2.2.2.2.1,d.1.2.2.2.2.2.1,d.1.2.2.2.2.2.2.1,()),((d.2.1.1,(),d.2.1.2.2.1,()),d.2.2.1,d.2.2.2.1,r,d.2.2.2.2.2.1,(),()))⟩],
 λ k d=>WX k d.2.2.2.2.2.2.1 d.2.2.2.2.1 d.1.2.2.2.2.2.2.2.2.2.1 d.1.2.2.2.2.2.2.2.2.1 d.2.2.2.2.2.1⟩ (bM.bV (λ d=>dI) λ k da db q h=>by
 obtain⟨_,_,_,_,(v0:List I.al),(v1:Int),(g:Int),_,(v3:Int),(v4:Int),_⟩:=da
 obtain⟨⟨(v5:List I.al),_,(i:List Int),_⟩,(j:List ((List UInt8)×Int)),⟨(l:List UInt8),(v9:List UInt8),(e:List I.Field),(f:List I.Method),_⟩,(a:List (List UInt8)),(m:List (List UInt8)),(b:List I.Field),_⟩:=db
 obtain⟨c,_⟩:=ej h
 dsimp only at c
 obtain⟨rfl,rfl,_⟩:=c
 conv=>rhs;change dL (α:=List (List UInt8)) _ (WX (k+1) b a v4 (b.length:Int) ([]));rw[<-aa5 (k+1) b a v4];simp only[zn,a',aa5];simp only[bS]
 kernel_rfl)
def WY(k:Nat)(a:I.al)(b:List (List UInt8))(wN:Int)(e4:Int):=dv ((a.bn.length:Int)=e4/\True) (uC a k b wN)
theorem aa6(k:Nat)(a:I.al)(b:List (List UInt8))(wN:Int):uC a k b wN=WY k (⟨[],[],[],a.bn⟩:I.al) b wN (a.bn.length:Int):=(show uC a k b wN=uC (⟨[],[],[],a.bn⟩:I.al) k b wN by kernel_rfl).trans (dJ ⟨rfl,trivial⟩).symm
def auo(F:Nat):aS aE:=(aun F).bW 80 4 F ⟨[0,5,6,14,15,16,36,37,38],[.p (.B 0),.p (.R 2),.p (.R 3),.p (.l 134),lL,lL,.p (.l 131),lL,lL],[eJ,.m 9 3,.r 9 false,.r 9 false],
 [⟨⟨.nm,[0,5,6,14,15,16],[.p (.B 0),.p (.R 2),.p (.R 3),.p (.l 134),lL,lL],[eJ,.m 9 3,.r 9 false,.r 9 false]⟩,List (List UInt8),λ d r=>(((),(),(),d.1.2.2.2.1,d.1.2.2.2.2.1,d.1.2.2.2.2.2.1,()),((d.2.1.1,(),d.2.1.2.2.1,()),d.2.2.1,d.2.2.2.1,r,()))⟩],
 λ k d=>WY k (⟨[],[],[],d.1.2.2.2.2.2.2.1⟩:I.al) d.2.2.2.2.1 d.1.2.2.2.2.2.2.2.2.1 d.1.2.2.2.2.2.2.2.1⟩ (bM.bV (λ d=>dI) λ k da db q h=>by
 obtain⟨_,_,_,(v0:List I.al),(v1:Int),(c:Int),(v3:List I.Method),(v4:Int),(v5:Int),_⟩:=da
 obtain⟨⟨(e:List I.al),_,(f:List Int),_⟩,(g:List ((List UInt8)×Int)),(v9:List (List UInt8)),(a:List (List UInt8)),_⟩:=db
 obtain⟨b,_⟩:=ej h
 dsimp only at b
 obtain⟨rfl,_⟩:=b
 conv=>rhs;change dL (α:=List (List UInt8)) _ (WY (k+1) (⟨[],[],[],v3⟩:I.al) a v5 (v3.length:Int));rw[<-aa6 (k+1) (⟨[],[],[],v3⟩:I.al) a v5];simp only[uC,a',aa6];simp only[bS]
 kernel_rfl)
def WW(F:Nat)(k:Nat)(a:I.bt)(b:Int)(e1:Int)(e3:List I.al):=dv ((a.l.length:Int)=e1/\(a.l:List I.al)=e3/\True) (bb (B6 F a k b))
theorem aa4(F:Nat)(k:Nat)(a:I.bt)(b:Int):bb (B6 F a k b)=WW F k a b (a.l.length:Int) a.l:=(dJ ⟨rfl,rfl,trivial⟩).symm
def auq(F:Nat):aS aE:=(auo F).bW 80 0 F ⟨[0,14,15,16],[.p (.B 0),.p (.l 134),lL,lL],[eJ,.m 9 3],
 [⟨⟨.nm,[],[],[eJ,.m 9 3]⟩,Unit,λ d r=>((),((d.2.1.1,(),d.2.1.2.2.1,()),d.2.2.1,()))⟩,
  ⟨⟨.rt,[2],[lL],[eJ,.m 9 3]⟩,Int,λ d r=>((r,()),((d.2.1.1,(),d.2.1.2.2.1,()),d.2.2.1,()))⟩],
 λ k d=>WW F k (⟨d.1.2.1,d.2.2.1,d.2.1.2.2.1⟩:I.bt) d.1.2.2.2.1 d.1.2.2.1 d.2.1.1⟩ (bM.bV (λ d=>dI) λ k da db q h=>by
 obtain⟨_,(v0:List I.al),(v1:Int),(a:Int),_⟩:=da
 obtain⟨⟨(v3:List I.al),_,(v4:List Int),_⟩,(v5:List ((List UInt8)×Int)),_⟩:=db
 obtain⟨b,_⟩:=ej h
 dsimp only at b
 obtain⟨rfl,rfl,_⟩:=b
 conv=>rhs;change dL (α:=Unit⊕Int) _ (WW F (k+1) (⟨v0,v5,v4⟩:I.bt) a (v0.length:Int) (v0));rw[<-aa4 F (k+1) (⟨v0,v5,v4⟩:I.bt) a];simp only[B6,a',aa5,aa6,aa4];simp only[bS]
 kernel_rfl)
def auC(F:Nat):aS aE:=(auq F).rt 80 ⟨[.p (.B 0)],[eJ,.m 9 3],[lL],[eJ,.m 9 3],Int,λ d=>Mx F (⟨d.2.1.1,d.2.2.1,d.2.1.2.2.1⟩:I.bt),λ d r=>((r,()),((d.2.1.1,(),d.2.1.2.2.1,()),d.2.2.1,()))⟩ λ da db=>by
 obtain⟨_,_⟩:=da;obtain⟨⟨(v0:List I.al),_,(v1:List Int),_⟩,(a:List ((List UInt8)×Int)),_⟩:=db;conv=>rhs;simp only[Mx,a',aa4]
 kernel_rfl
def auE(F:Nat):aS aE:=(auC F).bW 114 0 F ⟨[0,1,5],[.p (.B 0),lL,.p (.R 2)],[eJ,.m 9 3,.r 3 false],
 [⟨⟨.nm,[5],[.p (.R 2)],[eJ,.m 9 3,.r 3 false]⟩,List Int,λ d r=>(((),()),((d.2.1.1,(),d.2.1.2.2.1,()),d.2.2.1,r,()))⟩],
 λ k d=>uA (⟨d.2.1.1,d.2.2.1,d.2.1.2.2.1⟩:I.bt) k d.2.2.2.1 d.1.2.1⟩ (bM.bV (λ d=>rfl) λ k da db q h=>by
 conv=>rhs;simp only[uA,a'];simp only[bS]
 kernel_rfl)
def auG(F:Nat):aS aE:=(auE F).rt 114 ⟨[.p (.B 0),lL],[eJ,.m 9 3],[lO],[eJ,.m 9 3],List Int,λ d=>uz F (⟨d.2.1.1,d.2.2.1,d.2.1.2.2.1⟩:I.bt) d.1.2.1,λ d r=>((r,()),((d.2.1.1,(),d.2.1.2.2.1,()),d.2.2.1,()))⟩ λ da db=>by
 conv=>rhs;simp only[uz,a']
 kernel_rfl
def Xc(k:Nat)(a:List I.Kind)(b:List I.Kind)(c:Int)(e2:Int):=dv ((a.length:Int)=e2/\True) (bb (Gv a b k c))
theorem abl(k:Nat)(a:List I.Kind)(b:List I.Kind)(c:Int):bb (Gv a b k c)=Xc k a b c (a.length:Int):=(dJ ⟨rfl,trivial⟩).symm
def auH(F:Nat):aS aE:=(auG F).bW 143 0 F ⟨[0,1,12,13],[.p (.l 128),.p (.l 128),lL,lL],[],
 [⟨⟨.nm,[],[],[]⟩,Unit,λ d r=>((),())⟩,
  ⟨⟨.rt,[4],[lQ],[]⟩,Bool,λ d r=>((r,()),())⟩],
 λ k d=>Xc k d.1.1 d.1.2.1 d.1.2.2.2.1 d.1.2.2.1⟩ (bM.bV (λ d=>dI) λ k da db q h=>by
 obtain⟨(v0:List I.Kind),(v1:List I.Kind),(b:Int),(v3:Int),_⟩:=da
 obtain⟨a,_⟩:=ej h
 dsimp only at a
 obtain⟨rfl,_⟩:=a
 conv=>rhs;change dL (α:=Unit⊕Bool) _ (Xc (k+1) v0 v1 v3 (v0.length:Int));rw[<-abl (k+1) v0 v1 v3];simp only[Gv,a',abl];simp only[bS]
 kernel_rfl)
def auI(F:Nat):aS aE:=(auH F).rt 143 ⟨[.p (.l 128),.p (.l 128)],[],[lQ],[],Bool,λ d=>NC F d.1.1 d.1.2.1,λ d r=>((r,()),())⟩ λ da db=>by
 obtain⟨(v0:List I.Kind),(v1:List I.Kind),_⟩:=da;conv=>rhs;simp only[NC,a',abl]
 kernel_rfl
def auJ(F:Nat):aS aE:=(auI F).rt 115 ⟨[RU,RU],[],[lQ],[],Bool,λ d=>Q8 F (w8 d.1.1) (w8 d.1.2.1),λ d r=>((r,()),())⟩ λ da db=>by
 obtain⟨⟨(v0:List UInt8),(v1:Bool),(f:List I.Kind),(v3:Int),(v4:List UInt8),(v5:Int),(g:Int),(h:List UInt8),(i:List I.Handler),_⟩,⟨(v9:List UInt8),(a:Bool),(b:List I.Kind),(c:Int),(j:List UInt8),(k:Int),(l:Int),(m:List UInt8),(e:List I.Handler),_⟩,_⟩:=da;conv=>rhs;simp only[Q8,a',aGw]
 kernel_rfl
def WU(F:Nat)(k:Nat)(b:I.Method)(a:I.al)(c:Int)(H0:Int):=dv ((a.bn.length:Int)=H0/\True) (bb (uB F b a k c))
theorem aa2(F:Nat)(k:Nat)(b:I.Method)(a:I.al)(c:Int):bb (uB F b a k c)=WU F k b (⟨[],[],[],a.bn⟩:I.al) c (a.bn.length:Int):=(show bb (uB F b a k c)=bb (uB F b (⟨[],[],[],a.bn⟩:I.al) k c) by kernel_rfl).trans (dJ ⟨rfl,trivial⟩).symm
def auK(F:Nat):aS aE:=(auJ F).bW 81 6 F ⟨[0,4,6,8,14,15,16,24,25,26,31,32,33,44,45,46],[.p (.B 0),.p (.B 2),lL,.p (.B 3),.p (.l 134),lL,lL,lO,lL,lL,.p (.l 131),lL,lL,.p (.l 131),lL,lL],[eJ,.m 9 3,jp,oo],
 [⟨⟨.nm,[0,4,6,14,15,16,24,25,26,31,32,33],[.p (.B 0),.p (.B 2),lL,.p (.l 134),lL,lL,lO,lL,lL,.p (.l 131),lL,lL],[eJ,.m 9 3,jp,oo]⟩,Unit,λ d r=>(((),(),d.1.2.2.1,d.1.2.2.2.2.1,d.1.2.2.2.2.2.1,d.1.2.2.2.2.2.2.1,d.1.2.2.2.2.2.2.2.1,d.1.2.2.2.2.2.2.2.2.1,d.1.2.2.2.2.2.2.2.2.2.1,d.1.2.2.2.2.2.2.2.2.2.2.1,d.1.2.2.2.2.2.2.2.2.2.2.2.1,d.1.2.2.2.2.2.2.2.2.2.2.2.2.1,()),((d.2.1.1,(),d.2.1.2.2.1,()),d.2.2.1,d.2.2.2.1,d.2.2.2.2.1,()))⟩,
  ⟨⟨.rt,[2],[lL],[eJ,.m 9 3,.d,.d]⟩,Int,λ d r=>((r,()),((d.2.1.1,(),d.2.1.2.2.1,()),d.2.2.1,(),(),()))⟩],
 λ k d=>WU F k (w8 d.2.2.2.2.1) (⟨[],[],[],d.1.2.2.2.2.2.2.2.2.2.2.2.2.2.1⟩:I.al) d.1.2.2.2.2.2.2.2.2.2.2.2.2.2.2.2.1 d.1.2.2.2.2.2.2.2.2.2.2.2.2.2.2.1⟩ (bM.bV (λ d=>dI) λ k da db q h=>by
 obtain⟨_,_,(v0:Int),_,(v1:List I.al),(p:Int),(v3:Int),(v4:List Int),(v5:Int),(s:Int),(t:List I.Method),(u:Int),(v9:Int),(a:List I.Method),(n:Int),(b:Int),_⟩:=da
 obtain⟨⟨(v:List I.al),_,(w:List Int),_⟩,(x:List ((List UInt8)×Int)),⟨(y:List UInt8),(o:List UInt8),(z:List I.Field),(A:List I.Method),_⟩,⟨(c:List UInt8),(e:Bool),(v22:List I.Kind),(f:Int),(g:List UInt8),(v25:Int),(i:Int),(j:List UInt8),(l:List I.Handler),_⟩,_⟩:=db
 obtain⟨m,_⟩:=ej h
 dsimp only at m
 obtain⟨rfl,_⟩:=m
 conv=>rhs;change dL (α:=Unit⊕Int) _ (WU F (k+1) (⟨c,e,v22,(⟨f,g⟩:I.Kind),v25,i,j,l⟩:I.Method) (⟨[],[],[],a⟩:I.al) b (a.length:Int));rw[<-aa2 F (k+1) (⟨c,e,v22,(⟨f,g⟩:I.Kind),v25,i,j,l⟩:I.Method) (⟨[],[],[],a⟩:I.al) b];simp only[uB,a',aa2];simp only[bS]
 kernel_rfl)
def WT(F:Nat)(k:Nat)(a:I.bt)(b:I.al)(d:Int)(e:Int)(e2:Int)(f:Int)(HZ:List I.al)(c:List I.Method):=dv ((a.l.length:Int)=e2/\(b.bn.length:Int)=f/\(a.l:List I.al)=HZ/\(b.bn:List I.Method)=c/\True) (bb (B5 F a b d k e))
theorem aa1(F:Nat)(k:Nat)(a:I.bt)(b:I.al)(c:Int)(d:Int):bb (B5 F a b c k d)=WT F k a b c d (a.l.length:Int) (b.bn.length:Int) a.l b.bn:=(dJ ⟨rfl,rfl,rfl,rfl,trivial⟩).symm
def auL(F:Nat):aS aE:=(auK F).bW 81 4 F ⟨[0,4,6,14,15,16,24,25,26,31,32,33],[.p (.B 0),.p (.B 2),lL,.p (.l 134),lL,lL,lO,lL,lL,.p (.l 131),lL,lL],[eJ,.m 9 3,jp],
 [⟨⟨.nm,[0,4,14,15,16,24,25,26],[.p (.B 0),.p (.B 2),.p (.l 134),lL,lL,lO,lL,lL],[eJ,.m 9 3,jp]⟩,Unit,λ d r=>(((),(),d.1.2.2.2.1,d.1.2.2.2.2.1,d.1.2.2.2.2.2.1,d.1.2.2.2.2.2.2.1,d.1.2.2.2.2.2.2.2.1,d.1.2.2.2.2.2.2.2.2.1,()),((d.2.1.1,(),d.2.1.2.2.1,()),d.2.2.1,d.2.2.2.1,()))⟩,
  ⟨⟨.rt,[2],[lL],[eJ,.m 9 3,.d]⟩,Int,λ d r=>((r,()),((d.2.1.1,(),d.2.1.2.2.1,()),d.2.2.1,(),()))⟩],
 λ k d=>WT F k (⟨d.1.2.2.2.1,d.2.2.1,d.2.1.2.2.1⟩:I.bt) (⟨d.2.2.2.1.1,d.2.2.2.1.2.1,d.2.2.2.1.2.2.1,d.1.2.2.2.2.2.2.2.2.2.1⟩:I.al) d.1.2.2.1 d.1.2.2.2.2.2.2.2.2.2.2.2.1 d.1.2.2.2.2.1 d.1.2.2.2.2.2.2.2.2.2.2.1 d.2.1.1 d.2.2.2.1.2.2.2.1⟩ (bM.bV (λ d=>dI) λ k da db q h=>by
 obtain⟨_,_,(v0:Int),(v1:List I.al),(l:Int),(v3:Int),(v4:List Int),(v5:Int),(m:Int),(c:List I.Method),(n:Int),(v9:Int),_⟩:=da
 obtain⟨⟨(j:List I.al),_,(a:List Int),_⟩,(b:List ((List UInt8)×Int)),⟨(e:List UInt8),(f:List UInt8),(g:List I.Field),(o:List I.Method),_⟩,_⟩:=db
 obtain⟨i,_⟩:=ej h
 dsimp only at i
 obtain⟨rfl,rfl,rfl,rfl,_⟩:=i
 conv=>rhs;change dL (α:=Unit⊕Int) _ (WT F (k+1) (⟨v1,b,a⟩:I.bt) (⟨e,f,g,c⟩:I.al) v0 v9 (v1.length:Int) (c.length:Int) (v1) (c));rw[<-aa1 F (k+1) (⟨v1,b,a⟩:I.bt) (⟨e,f,g,c⟩:I.al) v0 v9];simp only[B5,a',aa2,aa1];simp only[bS]
 kernel_rfl)
def WS(F:Nat)(k:Nat)(a:I.bt)(c:I.al)(b:List Int)(d:Int)(e1:Int)(e4:Int)(e6:List I.al):=dv ((a.l.length:Int)=e1/\(b.length:Int)=e4/\(a.l:List I.al)=e6/\True) (bb (B4 F a c b k d))
theorem aa0(F:Nat)(k:Nat)(a:I.bt)(c:I.al)(b:List Int)(d:Int):bb (B4 F a c b k d)=WS F k a c b d (a.l.length:Int) (b.length:Int) a.l:=(dJ ⟨rfl,rfl,rfl,trivial⟩).symm
def auM(F:Nat):aS aE:=(auL F).bW 81 2 F ⟨[0,4,14,15,16,24,25,26],[.p (.B 0),.p (.B 2),.p (.l 134),lL,lL,lO,lL,lL],[eJ,.m 9 3,jp],
 [⟨⟨.nm,[0,14,15,16],[.p (.B 0),.p (.l 134),lL,lL],[eJ,.m 9 3,jp]⟩,Unit,λ d r=>(((),d.1.2.2.1,d.1.2.2.2.1,d.1.2.2.2.2.1,()),((d.2.1.1,(),d.2.1.2.2.1,()),d.2.2.1,d.2.2.2.1,()))⟩,
  ⟨⟨.rt,[2],[lL],[eJ,.m 9 3,.d]⟩,Int,λ d r=>((r,()),((d.2.1.1,(),d.2.1.2.2.1,()),d.2.2.1,(),()))⟩],
 λ k d=>WS F k (⟨d.1.2.2.1,d.2.2.1,d.2.1.2.2.1⟩:I.bt) (JI d.2.2.2.1) d.1.2.2.2.2.2.1 d.1.2.2.2.2.2.2.2.1 d.1.2.2.2.1 d.1.2.2.2.2.2.2.1 d.2.1.1⟩ (bM.bV (λ d=>dI) λ k da db q h=>by
 obtain⟨_,_,(v0:List I.al),(v1:Int),(i:Int),(v3:List Int),(v4:Int),(v5:Int),_⟩:=da
 obtain⟨⟨(j:List I.al),_,(e:List Int),_⟩,(f:List ((List UInt8)×Int)),⟨(v9:List UInt8),(a:List UInt8),(b:List I.Field),(c:List I.Method),_⟩,_⟩:=db
 obtain⟨g,_⟩:=ej h
 dsimp only at g
 obtain⟨rfl,rfl,rfl,_⟩:=g
 conv=>rhs;change dL (α:=Unit⊕Int) _ (WS F (k+1) (⟨v0,f,e⟩:I.bt) (⟨v9,a,b,c⟩:I.al) v3 v5 (v0.length:Int) (v3.length:Int) (v0));rw[<-aa0 F (k+1) (⟨v0,f,e⟩:I.bt) (⟨v9,a,b,c⟩:I.al) v3 v5];simp only[B4,a',aa1,aa0];simp only[bS]
 kernel_rfl)
def WR(F:Nat)(k:Nat)(a:I.bt)(b:Int)(e1:Int)(e3:List I.al):=dv ((a.l.length:Int)=e1/\(a.l:List I.al)=e3/\True) (bb (B3 F a k b))
theorem aaZ(F:Nat)(k:Nat)(a:I.bt)(b:Int):bb (B3 F a k b)=WR F k a b (a.l.length:Int) a.l:=(dJ ⟨rfl,rfl,trivial⟩).symm
def auN(F:Nat):aS aE:=(auM F).bW 81 0 F ⟨[0,14,15,16],[.p (.B 0),.p (.l 134),lL,lL],[eJ,.m 9 3],
 [⟨⟨.nm,[],[],[eJ,.m 9 3]⟩,Unit,λ d r=>((),((d.2.1.1,(),d.2.1.2.2.1,()),d.2.2.1,()))⟩,
  ⟨⟨.rt,[2],[lL],[eJ,.m 9 3]⟩,Int,λ d r=>((r,()),((d.2.1.1,(),d.2.1.2.2.1,()),d.2.2.1,()))⟩],
 λ k d=>WR F k (⟨d.1.2.1,d.2.2.1,d.2.1.2.2.1⟩:I.bt) d.1.2.2.2.1 d.1.2.2.1 d.2.1.1⟩ (bM.bV (λ d=>dI) λ k da db q h=>by
 obtain⟨_,(v0:List I.al),(v1:Int),(a:Int),_⟩:=da
 obtain⟨⟨(v3:List I.al),_,(v4:List Int),_⟩,(v5:List ((List UInt8)×Int)),_⟩:=db
 obtain⟨b,_⟩:=ej h
 dsimp only at b
 obtain⟨rfl,rfl,_⟩:=b
 conv=>rhs;change dL (α:=Unit⊕Int) _ (WR F (k+1) (⟨v0,v5,v4⟩:I.bt) a (v0.length:Int) (v0));rw[<-aaZ F (k+1) (⟨v0,v5,v4⟩:I.bt) a];simp only[B3,a',aa0,aaZ];simp only[bS]
 kernel_rfl)
def auO(F:Nat):aS aE:=(auN F).rt 81 ⟨[.p (.B 0)],[eJ,.m 9 3],[lL],[eJ,.m 9 3],Int,λ d=>Mw F (⟨d.2.1.1,d.2.2.1,d.2.1.2.2.1⟩:I.bt),λ d r=>((r,()),((d.2.1.1,(),d.2.1.2.2.1,()),d.2.2.1,()))⟩ λ da db=>by
 obtain⟨_,_⟩:=da;obtain⟨⟨(v0:List I.al),_,(v1:List Int),_⟩,(a:List ((List UInt8)×Int)),_⟩:=db;conv=>rhs;simp only[Mw,a',aaZ]
 kernel_rfl
def WL(F:Nat)(k:Nat)(a:List I.al)(c:Int×I.bt)(b:Int×I.bt)(d:List (List I.Target))(e:List (List (List UInt8)))(f:List (List I.Field))(g:Int)(b8:Int)(e2:List I.al)(e3:List Int)(e4:List (List I.Field))(e5:List (List (List UInt8)))(e6:List (List I.Target))(HZ:List I.al)(H0:List Int):=dv ((a.length:Int)=b8/\([]:List I.al)=e2/\([]:List Int)=e3/\([]:List (List I.Field))=e4/\([]:List (List (List UInt8)))=e5/\([]:List (List I.Target))=e6/\(a:List I.al)=HZ/\(b.2.dC:List Int)=H0/\True) (bb (qa F a c b k d e f g))
theorem aaU(F:Nat)(k:Nat)(a:List I.al)(c:Int×I.bt)(b:Int×I.bt)(d:List (List I.Target))(e:List (List (List UInt8)))(f:List (List I.Field))(g:Int):bb (qa F a c b k d e f g)=WL F k a (0,(⟨[],c.2.bZ,[]⟩:I.bt)) (0,(⟨[],[],b.2.dC⟩:I.bt)) d e f g (a.length:Int) [] [] [] [] [] a b.2.dC:=(show bb (qa F a c b k d e f g)=bb (qa F a (0,(⟨[],c.2.bZ,[]⟩:I.bt)) (0,(⟨[],[],b.2.dC⟩:I.bt)) k d e f g) by kernel_rfl).trans (dJ ⟨rfl,rfl,rfl,rfl,rfl,rfl,rfl,rfl,trivial⟩).symm
def auP(F:Nat):aS aE:=(auO F).bW 46 2 F ⟨[2,5,9,62,63],[.p (.B 0),.p (.B 1),.p (.B 3),lL,lL],[dV,alX,.m 9 3,alZ,.r 124 false,.r 120 false,.r 121 false],
 [⟨⟨.nm,[2,9],[.p (.B 0),.p (.B 3)],[dV,alX,.m 9 3,alZ,.r 124 false,.r 120 false,.r 121 false]⟩,(List (List I.Target))×(List (List (List UInt8)))×(List (List I.Field)),λ d r=>(((),(),()),(d.2.1,(d.2.2.1.1,(),d.2.2.1.2.2.1,()),d.2.2.2.1,(d.2.2.2.2.1.1,d.2.2.2.2.1.2.1,(),(),(),()),r.2.2,r.2.1,r.1,()))⟩,
  ⟨⟨.rt,[2,3],[.p (.B 0),lL],[dV,.d,.d,.d,.d,.d,.d]⟩,I.aN×Int,λ d r=>(((),r.2,()),((r.1.aV,r.1.aT,r.1.Fields,r.1.Names,r.1.aU,()),(),(),(),(),(),(),()))⟩],
 λ k d=>WL F k d.2.2.1.1 (0,(⟨[],d.2.2.2.1,[]⟩:I.bt)) (0,(⟨[],[],d.2.2.1.2.2.1⟩:I.bt)) d.2.2.2.2.2.2.2.1 d.2.2.2.2.2.2.1 d.2.2.2.2.2.1 d.1.2.2.2.2.1 d.1.2.2.2.1 d.2.1.1 d.2.1.2.1 d.2.1.2.2.1 d.2.1.2.2.2.1 d.2.1.2.2.2.2.1 d.2.2.2.2.1.1 d.2.2.2.2.1.2.1⟩ (bM.bV (λ d=>dI) λ k da db q h=>by
 obtain⟨_,_,_,(v0:Int),(v1:Int),_⟩:=da
 obtain⟨⟨(l:List I.al),(v3:List Int),(v4:List (List I.Field)),(v5:List (List (List UInt8))),(m:List (List I.Target)),_⟩,⟨(b:List I.al),_,(c:List Int),_⟩,(v9:List ((List UInt8)×Int)),⟨(i:List I.al),(j:List Int),_,_,_,_⟩,(a:List (List I.Field)),(e:List (List (List UInt8))),(f:List (List I.Target)),_⟩:=db
 obtain⟨g,_⟩:=ej h
 dsimp only at g
 obtain⟨rfl,rfl,rfl,rfl,rfl,rfl,rfl,rfl,_⟩:=g
 conv=>rhs;change dL (α:=((List (List I.Target))×(List (List (List UInt8)))×(List (List I.Field)))⊕(I.aN×Int)) _ (WL F (k+1) b (0,(⟨[],v9,[]⟩:I.bt)) (0,(⟨[],[],c⟩:I.bt)) f e a v1 (b.length:Int) ([]) ([]) ([]) ([]) ([]) (b) ((0,(⟨[],[],c⟩:I.bt)).2.dC));rw[<-aaU F (k+1) b (0,(⟨[],v9,[]⟩:I.bt)) (0,(⟨[],[],c⟩:I.bt)) f e a v1];simp only[qa,a',aaU];simp only[bS]
 kernel_rfl)
def auR(F:Nat):aS aE:=(auP F).rt 46 ⟨[.p (.l 134)],[],[iD,lL],[],I.aN×Int,λ d=>F3 F d.1.1,λ d r=>(((r.1.aV,r.1.aT,r.1.Fields,r.1.Names,r.1.aU,()),r.2,()),())⟩ λ da db=>by
 obtain⟨(v0:List I.al),_⟩:=da;conv=>rhs;simp only[F3,a',aaU]
 kernel_rfl
def Xf(k:Nat)(a:List Int)(b:List Int)(c:Int)(e2:Int):=dv ((a.length:Int)=e2/\True) (bb (CT a b k c))
theorem abn(k:Nat)(a:List Int)(b:List Int)(c:Int):bb (CT a b k c)=Xf k a b c (a.length:Int):=(dJ ⟨rfl,trivial⟩).symm
def auS(F:Nat):aS aE:=(auR F).bW 126 0 F ⟨[0,1,12,13],[lO,lO,lL,lL],[],
 [⟨⟨.nm,[],[],[]⟩,Unit,λ d r=>((),())⟩,
  ⟨⟨.rt,[4],[lQ],[]⟩,Bool,λ d r=>((r,()),())⟩],
 λ k d=>Xf k d.1.1 d.1.2.1 d.1.2.2.2.1 d.1.2.2.1⟩ (bM.bV (λ d=>dI) λ k da db q h=>by
 obtain⟨(v0:List Int),(v1:List Int),(b:Int),(v3:Int),_⟩:=da
 obtain⟨a,_⟩:=ej h
 dsimp only at a
 obtain⟨rfl,_⟩:=a
 conv=>rhs;change dL (α:=Unit⊕Bool) _ (Xf (k+1) v0 v1 v3 (v0.length:Int));rw[<-abn (k+1) v0 v1 v3];simp only[CT,a',abn];simp only[bS]
 kernel_rfl)
def auT(F:Nat):aS aE:=(auS F).rt 126 ⟨[lO,lO],[],[lQ],[],Bool,λ d=>NE F d.1.1 d.1.2.1,λ d r=>((r,()),())⟩ λ da db=>by
 obtain⟨(v0:List Int),(v1:List Int),_⟩:=da;conv=>rhs;simp only[NE,a',abn]
 kernel_rfl
def Xb(k:Nat)(a:List I.Field)(b:List I.Field)(c:Int)(e2:Int):=dv ((a.length:Int)=e2/\True) (bb (CR a b k c))
theorem abk(k:Nat)(a:List I.Field)(b:List I.Field)(c:Int):bb (CR a b k c)=Xb k a b c (a.length:Int):=(dJ ⟨rfl,trivial⟩).symm
def auU(F:Nat):aS aE:=(auT F).bW 128 0 F ⟨[0,1,12,13],[.p (.l 136),.p (.l 136),lL,lL],[],
 [⟨⟨.nm,[],[],[]⟩,Unit,λ d r=>((),())⟩,
  ⟨⟨.rt,[4],[lQ],[]⟩,Bool,λ d r=>((r,()),())⟩],
 λ k d=>Xb k d.1.1 d.1.2.1 d.1.2.2.2.1 d.1.2.2.1⟩ (bM.bV (λ d=>dI) λ k da db q h=>by
 obtain⟨(v0:List I.Field),(v1:List I.Field),(b:Int),(v3:Int),_⟩:=da
 obtain⟨a,_⟩:=ej h
 dsimp only at a
 obtain⟨rfl,_⟩:=a
 conv=>rhs;change dL (α:=Unit⊕Bool) _ (Xb (k+1) v0 v1 v3 (v0.length:Int));rw[<-abk (k+1) v0 v1 v3];simp only[CR,a',abk];simp only[bS]
 kernel_rfl)
def auV(F:Nat):aS aE:=(auU F).rt 128 ⟨[.p (.l 136),.p (.l 136)],[],[lQ],[],Bool,λ d=>NB F d.1.1 d.1.2.1,λ d r=>((r,()),())⟩ λ da db=>by
 obtain⟨(v0:List I.Field),(v1:List I.Field),_⟩:=da;conv=>rhs;simp only[NB,a',abk]
 kernel_rfl
def W_(F:Nat)(k:Nat)(a:List (List I.Field))(b:List (List I.Field))(c:Int)(e2:Int):=dv ((a.length:Int)=e2/\True) (bb (CO F a b k c))
theorem abh(F:Nat)(k:Nat)(a:List (List I.Field))(b:List (List I.Field))(c:Int):bb (CO F a b k c)=W_ F k a b c (a.length:Int):=(dJ ⟨rfl,trivial⟩).symm
def auW(F:Nat):aS aE:=(auV F).bW 127 0 F ⟨[1,2,15,16,17],[.p (.l 124),.f 128 [],.p (.l 124),lL,lL],[],
 [⟨⟨.nm,[],[],[]⟩,Unit,λ d r=>((),())⟩,
  ⟨⟨.rt,[6],[lQ],[]⟩,Bool,λ d r=>((r,()),())⟩],
 λ k d=>W_ F k d.1.2.2.1 d.1.1 d.1.2.2.2.2.1 d.1.2.2.2.1⟩ (bM.bV (λ d=>dI) λ k da db q h=>by
 obtain⟨(v0:List (List I.Field)),_,(v1:List (List I.Field)),(b:Int),(v3:Int),_⟩:=da
 obtain⟨a,_⟩:=ej h
 dsimp only at a
 obtain⟨rfl,_⟩:=a
 conv=>rhs;change dL (α:=Unit⊕Bool) _ (W_ F (k+1) v1 v0 v3 (v1.length:Int));rw[<-abh F (k+1) v1 v0 v3];simp only[CO,a',abh];simp only[bS]
 kernel_rfl)
def auX(F:Nat):aS aE:=(auW F).rt 127 ⟨[.p (.l 124),.p (.l 124),.f 128 []],[],[lQ],[],Bool,λ d=>Ny F d.1.1 d.1.2.1,λ d r=>((r,()),())⟩ λ da db=>by
 obtain⟨(v0:List (List I.Field)),(v1:List (List I.Field)),_,_⟩:=da;conv=>rhs;simp only[Ny,a',abh]
 kernel_rfl
def Xg(k:Nat)(a:List (List UInt8))(b:List (List UInt8))(c:Int)(e2:Int):=dv ((a.length:Int)=e2/\True) (bb (CU a b k c))
theorem abo(k:Nat)(a:List (List UInt8))(b:List (List UInt8))(c:Int):bb (CU a b k c)=Xg k a b c (a.length:Int):=(dJ ⟨rfl,trivial⟩).symm
def auY(F:Nat):aS aE:=(auX F).bW 130 0 F ⟨[0,1,12,13],[.p (.l 9),.p (.l 9),lL,lL],[],
 [⟨⟨.nm,[],[],[]⟩,Unit,λ d r=>((),())⟩,
  ⟨⟨.rt,[4],[lQ],[]⟩,Bool,λ d r=>((r,()),())⟩],
 λ k d=>Xg k d.1.1 d.1.2.1 d.1.2.2.2.1 d.1.2.2.1⟩ (bM.bV (λ d=>dI) λ k da db q h=>by
 obtain⟨(v0:List (List UInt8)),(v1:List (List UInt8)),(b:Int),(v3:Int),_⟩:=da
 obtain⟨a,_⟩:=ej h
 dsimp only at a
 obtain⟨rfl,_⟩:=a
 conv=>rhs;change dL (α:=Unit⊕Bool) _ (Xg (k+1) v0 v1 v3 (v0.length:Int));rw[<-abo (k+1) v0 v1 v3];simp only[CU,a',abo];simp only[bS]
 kernel_rfl)
def auZ(F:Nat):aS aE:=(auY F).rt 130 ⟨[.p (.l 9),.p (.l 9)],[],[lQ],[],Bool,λ d=>NF F d.1.1 d.1.2.1,λ d r=>((r,()),())⟩ λ da db=>by
 obtain⟨(v0:List (List UInt8)),(v1:List (List UInt8)),_⟩:=da;conv=>rhs;simp only[NF,a',abo]
 kernel_rfl
def Xa(F:Nat)(k:Nat)(a:List (List (List UInt8)))(b:List (List (List UInt8)))(c:Int)(e2:Int):=dv ((a.length:Int)=e2/\True) (bb (CQ F a b k c))
theorem abj(F:Nat)(k:Nat)(a:List (List (List UInt8)))(b:List (List (List UInt8)))(c:Int):bb (CQ F a b k c)=Xa F k a b c (a.length:Int):=(dJ ⟨rfl,trivial⟩).symm
def au0(F:Nat):aS aE:=(auZ F).bW 129 0 F ⟨[1,2,15,16,17],[.p (.l 120),.f 130 [],.p (.l 120),lL,lL],[],
 [⟨⟨.nm,[],[],[]⟩,Unit,λ d r=>((),())⟩,
  ⟨⟨.rt,[6],[lQ],[]⟩,Bool,λ d r=>((r,()),())⟩],
 λ k d=>Xa F k d.1.2.2.1 d.1.1 d.1.2.2.2.2.1 d.1.2.2.2.1⟩ (bM.bV (λ d=>dI) λ k da db q h=>by
 obtain⟨(v0:List (List (List UInt8))),_,(v1:List (List (List UInt8))),(b:Int),(v3:Int),_⟩:=da
 obtain⟨a,_⟩:=ej h
 dsimp only at a
 obtain⟨rfl,_⟩:=a
 conv=>rhs;change dL (α:=Unit⊕Bool) _ (Xa F (k+1) v1 v0 v3 (v1.length:Int));rw[<-abj F (k+1) v1 v0 v3];simp only[CQ,a',abj];simp only[bS]
 kernel_rfl)
def au2(F:Nat):aS aE:=(au0 F).rt 129 ⟨[.p (.l 120),.p (.l 120),.f 130 []],[],[lQ],[],Bool,λ d=>NA F d.1.1 d.1.2.1,λ d r=>((r,()),())⟩ λ da db=>by
 obtain⟨(v0:List (List (List UInt8))),(v1:List (List (List UInt8))),_,_⟩:=da;conv=>rhs;simp only[NA,a',abj]
 kernel_rfl
def Xd(k:Nat)(a:List I.Target)(b:List I.Target)(c:Int)(e2:Int):=dv ((a.length:Int)=e2/\True) (bb (CS a b k c))
theorem abm(k:Nat)(a:List I.Target)(b:List I.Target)(c:Int):bb (CS a b k c)=Xd k a b c (a.length:Int):=(dJ ⟨rfl,trivial⟩).symm
def au3(F:Nat):aS aE:=(au2 F).bW 132 0 F ⟨[0,1,12,13],[.p (.l 166),.p (.l 166),lL,lL],[],
 [⟨⟨.nm,[],[],[]⟩,Unit,λ d r=>((),())⟩,
  ⟨⟨.rt,[4],[lQ],[]⟩,Bool,λ d r=>((r,()),())⟩],
 λ k d=>Xd k d.1.1 d.1.2.1 d.1.2.2.2.1 d.1.2.2.1⟩ (bM.bV (λ d=>dI) λ k da db q h=>by
 obtain⟨(v0:List I.Target),(v1:List I.Target),(b:Int),(v3:Int),_⟩:=da
 obtain⟨a,_⟩:=ej h
 dsimp only at a
 obtain⟨rfl,_⟩:=a
 conv=>rhs;change dL (α:=Unit⊕Bool) _ (Xd (k+1) v0 v1 v3 (v0.length:Int));rw[<-abm (k+1) v0 v1 v3];simp only[CS,a',abm];simp only[bS]
 kernel_rfl)
def au4(F:Nat):aS aE:=(au3 F).rt 132 ⟨[.p (.l 166),.p (.l 166)],[],[lQ],[],Bool,λ d=>ND F d.1.1 d.1.2.1,λ d r=>((r,()),())⟩ λ da db=>by
 obtain⟨(v0:List I.Target),(v1:List I.Target),_⟩:=da;conv=>rhs;simp only[ND,a',abm]
 kernel_rfl
def W'(F:Nat)(k:Nat)(a:List (List I.Target))(b:List (List I.Target))(c:Int)(e2:Int):=dv ((a.length:Int)=e2/\True) (bb (CP F a b k c))
theorem abi(F:Nat)(k:Nat)(a:List (List I.Target))(b:List (List I.Target))(c:Int):bb (CP F a b k c)=W' F k a b c (a.length:Int):=(dJ ⟨rfl,trivial⟩).symm
def au5(F:Nat):aS aE:=(au4 F).bW 131 0 F ⟨[1,2,15,16,17],[.p (.l 121),.f 132 [],.p (.l 121),lL,lL],[],
 [⟨⟨.nm,[],[],[]⟩,Unit,λ d r=>((),())⟩,
  ⟨⟨.rt,[6],[lQ],[]⟩,Bool,λ d r=>((r,()),())⟩],
 λ k d=>W' F k d.1.2.2.1 d.1.1 d.1.2.2.2.2.1 d.1.2.2.2.1⟩ (bM.bV (λ d=>dI) λ k da db q h=>by
 obtain⟨(v0:List (List I.Target)),_,(v1:List (List I.Target)),(b:Int),(v3:Int),_⟩:=da
 obtain⟨a,_⟩:=ej h
 dsimp only at a
 obtain⟨rfl,_⟩:=a
 conv=>rhs;change dL (α:=Unit⊕Bool) _ (W' F (k+1) v1 v0 v3 (v1.length:Int));rw[<-abi F (k+1) v1 v0 v3];simp only[CP,a',abi];simp only[bS]
 kernel_rfl)
def au6(F:Nat):aS aE:=(au5 F).rt 131 ⟨[.p (.l 121),.p (.l 121),.f 132 []],[],[lQ],[],Bool,λ d=>Nz F d.1.1 d.1.2.1,λ d r=>((r,()),())⟩ λ da db=>by
 obtain⟨(v0:List (List I.Target)),(v1:List (List I.Target)),_,_⟩:=da;conv=>rhs;simp only[Nz,a',abi]
 kernel_rfl
def au7(F:Nat):aS aE:=(au6 F).rt 100 ⟨[iD,iD],[],[lQ],[],Bool,λ d=>IQ F (fM d.1.1) (fM d.1.2.1),λ d r=>((r,()),())⟩ λ da db=>by
 conv=>rhs;simp only[IQ,a']
 kernel_rfl
def au8(F:Nat):aS aE:=(au7 F).rt 64 ⟨[iD],[],[lL],[],Int,λ d=>rb F (fM d.1.1),λ d r=>((r,()),())⟩ λ da db=>by
 conv=>rhs;simp only[rb,a']
 kernel_rfl
def au9(F:Nat):aS aE:=(au8 F).rt 84 ⟨[lL,lL,lL],[],[lQ],[],Bool,λ d=>qX d.1.1 d.1.2.1 d.1.2.2.1,λ d r=>((r,()),())⟩ λ da db=>by
 conv=>rhs;simp only[qX,a']
 kernel_rfl
def au_(F:Nat):aS aE:=(au9 F).rt 101 ⟨[kq],[],[lL],[],Int,λ d=>Iq (dW d.1.1),λ d r=>((r,()),())⟩ λ da db=>by
 conv=>rhs;simp only[Iq,a']
 kernel_rfl
def au'(F:Nat):aS aE:=(au_ F).rt 92 ⟨[iD,lL],[],[lQ],[],Bool,λ d=>ui (hT d.1.1) d.1.2.1,λ d r=>((r,()),())⟩ λ da db=>by
 conv=>rhs;simp only[ui,a']
 kernel_rfl
def avb(F:Nat):aS aE:=(au' F).rt 93 ⟨[iD,lL,lL],[],[lQ],[],Bool,λ d=>uj (hT d.1.1) d.1.2.1 d.1.2.2.1,λ d r=>((r,()),())⟩ λ da db=>by
 conv=>rhs;simp only[uj,a']
 kernel_rfl
def WE(k:Nat)(a:Int)(b:I.bp)(c:List Int)(d:List (Int×Bool))(e:Int):=dv (True) (bb (qW a b k c d e))
theorem aaO(k:Nat)(b:Int)(a:I.bp)(c:List Int)(d:List (Int×Bool))(e:Int):bb (qW b a k c d e)=WE k b (⟨(⟨a.H.wO,a.H.ai,a.H.az,a.H.aI,a.H.aD,a.H.aJ,a.H.Next⟩:I.aP),(⟨(⟨a.S.K.aV,a.S.K.aT,a.S.K.Fields,a.S.K.Names,a.S.K.aU⟩:I.aN)⟩:I.b4),a.ai,a.az,[]⟩:I.bp) c d e:=(show bb (qW b a k c d e)=bb (qW b (⟨(⟨a.H.wO,a.H.ai,a.H.az,a.H.aI,a.H.aD,a.H.aJ,a.H.Next⟩:I.aP),(⟨(⟨a.S.K.aV,a.S.K.aT,a.S.K.Fields,a.S.K.Names,a.S.K.aU⟩:I.aN)⟩:I.b4),a.ai,a.az,[]⟩:I.bp) k c d e) by kernel_rfl).trans (dJ trivial).symm
def avc(F:Nat):aS aE:=(avb F).bW 102 0 F ⟨[0,2,8,9],[.p (.B 0),lL,.p (.R 2),lL],[gn,.m 3 4,.r 3 false],
 [⟨⟨.nm,[8],[.p (.R 2)],[gn,.m 3 4,.r 3 false]⟩,(List Int)×(List (Int×Bool)),λ d r=>(((),()),((d.2.1.1,d.2.1.2.1,d.2.1.2.2.1,d.2.1.2.2.2.1,d.2.1.2.2.2.2.1,d.2.1.2.2.2.2.2.1,d.2.1.2.2.2.2.2.2.1,d.2.1.2.2.2.2.2.2.2.1,d.2.1.2.2.2.2.2.2.2.2.1,d.2.1.2.2.2.2.2.2.2.2.2.1,d.2.1.2.2.2.2.2.2.2.2.2.2.1,d.2.1.2.2.2.2.2.2.2.2.2.2.2.1,d.2.1.2.2.2.2.2.2.2.2.2.2.2.2.1,d.2.1.2.2.2.2.2.2.2.2.2.2.2.2.2.1,(),()),r.2,r.1,()))⟩,
  ⟨⟨.rt,[6,7],[lO,lQ],[gn,.m 3 4,.d]⟩,(List Int)×Bool×I.bp,λ d r=>((r.1,r.2.1,()),((d.2.1.1,d.2.1.2.1,d.2.1.2.2.1,d.2.1.2.2.2.1,d.2.1.2.2.2.2.1,d.2.1.2.2.2.2.2.1,d.2.1.2.2.2.2.2.2.1,d.2.1.2.2.2.2.2.2.2.1,d.2.1.2.2.2.2.2.2.2.2.1,d.2.1.2.2.2.2.2.2.2.2.2.1,d.2.1.2.2.2.2.2.2.2.2.2.2.1,d.2.1.2.2.2.2.2.2.2.2.2.2.2.1,d.2.1.2.2.2.2.2.2.2.2.2.2.2.2.1,d.2.1.2.2.2.2.2.2.2.2.2.2.2.2.2.1,(),()),r.2.2.dO,(),()))⟩],
 λ k d=>WE k d.1.2.1 (⟨(dW d.2.1),(hT d.2.1.2.2.2.2.2.2.2),d.2.1.2.2.2.2.2.2.2.2.2.2.2.2.1,d.2.1.2.2.2.2.2.2.2.2.2.2.2.2.2.1,[]⟩:I.bp) d.2.2.2.1 d.2.2.1 d.1.2.2.2.1⟩ (bM.bV (λ d=>dI) λ k da db q h=>by
 obtain⟨_,(v0:Int),_,(v1:Int),_⟩:=da
 obtain⟨⟨(f:List Int),(v3:Int),(v4:Int),(v5:Int),(g:Int),(i:List Int),(j:Int),(v9:List I.al),(a:List Int),(b:List (List I.Field)),(c:List (List (List UInt8))),(l:List (List I.Target)),(m:List Int),(n:List Int),_,_⟩,(o:List (Int×Bool)),(e:List Int),_⟩:=db
 conv=>rhs;change dL (α:=((List Int)×(List (Int×Bool)))⊕((List Int)×Bool×I.bp)) _ (WE (k+1) v0 (⟨(⟨f,v3,v4,v5,g,i,j⟩:I.aP),(⟨(⟨v9,a,b,c,l⟩:I.aN)⟩:I.b4),m,n,[]⟩:I.bp) e o v1);rw[<-aaO (k+1) v0 (⟨(⟨f,v3,v4,v5,g,i,j⟩:I.aP),(⟨(⟨v9,a,b,c,l⟩:I.aN)⟩:I.b4),m,n,[]⟩:I.bp) e o v1];simp only[qW,a',aaO];simp only[bS]
 kernel_rfl)
def avd(F:Nat):aS aE:=(avc F).rt 102 ⟨[.p (.B 0),lL,lL],[gn,.m 3 4],[lO,lQ],[gn,.m 3 4],(List Int)×Bool×I.bp,λ d=>oV F (⟨(dW d.2.1),(hT d.2.1.2.2.2.2.2.2.2),d.2.1.2.2.2.2.2.2.2.2.2.2.2.2.1,d.2.1.2.2.2.2.2.2.2.2.2.2.2.2.2.1,d.2.2.1⟩:I.bp) d.1.2.1 d.1.2.2.1,λ d r=>((r.1,r.2.1,()),((d.2.1.1,d.2.1.2.1,d.2.1.2.2.1,d.2.1.2.2.2.1,d.2.1.2.2.2.2.1,d.2.1.2.2.2.2.2.1,d.2.1.2.2.2.2.2.2.1,d.2.1.2.2.2.2.2.2.2.1,d.2.1.2.2.2.2.2.2.2.2.1,d.2.1.2.2.2.2.2.2.2.2.2.1,d.2.1.2.2.2.2.2.2.2.2.2.2.1,d.2.1.2.2.2.2.2.2.2.2.2.2.2.1,d.2.1.2.2.2.2.2.2.2.2.2.2.2.2.1,d.2.1.2.2.2.2.2.2.2.2.2.2.2.2.2.1,(),()),r.2.2.dO,()))⟩ λ da db=>by
 obtain⟨_,(v0:Int),(v1:Int),_⟩:=da;obtain⟨⟨(e:List Int),(v3:Int),(v4:Int),(v5:Int),(f:Int),(g:List Int),(h:Int),(v9:List I.al),(a:List Int),(b:List (List I.Field)),(c:List (List (List UInt8))),(i:List (List I.Target)),(j:List Int),(k:List Int),_,_⟩,(l:List (Int×Bool)),_⟩:=db;conv=>rhs;simp only[oV,a',aaO]
 kernel_rfl
def W8(k:Nat)(a:List (List Int))(b:Int)(c:Int)(e2:List (List Int))(e3:Int):=dv ((a:List (List Int))=e2/\(a.length:Int)=e3/\True) (zP a k b c)
theorem abf(k:Nat)(a:List (List Int))(b:Int)(c:Int):zP a k b c=W8 k a b c a (a.length:Int):=(dJ ⟨rfl,rfl,trivial⟩).symm
def ave(F:Nat):aS aE:=(avd F).bW 135 0 F ⟨[0,3,9,10,11],[.p (.l 22),lL,.p (.l 22),lL,lL],[],
 [⟨⟨.nm,[0,3],[.p (.l 22),lL],[]⟩,Int,λ d r=>((d.1.1,r,()),())⟩],
 λ k d=>W8 k d.1.1 d.1.2.1 d.1.2.2.2.2.1 d.1.2.2.1 d.1.2.2.2.1⟩ (bM.bV (λ d=>dI) λ k da db q h=>by
 obtain⟨(v0:List (List Int)),(v1:Int),(b:List (List Int)),(v3:Int),(v4:Int),_⟩:=da
 obtain⟨a,_⟩:=ej h
 dsimp only at a
 obtain⟨rfl,rfl,_⟩:=a
 conv=>rhs;change dL (α:=Int) _ (W8 (k+1) v0 v1 v4 (v0) (v0.length:Int));rw[<-abf (k+1) v0 v1 v4];simp only[zP,a',abf];simp only[bS]
 kernel_rfl)
def W9(k:Nat)(a:List (List Int))(b:List Int)(c:Int)(e1:Int):=dv ((a.length:Int)=e1/\True) (zQ a k b c)
theorem abg(k:Nat)(a:List (List Int))(b:List Int)(c:Int):zQ a k b c=W9 k a b c (a.length:Int):=(dJ ⟨rfl,trivial⟩).symm
def avf(F:Nat):aS aE:=(ave F).bW 135 2 F ⟨[6,25,26,27],[.p (.R 0),.p (.l 22),lL,lL],[.r 3 false],
 [⟨⟨.nm,[6],[.p (.R 0)],[.r 3 false]⟩,List Int,λ d r=>(((),()),(r,()))⟩],
 λ k d=>W9 k d.1.2.1 d.2.1 d.1.2.2.2.1 d.1.2.2.1⟩ (bM.bV (λ d=>dI) λ k da db q h=>by
 obtain⟨_,(v0:List (List Int)),(v1:Int),(a:Int),_⟩:=da
 obtain⟨(v3:List Int),_⟩:=db
 obtain⟨b,_⟩:=ej h
 dsimp only at b
 obtain⟨rfl,_⟩:=b
 conv=>rhs;change dL (α:=List Int) _ (W9 (k+1) v0 v3 a (v0.length:Int));rw[<-abg (k+1) v0 v3 a];simp only[zQ,a',abg];simp only[bS]
 kernel_rfl)
def avg(F:Nat):aS aE:=(avf F).rt 135 ⟨[.p (.l 22)],[],[lO],[],List Int,λ d=>JE F d.1.1,λ d r=>((r,()),())⟩ λ da db=>by
 obtain⟨(v0:List (List Int)),_⟩:=da;conv=>rhs;simp only[JE,a',abf,abg,SN]
 kernel_rfl
def avh(F:Nat):aS aE:=(avg F).rt 133 ⟨[.p (.B 0)],[gn,.m 3 4],[lO],[gn,.m 3 4],List Int,λ d=>BD F (⟨(dW d.2.1),(hT d.2.1.2.2.2.2.2.2.2),d.2.1.2.2.2.2.2.2.2.2.2.2.2.2.1,d.2.1.2.2.2.2.2.2.2.2.2.2.2.2.2.1,d.2.2.1⟩:I.bp),λ d r=>((r,()),((d.2.1.1,d.2.1.2.1,d.2.1.2.2.1,d.2.1.2.2.2.1,d.2.1.2.2.2.2.1,d.2.1.2.2.2.2.2.1,d.2.1.2.2.2.2.2.2.1,d.2.1.2.2.2.2.2.2.2.1,d.2.1.2.2.2.2.2.2.2.2.1,d.2.1.2.2.2.2.2.2.2.2.2.1,d.2.1.2.2.2.2.2.2.2.2.2.2.1,d.2.1.2.2.2.2.2.2.2.2.2.2.2.1,d.2.1.2.2.2.2.2.2.2.2.2.2.2.2.1,d.2.1.2.2.2.2.2.2.2.2.2.2.2.2.2.1,(),()),d.2.2.1,()))⟩ λ da db=>by
 conv=>rhs;simp only[BD,a']
 kernel_rfl
def WB(k:Nat)(b:I.bp)(a:List Int)(c:List (Int×Bool))(d:Int)(e1:Int):=dv ((a.length:Int)=e1/\True) (bb (yF b a k c d))
theorem aaL(k:Nat)(b:I.bp)(a:List Int)(c:List (Int×Bool))(d:Int):bb (yF b a k c d)=WB k b a c d (a.length:Int):=(dJ ⟨rfl,trivial⟩).symm
def avi(F:Nat):aS aE:=(avh F).bW 103 0 F ⟨[0,3,9,10,11],[.p (.B 0),.p (.M 2),lO,lL,lL],[gn,.m 3 4,.m 3 4],
 [⟨⟨.nm,[0,3],[.p (.B 0),.p (.M 2)],[gn,.m 3 4,.m 3 4]⟩,List (Int×Bool),λ d r=>(((),(),()),((d.2.1.1,d.2.1.2.1,d.2.1.2.2.1,d.2.1.2.2.2.1,d.2.1.2.2.2.2.1,d.2.1.2.2.2.2.2.1,d.2.1.2.2.2.2.2.2.1,d.2.1.2.2.2.2.2.2.2.1,d.2.1.2.2.2.2.2.2.2.2.1,d.2.1.2.2.2.2.2.2.2.2.2.1,d.2.1.2.2.2.2.2.2.2.2.2.2.1,d.2.1.2.2.2.2.2.2.2.2.2.2.2.1,d.2.1.2.2.2.2.2.2.2.2.2.2.2.2.1,d.2.1.2.2.2.2.2.2.2.2.2.2.2.2.2.1,(),()),d.2.2.1,r,()))⟩,
  ⟨⟨.rt,[2],[lL],[gn,.m 3 4,.d]⟩,Int,λ d r=>((r,()),((d.2.1.1,d.2.1.2.1,d.2.1.2.2.1,d.2.1.2.2.2.1,d.2.1.2.2.2.2.1,d.2.1.2.2.2.2.2.1,d.2.1.2.2.2.2.2.2.1,d.2.1.2.2.2.2.2.2.2.1,d.2.1.2.2.2.2.2.2.2.2.1,d.2.1.2.2.2.2.2.2.2.2.2.1,d.2.1.2.2.2.2.2.2.2.2.2.2.1,d.2.1.2.2.2.2.2.2.2.2.2.2.2.1,d.2.1.2.2.2.2.2.2.2.2.2.2.2.2.1,d.2.1.2.2.2.2.2.2.2.2.2.2.2.2.2.1,(),()),d.2.2.1,(),()))⟩],
 λ k d=>WB k (⟨(dW d.2.1),(hT d.2.1.2.2.2.2.2.2.2),d.2.1.2.2.2.2.2.2.2.2.2.2.2.2.1,d.2.1.2.2.2.2.2.2.2.2.2.2.2.2.2.1,d.2.2.1⟩:I.bp) d.1.2.2.1 d.2.2.2.1 d.1.2.2.2.2.1 d.1.2.2.2.1⟩ (bM.bV (λ d=>dI) λ k da db q h=>by
 obtain⟨_,_,(v0:List Int),(v1:Int),(f:Int),_⟩:=da
 obtain⟨⟨(v3:List Int),(v4:Int),(v5:Int),(g:Int),(i:Int),(j:List Int),(v9:Int),(a:List I.al),(b:List Int),(c:List (List I.Field)),(l:List (List (List UInt8))),(m:List (List I.Target)),(n:List Int),(o:List Int),_,_⟩,(e:List (Int×Bool)),(p:List (Int×Bool)),_⟩:=db
 obtain⟨s,_⟩:=ej h
 dsimp only at s
 obtain⟨rfl,_⟩:=s
 conv=>rhs;change dL (α:=(List (Int×Bool))⊕Int) _ (WB (k+1) (⟨(⟨v3,v4,v5,g,i,j,v9⟩:I.aP),(⟨(⟨a,b,c,l,m⟩:I.aN)⟩:I.b4),n,o,e⟩:I.bp) v0 p f (v0.length:Int));rw[<-aaL (k+1) (⟨(⟨v3,v4,v5,g,i,j,v9⟩:I.aP),(⟨(⟨a,b,c,l,m⟩:I.aN)⟩:I.b4),n,o,e⟩:I.bp) v0 p f];simp only[yF,a',aaL];simp only[bS]
 kernel_rfl)
def avj(F:Nat):aS aE:=(avi F).rt 103 ⟨[.p (.B 0)],[gn,.m 3 4],[lL],[gn,.m 3 4],Int,λ d=>Im F (⟨(dW d.2.1),(hT d.2.1.2.2.2.2.2.2.2),d.2.1.2.2.2.2.2.2.2.2.2.2.2.2.1,d.2.1.2.2.2.2.2.2.2.2.2.2.2.2.2.1,d.2.2.1⟩:I.bp),λ d r=>((r,()),((d.2.1.1,d.2.1.2.1,d.2.1.2.2.1,d.2.1.2.2.2.1,d.2.1.2.2.2.2.1,d.2.1.2.2.2.2.2.1,d.2.1.2.2.2.2.2.2.1,d.2.1.2.2.2.2.2.2.2.1,d.2.1.2.2.2.2.2.2.2.2.1,d.2.1.2.2.2.2.2.2.2.2.2.1,d.2.1.2.2.2.2.2.2.2.2.2.2.1,d.2.1.2.2.2.2.2.2.2.2.2.2.2.1,d.2.1.2.2.2.2.2.2.2.2.2.2.2.2.1,d.2.1.2.2.2.2.2.2.2.2.2.2.2.2.2.1,(),()),d.2.2.1,()))⟩ λ da db=>by
 obtain⟨_,_⟩:=da;obtain⟨⟨(v0:List Int),(v1:Int),(e:Int),(v3:Int),(v4:Int),(v5:List Int),(f:Int),(g:List I.al),(h:List Int),(v9:List (List I.Field)),(a:List (List (List UInt8))),(b:List (List I.Target)),(c:List Int),(i:List Int),_,_⟩,(j:List (Int×Bool)),_⟩:=db;conv=>rhs;simp only[Im,a',aaL]
 kernel_rfl
def avk(F:Nat):aS aE:=(avj F).rt 99 ⟨[iD,lL,lL],[],[lQ],[],Bool,λ d=>sp (hT d.1.1) d.1.2.1 d.1.2.2.1,λ d r=>((r,()),())⟩ λ da db=>by
 conv=>rhs;simp only[sp,a']
 kernel_rfl
def avm(F:Nat):aS aE:=(avk F).bW 134 0 F ⟨[0,1,5,15,16],[.p (.B 0),lL,.p (.R 2),lL,lL],[gn,.m 3 4,.r 3 false],
 [⟨⟨.nm,[5],[.p (.R 2)],[gn,.m 3 4,.r 3 false]⟩,List Int,λ d r=>(((),()),((d.2.1.1,d.2.1.2.1,d.2.1.2.2.1,d.2.1.2.2.2.1,d.2.1.2.2.2.2.1,d.2.1.2.2.2.2.2.1,d.2.1.2.2.2.2.2.2.1,d.2.1.2.2.2.2.2.2.2.1,d.2.1.2.2.2.2.2.2.2.2.1,d.2.1.2.2.2.2.2.2.2.2.2.1,d.2.1.2.2.2.2.2.2.2.2.2.2.1,d.2.1.2.2.2.2.2.2.2.2.2.2.2.1,d.2.1.2.2.2.2.2.2.2.2.2.2.2.2.1,d.2.1.2.2.2.2.2.2.2.2.2.2.2.2.2.1,(),()),d.2.2.1,r,()))⟩],
 λ k d=>yE d.1.2.1 (⟨(dW d.2.1),(hT d.2.1.2.2.2.2.2.2.2),d.2.1.2.2.2.2.2.2.2.2.2.2.2.2.1,d.2.1.2.2.2.2.2.2.2.2.2.2.2.2.2.1,d.2.2.1⟩:I.bp) d.1.2.2.2.1 k d.2.2.2.1 d.1.2.2.2.2.1⟩ (bM.bV (λ d=>rfl) λ k da db q h=>by
 conv=>rhs;simp only[yE,a'];simp only[bS]
 kernel_rfl)
def avn(F:Nat):aS aE:=(avm F).rt 134 ⟨[.p (.B 0),lL],[gn,.m 3 4],[lO],[gn,.m 3 4],List Int,λ d=>sq F (⟨(dW d.2.1),(hT d.2.1.2.2.2.2.2.2.2),d.2.1.2.2.2.2.2.2.2.2.2.2.2.2.1,d.2.1.2.2.2.2.2.2.2.2.2.2.2.2.2.1,d.2.2.1⟩:I.bp) d.1.2.1,λ d r=>((r,()),((d.2.1.1,d.2.1.2.1,d.2.1.2.2.1,d.2.1.2.2.2.1,d.2.1.2.2.2.2.1,d.2.1.2.2.2.2.2.1,d.2.1.2.2.2.2.2.2.1,d.2.1.2.2.2.2.2.2.2.1,d.2.1.2.2.2.2.2.2.2.2.1,d.2.1.2.2.2.2.2.2.2.2.2.1,d.2.1.2.2.2.2.2.2.2.2.2.2.1,d.2.1.2.2.2.2.2.2.2.2.2.2.2.1,d.2.1.2.2.2.2.2.2.2.2.2.2.2.2.1,d.2.1.2.2.2.2.2.2.2.2.2.2.2.2.2.1,(),()),d.2.2.1,()))⟩ λ da db=>by
 conv=>rhs;simp only[sq,a']
 kernel_rfl
def avo(F:Nat):aS aE:=(avn F).rt 136 ⟨[lL],[],[lQ],[],Bool,λ d=>XI d.1.1,λ d r=>((r,()),())⟩ λ da db=>by
 conv=>rhs;simp only[XI,a']
 kernel_rfl
def avp(F:Nat):aS aE:=(avo F).rt 137 ⟨[.p (.B 0),lL],[gn,.m 3 4],[lQ],[gn,.m 3 4],Bool,λ d=>Il (⟨(dW d.2.1),(hT d.2.1.2.2.2.2.2.2.2),d.2.1.2.2.2.2.2.2.2.2.2.2.2.2.1,d.2.1.2.2.2.2.2.2.2.2.2.2.2.2.2.1,d.2.2.1⟩:I.bp) d.1.2.1,λ d r=>((r,()),((d.2.1.1,d.2.1.2.1,d.2.1.2.2.1,d.2.1.2.2.2.1,d.2.1.2.2.2.2.1,d.2.1.2.2.2.2.2.1,d.2.1.2.2.2.2.2.2.1,d.2.1.2.2.2.2.2.2.2.1,d.2.1.2.2.2.2.2.2.2.2.1,d.2.1.2.2.2.2.2.2.2.2.2.1,d.2.1.2.2.2.2.2.2.2.2.2.2.1,d.2.1.2.2.2.2.2.2.2.2.2.2.2.1,d.2.1.2.2.2.2.2.2.2.2.2.2.2.2.1,d.2.1.2.2.2.2.2.2.2.2.2.2.2.2.2.1,(),()),d.2.2.1,()))⟩ λ da db=>by
 conv=>rhs;simp only[Il,a']
 kernel_rfl
def avq(F:Nat):aS aE:=(avp F).rt 139 ⟨[lL,.p (.B 0)],[.c 60 [.B 1],jo,.m 3 4],[lQ],[.c 60 [.B 1],jo,.m 3 4],Bool,λ d=>Ql d.1.1 (⟨(dW d.2.2.1),(hT d.2.2.1.2.2.2.2.2.2.2),d.2.2.1.2.2.2.2.2.2.2.2.2.2.2.2.1,d.2.2.1.2.2.2.2.2.2.2.2.2.2.2.2.2.1,d.2.2.2.1⟩:I.bp),λ d r=>((r,()),(((),()),(d.2.2.1.1,d.2.2.1.2.1,d.2.2.1.2.2.1,d.2.2.1.2.2.2.1,d.2.2.1.2.2.2.2.1,d.2.2.1.2.2.2.2.2.1,d.2.2.1.2.2.2.2.2.2.1,d.2.2.1.2.2.2.2.2.2.2.1,d.2.2.1.2.2.2.2.2.2.2.2.1,d.2.2.1.2.2.2.2.2.2.2.2.2.1,d.2.2.1.2.2.2.2.2.2.2.2.2.2.1,d.2.2.1.2.2.2.2.2.2.2.2.2.2.2.1,d.2.2.1.2.2.2.2.2.2.2.2.2.2.2.2.1,d.2.2.1.2.2.2.2.2.2.2.2.2.2.2.2.2.1,(),()),d.2.2.2.1,()))⟩ λ da db=>by
 conv=>rhs;simp only[Ql,a']
 kernel_rfl
def avr(F:Nat):aS aE:=(avq F).rt 68 ⟨[.p (.B 0),lL],[gn,.m 3 4],[lQ],[gn,.m 3 4],Bool,λ d=>Ik (⟨(dW d.2.1),(hT d.2.1.2.2.2.2.2.2.2),d.2.1.2.2.2.2.2.2.2.2.2.2.2.2.1,d.2.1.2.2.2.2.2.2.2.2.2.2.2.2.2.1,d.2.2.1⟩:I.bp) d.1.2.1,λ d r=>((r,()),((d.2.1.1,d.2.1.2.1,d.2.1.2.2.1,d.2.1.2.2.2.1,d.2.1.2.2.2.2.1,d.2.1.2.2.2.2.2.1,d.2.1.2.2.2.2.2.2.1,d.2.1.2.2.2.2.2.2.2.1,d.2.1.2.2.2.2.2.2.2.2.1,d.2.1.2.2.2.2.2.2.2.2.2.1,d.2.1.2.2.2.2.2.2.2.2.2.2.1,d.2.1.2.2.2.2.2.2.2.2.2.2.2.1,d.2.1.2.2.2.2.2.2.2.2.2.2.2.2.1,d.2.1.2.2.2.2.2.2.2.2.2.2.2.2.2.1,(),()),d.2.2.1,()))⟩ λ da db=>by
 conv=>rhs;simp only[Ik,a']
 kernel_rfl
def avs(F:Nat):aS aE:=(avr F).rt 67 ⟨[lL,.p (.B 0)],[.c 60 [.B 1],jo,.m 3 4],[lQ],[.c 60 [.B 1],jo,.m 3 4],Bool,λ d=>Ud d.1.1 (⟨(dW d.2.2.1),(hT d.2.2.1.2.2.2.2.2.2.2),d.2.2.1.2.2.2.2.2.2.2.2.2.2.2.2.1,d.2.2.1.2.2.2.2.2.2.2.2.2.2.2.2.2.1,d.2.2.2.1⟩:I.bp),λ d r=>((r,()),(((),()),(d.2.2.1.1,d.2.2.1.2.1,d.2.2.1.2.2.1,d.2.2.1.2.2.2.1,d.2.2.1.2.2.2.2.1,d.2.2.1.2.2.2.2.2.1,d.2.2.1.2.2.2.2.2.2.1,d.2.2.1.2.2.2.2.2.2.2.1,d.2.2.1.2.2.2.2.2.2.2.2.1,d.2.2.1.2.2.2.2.2.2.2.2.2.1,d.2.2.1.2.2.2.2.2.2.2.2.2.2.1,d.2.2.1.2.2.2.2.2.2.2.2.2.2.2.1,d.2.2.1.2.2.2.2.2.2.2.2.2.2.2.2.1,d.2.2.1.2.2.2.2.2.2.2.2.2.2.2.2.2.1,(),()),d.2.2.2.1,()))⟩ λ da db=>by
 conv=>rhs;simp only[Ud,a']
 kernel_rfl
def Xi(k:Nat)(s_:List Int)(a:Int)(e1:Int):=dv ((s_.length:Int)=e1/\True) (bb (CW s_ k a))
theorem abq(k:Nat)(s_:List Int)(a:Int):bb (CW s_ k a)=Xi k s_ a (s_.length:Int):=(dJ ⟨rfl,trivial⟩).symm
def avt(F:Nat):aS aE:=(avs F).bW 106 0 F ⟨[0,1,7,8],[lO,.f 136 [],lL,lL],[],
 [⟨⟨.nm,[],[],[]⟩,Unit,λ d r=>((),())⟩,
  ⟨⟨.rt,[4],[lL],[]⟩,Int,λ d r=>((r,()),())⟩],
 λ k d=>Xi k d.1.1 d.1.2.2.2.1 d.1.2.2.1⟩ (bM.bV (λ d=>dI) λ k da db q h=>by
 obtain⟨(v0:List Int),_,(v1:Int),(a:Int),_⟩:=da
 obtain⟨b,_⟩:=ej h
 dsimp only at b
 obtain⟨rfl,_⟩:=b
 conv=>rhs;change dL (α:=Unit⊕Int) _ (Xi (k+1) v0 a (v0.length:Int));rw[<-abq (k+1) v0 a];simp only[CW,a',abq];simp only[bS]
 kernel_rfl)
def avu(F:Nat):aS aE:=(avt F).rt 106 ⟨[lO,.f 136 []],[],[lL],[],Int,λ d=>SQ F d.1.1,λ d r=>((r,()),())⟩ λ da db=>by
 obtain⟨(v0:List Int),_,_⟩:=da;conv=>rhs;simp only[SQ,a',abq]
 kernel_rfl
def Xh(k:Nat)(s_:List Int)(a:I.bp)(b:Int)(e1:Int):=dv ((s_.length:Int)=e1/\True) (bb (CV s_ a k b))
theorem abp(k:Nat)(s_:List Int)(a:I.bp)(b:Int):bb (CV s_ a k b)=Xh k s_ a b (s_.length:Int):=(dJ ⟨rfl,trivial⟩).symm
def avv(F:Nat):aS aE:=(avu F).ME 106 0 F ⟨[0,1,7,8],[lO,.f 139 [.B 0],lL,lL],[.c 60 [.B 1],jo,.m 3 4],
 [⟨⟨.nm,[],[],[.c 60 [.B 1],jo,.m 3 4]⟩,Unit,λ d r=>((),(((),()),(d.2.2.1.1,d.2.2.1.2.1,d.2.2.1.2.2.1,d.2.2.1.2.2.2.1,d.2.2.1.2.2.2.2.1,d.2.2.1.2.2.2.2.2.1,d.2.2.1.2.2.2.2.2.2.1,d.2.2.1.2.2.2.2.2.2.2.1,d.2.2.1.2.2.2.2.2.2.2.2.1,d.2.2.1.2.2.2.2.2.2.2.2.2.1,d.2.2.1.2.2.2.2.2.2.2.2.2.2.1,d.2.2.1.2.2.2.2.2.2.2.2.2.2.2.1,d.2.2.1.2.2.2.2.2.2.2.2.2.2.2.2.1,d.2.2.1.2.2.2.2.2.2.2.2.2.2.2.2.2.1,(),()),d.2.2.2.1,()))⟩,
  ⟨⟨.rt,[4],[lL],[.c 60 [.B 1],jo,.m 3 4]⟩,Int,λ d r=>((r,()),(((),()),(d.2.2.1.1,d.2.2.1.2.1,d.2.2.1.2.2.1,d.2.2.1.2.2.2.1,d.2.2.1.2.2.2.2.1,d.2.2.1.2.2.2.2.2.1,d.2.2.1.2.2.2.2.2.2.1,d.2.2.1.2.2.2.2.2.2.2.1,d.2.2.1.2.2.2.2.2.2.2.2.1,d.2.2.1.2.2.2.2.2.2.2.2.2.1,d.2.2.1.2.2.2.2.2.2.2.2.2.2.1,d.2.2.1.2.2.2.2.2.2.2.2.2.2.2.1,d.2.2.1.2.2.2.2.2.2.2.2.2.2.2.2.1,d.2.2.1.2.2.2.2.2.2.2.2.2.2.2.2.2.1,(),()),d.2.2.2.1,()))⟩],
 λ k d=>Xh k d.1.1 (⟨(dW d.2.2.1),(hT d.2.2.1.2.2.2.2.2.2.2),d.2.2.1.2.2.2.2.2.2.2.2.2.2.2.2.1,d.2.2.1.2.2.2.2.2.2.2.2.2.2.2.2.2.1,d.2.2.2.1⟩:I.bp) d.1.2.2.2.1 d.1.2.2.1⟩ (bM.bV (λ d=>dI) λ k da db q h=>by
 obtain⟨(v0:List Int),⟨_,_⟩,(v1:Int),(f:Int),_⟩:=da
 obtain⟨⟨_,_⟩,⟨(v3:List Int),(v4:Int),(v5:Int),(g:Int),(i:Int),(j:List Int),(v9:Int),(a:List I.al),(b:List Int),(c:List (List I.Field)),(l:List (List (List UInt8))),(m:List (List I.Target)),(n:List Int),(o:List Int),_,_⟩,(e:List (Int×Bool)),_⟩:=db
 obtain⟨p,_⟩:=ej h
 dsimp only at p
 obtain⟨rfl,_⟩:=p
 conv=>rhs;change dL (α:=Unit⊕Int) _ (Xh (k+1) v0 (⟨(⟨v3,v4,v5,g,i,j,v9⟩:I.aP),(⟨(⟨a,b,c,l,m⟩:I.aN)⟩:I.b4),n,o,e⟩:I.bp) f (v0.length:Int));rw[<-abp (k+1) v0 (⟨(⟨v3,v4,v5,g,i,j,v9⟩:I.aP),(⟨(⟨a,b,c,l,m⟩:I.aN)⟩:I.b4),n,o,e⟩:I.bp) f];simp only[CV,a',abp];simp only[bS]
 kernel_rfl)
def avx(F:Nat):aS aE:=(avv F).yj 106 ⟨[lO,.f 139 [.B 0]],[.c 60 [.B 1],jo,.m 3 4],[lL],[.c 60 [.B 1],jo,.m 3 4],Int,λ d=>SP F d.1.1 (⟨(dW d.2.2.1),(hT d.2.2.1.2.2.2.2.2.2.2),d.2.2.1.2.2.2.2.2.2.2.2.2.2.2.2.1,d.2.2.1.2.2.2.2.2.2.2.2.2.2.2.2.2.1,d.2.2.2.1⟩:I.bp),λ d r=>((r,()),(((),()),(d.2.2.1.1,d.2.2.1.2.1,d.2.2.1.2.2.1,d.2.2.1.2.2.2.1,d.2.2.1.2.2.2.2.1,d.2.2.1.2.2.2.2.2.1,d.2.2.1.2.2.2.2.2.2.1,d.2.2.1.2.2.2.2.2.2.2.1,d.2.2.1.2.2.2.2.2.2.2.2.1,d.2.2.1.2.2.2.2.2.2.2.2.2.1,d.2.2.1.2.2.2.2.2.2.2.2.2.2.1,d.2.2.1.2.2.2.2.2.2.2.2.2.2.2.1,d.2.2.1.2.2.2.2.2.2.2.2.2.2.2.2.1,d.2.2.1.2.2.2.2.2.2.2.2.2.2.2.2.2.1,(),()),d.2.2.2.1,()))⟩ λ da db=>by
 obtain⟨(v0:List Int),⟨_,_⟩,_⟩:=da;obtain⟨⟨_,_⟩,⟨(v1:List Int),(e:Int),(v3:Int),(v4:Int),(v5:Int),(f:List Int),(g:Int),(h:List I.al),(v9:List Int),(a:List (List I.Field)),(b:List (List (List UInt8))),(c:List (List I.Target)),(i:List Int),(j:List Int),_,_⟩,(k:List (Int×Bool)),_⟩:=db;conv=>rhs;simp only[SP,a',abp]
 kernel_rfl
def Xj(k:Nat)(s_:List Int)(a:I.bp)(b:Int)(e1:Int):=dv ((s_.length:Int)=e1/\True) (bb (CX s_ a k b))
theorem abr(k:Nat)(s_:List Int)(a:I.bp)(b:Int):bb (CX s_ a k b)=Xj k s_ a b (s_.length:Int):=(dJ ⟨rfl,trivial⟩).symm
def avy(F:Nat):aS aE:=(avx F).ME 106 0 F ⟨[0,1,7,8],[lO,.f 67 [.B 0],lL,lL],[.c 60 [.B 1],jo,.m 3 4],
 [⟨⟨.nm,[],[],[.c 60 [.B 1],jo,.m 3 4]⟩,Unit,λ d r=>((),(((),()),(d.2.2.1.1,d.2.2.1.2.1,d.2.2.1.2.2.1,d.2.2.1.2.2.2.1,d.2.2.1.2.2.2.2.1,d.2.2.1.2.2.2.2.2.1,d.2.2.1.2.2.2.2.2.2.1,d.2.2.1.2.2.2.2.2.2.2.1,d.2.2.1.2.2.2.2.2.2.2.2.1,d.2.2.1.2.2.2.2.2.2.2.2.2.1,d.2.2.1.2.2.2.2.2.2.2.2.2.2.1,d.2.2.1.2.2.2.2.2.2.2.2.2.2.2.1,d.2.2.1.2.2.2.2.2.2.2.2.2.2.2.2.1,d.2.2.1.2.2.2.2.2.2.2.2.2.2.2.2.2.1,(),()),d.2.2.2.1,()))⟩,
  ⟨⟨.rt,[4],[lL],[.c 60 [.B 1],jo,.m 3 4]⟩,Int,λ d r=>((r,()),(((),()),(d.2.2.1.1,d.2.2.1.2.1,d.2.2.1.2.2.1,d.2.2.1.2.2.2.1,d.2.2.1.2.2.2.2.1,d.2.2.1.2.2.2.2.2.1,d.2.2.1.2.2.2.2.2.2.1,d.2.2.1.2.2.2.2.2.2.2.1,d.2.2.1.2.2.2.2.2.2.2.2.1,d.2.2.1.2.2.2.2.2.2.2.2.2.1,d.2.2.1.2.2.2.2.2.2.2.2.2.2.1,d.2.2.1.2.2.2.2.2.2.2.2.2.2.2.1,d.2.2.1.2.2.2.2.2.2.2.2.2.2.2.2.1,d.2.2.1.2.2.2.2.2.2.2.2.2.2.2.2.2.1,(),()),d.2.2.2.1,()))⟩],
 λ k d=>Xj k d.1.1 (⟨(dW d.2.2.1),(hT d.2.2.1.2.2.2.2.2.2.2),d.2.2.1.2.2.2.2.2.2.2.2.2.2.2.2.1,d.2.2.1.2.2.2.2.2.2.2.2.2.2.2.2.2.1,d.2.2.2.1⟩:I.bp) d.1.2.2.2.1 d.1.2.2.1⟩ (bM.bV (λ d=>dI) λ k da db q h=>by
 obtain⟨(v0:List Int),⟨_,_⟩,(v1:Int),(f:Int),_⟩:=da
 obtain⟨⟨_,_⟩,⟨(v3:List Int),(v4:Int),(v5:Int),(g:Int),(i:Int),(j:List Int),(v9:Int),(a:List I.al),(b:List Int),(c:List (List I.Field)),(l:List (List (List UInt8))),(m:List (List I.Target)),(n:List Int),(o:List Int),_,_⟩,(e:List (Int×Bool)),_⟩:=db
 obtain⟨p,_⟩:=ej h
 dsimp only at p
 obtain⟨rfl,_⟩:=p
 conv=>rhs;change dL (α:=Unit⊕Int) _ (Xj (k+1) v0 (⟨(⟨v3,v4,v5,g,i,j,v9⟩:I.aP),(⟨(⟨a,b,c,l,m⟩:I.aN)⟩:I.b4),n,o,e⟩:I.bp) f (v0.length:Int));rw[<-abr (k+1) v0 (⟨(⟨v3,v4,v5,g,i,j,v9⟩:I.aP),(⟨(⟨a,b,c,l,m⟩:I.aN)⟩:I.b4),n,o,e⟩:I.bp) f];simp only[CX,a',abr];simp only[bS]
 kernel_rfl)
def avz(F:Nat):aS aE:=(avy F).yj 106 ⟨[lO,.f 67 [.B 0]],[.c 60 [.B 1],jo,.m 3 4],[lL],[.c 60 [.B 1],jo,.m 3 4],Int,λ d=>SR F d.1.1 (⟨(dW d.2.2.1),(hT d.2.2.1.2.2.2.2.2.2.2),d.2.2.1.2.2.2.2.2.2.2.2.2.2.2.2.1,d.2.2.1.2.2.2.2.2.2.2.2.2.2.2.2.2.1,d.2.2.2.1⟩:I.bp),λ d r=>((r,()),(((),()),(d.2.2.1.1,d.2.2.1.2.1,d.2.2.1.2.2.1,d.2.2.1.2.2.2.1,d.2.2.1.2.2.2.2.1,d.2.2.1.2.2.2.2.2.1,d.2.2.1.2.2.2.2.2.2.1,d.2.2.1.2.2.2.2.2.2.2.1,d.2.2.1.2.2.2.2.2.2.2.2.1,d.2.2.1.2.2.2.2.2.2.2.2.2.1,d.2.2.1.2.2.2.2.2.2.2.2.2.2.1,d.2.2.1.2.2.2.2.2.2.2.2.2.2.2.1,d.2.2.1.2.2.2.2.2.2.2.2.2.2.2.2.1,d.2.2.1.2.2.2.2.2.2.2.2.2.2.2.2.2.1,(),()),d.2.2.2.1,()))⟩ λ da db=>by
 obtain⟨(v0:List Int),⟨_,_⟩,_⟩:=da;obtain⟨⟨_,_⟩,⟨(v1:List Int),(e:Int),(v3:Int),(v4:Int),(v5:Int),(f:List Int),(g:Int),(h:List I.al),(v9:List Int),(a:List (List I.Field)),(b:List (List (List UInt8))),(c:List (List I.Target)),(i:List Int),(j:List Int),_,_⟩,(k:List (Int×Bool)),_⟩:=db;conv=>rhs;simp only[SR,a',abr]
 kernel_rfl
def avA(F:Nat):aS aE:=(avz F).rt 66 ⟨[lO,.f 136 []],[],[lQ],[],Bool,λ d=>SL F d.1.1,λ d r=>((r,()),())⟩ λ da db=>by
 conv=>rhs;simp only[SL,a']
 kernel_rfl
def avB(F:Nat):aS aE:=(avA F).yj 66 ⟨[lO,.f 139 [.B 0]],[.c 60 [.B 1],jo,.m 3 4],[lQ],[.c 60 [.B 1],jo,.m 3 4],Bool,λ d=>SK F d.1.1 (⟨(dW d.2.2.1),(hT d.2.2.1.2.2.2.2.2.2.2),d.2.2.1.2.2.2.2.2.2.2.2.2.2.2.2.1,d.2.2.1.2.2.2.2.2.2.2.2.2.2.2.2.2.1,d.2.2.2.1⟩:I.bp),λ d r=>((r,()),(((),()),(d.2.2.1.1,d.2.2.1.2.1,d.2.2.1.2.2.1,d.2.2.1.2.2.2.1,d.2.2.1.2.2.2.2.1,d.2.2.1.2.2.2.2.2.1,d.2.2.1.2.2.2.2.2.2.1,d.2.2.1.2.2.2.2.2.2.2.1,d.2.2.1.2.2.2.2.2.2.2.2.1,d.2.2.1.2.2.2.2.2.2.2.2.2.1,d.2.2.1.2.2.2.2.2.2.2.2.2.2.1,d.2.2.1.2.2.2.2.2.2.2.2.2.2.2.1,d.2.2.1.2.2.2.2.2.2.2.2.2.2.2.2.1,d.2.2.1.2.2.2.2.2.2.2.2.2.2.2.2.2.1,(),()),d.2.2.2.1,()))⟩ λ da db=>by
 conv=>rhs;simp only[SK,a']
 kernel_rfl
def avC(F:Nat):aS aE:=(avB F).yj 66 ⟨[lO,.f 67 [.B 0]],[.c 60 [.B 1],jo,.m 3 4],[lQ],[.c 60 [.B 1],jo,.m 3 4],Bool,λ d=>SM F d.1.1 (⟨(dW d.2.2.1),(hT d.2.2.1.2.2.2.2.2.2.2),d.2.2.1.2.2.2.2.2.2.2.2.2.2.2.2.1,d.2.2.1.2.2.2.2.2.2.2.2.2.2.2.2.2.1,d.2.2.2.1⟩:I.bp),λ d r=>((r,()),(((),()),(d.2.2.1.1,d.2.2.1.2.1,d.2.2.1.2.2.1,d.2.2.1.2.2.2.1,d.2.2.1.2.2.2.2.1,d.2.2.1.2.2.2.2.2.1,d.2.2.1.2.2.2.2.2.2.1,d.2.2.1.2.2.2.2.2.2.2.1,d.2.2.1.2.2.2.2.2.2.2.2.1,d.2.2.1.2.2.2.2.2.2.2.2.2.1,d.2.2.1.2.2.2.2.2.2.2.2.2.2.1,d.2.2.1.2.2.2.2.2.2.2.2.2.2.2.1,d.2.2.1.2.2.2.2.2.2.2.2.2.2.2.2.1,d.2.2.1.2.2.2.2.2.2.2.2.2.2.2.2.2.1,(),()),d.2.2.2.1,()))⟩ λ da db=>by
 conv=>rhs;simp only[SM,a']
 kernel_rfl
def WH(k:Nat)(b:I.bp)(a:List Int)(c:Int)(e4:Int):=dv ((a.length:Int)=e4/\True) (bb (yH b a k c))
theorem aaQ(k:Nat)(b:I.bp)(a:List Int)(c:Int):bb (yH b a k c)=WH k b a c (a.length:Int):=(dJ ⟨rfl,trivial⟩).symm
def avD(F:Nat):aS aE:=(avC F).bW 104 2 F ⟨[0,10,11,12,18,19,20],[.p (.B 0),lO,lL,lL,lO,lL,lL],[gn,.m 3 4],
 [⟨⟨.nm,[0,10,11,12],[.p (.B 0),lO,lL,lL],[gn,.m 3 4]⟩,Unit,λ d r=>(((),d.1.2.1,d.1.2.2.1,d.1.2.2.2.1,()),((d.2.1.1,d.2.1.2.1,d.2.1.2.2.1,d.2.1.2.2.2.1,d.2.1.2.2.2.2.1,d.2.1.2.2.2.2.2.1,d.2.1.2.2.2.2.2.2.1,d.2.1.2.2.2.2.2.2.2.1,d.2.1.2.2.2.2.2.2.2.2.1,d.2.1.2.2.2.2.2.2.2.2.2.1,d.2.1.2.2.2.2.2.2.2.2.2.2.1,d.2.1.2.2.2.2.2.2.2.2.2.2.2.1,d.2.1.2.2.2.2.2.2.2.2.2.2.2.2.1,d.2.1.2.2.2.2.2.2.2.2.2.2.2.2.2.1,(),()),d.2.2.1,()))⟩,
  ⟨⟨.rt,[2],[lL],[gn,.m 3 4]⟩,Int,λ d r=>((r,()),((d.2.1.1,d.2.1.2.1,d.2.1.2.2.1,d.2.1.2.2.2.1,d.2.1.2.2.2.2.1,d.2.1.2.2.2.2.2.1,d.2.1.2.2.2.2.2.2.1,d.2.1.2.2.2.2.2.2.2.1,d.2.1.2.2.2.2.2.2.2.2.1,d.2.1.2.2.2.2.2.2.2.2.2.1,d.2.1.2.2.2.2.2.2.2.2.2.2.1,d.2.1.2.2.2.2.2.2.2.2.2.2.2.1,d.2.1.2.2.2.2.2.2.2.2.2.2.2.2.1,d.2.1.2.2.2.2.2.2.2.2.2.2.2.2.2.1,(),()),d.2.2.1,()))⟩],
 λ k d=>WH k (⟨(dW d.2.1),(hT d.2.1.2.2.2.2.2.2.2),d.2.1.2.2.2.2.2.2.2.2.2.2.2.2.1,d.2.1.2.2.2.2.2.2.2.2.2.2.2.2.2.1,d.2.2.1⟩:I.bp) d.1.2.2.2.2.1 d.1.2.2.2.2.2.2.1 d.1.2.2.2.2.2.1⟩ (bM.bV (λ d=>dI) λ k da db q h=>by
 obtain⟨_,(v0:List Int),(v1:Int),(u:Int),(v3:List Int),(v4:Int),(v5:Int),_⟩:=da
 obtain⟨⟨(g:List Int),(i:Int),(j:Int),(v9:Int),(a:Int),(b:List Int),(c:Int),(l:List I.al),(m:List Int),(n:List (List I.Field)),(o:List (List (List UInt8))),(e:List (List I.Target)),(p:List Int),(s:List Int),_,_⟩,(f:List (Int×Bool)),_⟩:=db
 obtain⟨t,_⟩:=ej h
 dsimp only at t
 obtain⟨rfl,_⟩:=t
 conv=>rhs;change dL (α:=Unit⊕Int) _ (WH (k+1) (⟨(⟨g,i,j,v9,a,b,c⟩:I.aP),(⟨(⟨l,m,n,o,e⟩:I.aN)⟩:I.b4),p,s,f⟩:I.bp) v3 v5 (v3.length:Int));rw[<-aaQ (k+1) (⟨(⟨g,i,j,v9,a,b,c⟩:I.aP),(⟨(⟨l,m,n,o,e⟩:I.aN)⟩:I.b4),p,s,f⟩:I.bp) v3 v5];simp only[yH,a',aaQ,aGx];simp only[bS]
 kernel_rfl)
def WG(F:Nat)(k:Nat)(b:I.bp)(a:List Int)(Ct:Int)(e1:Int):=dv ((a.length:Int)=e1/\True) (bb (BE F b a k Ct))
theorem aaP(F:Nat)(k:Nat)(b:I.bp)(a:List Int)(Ct:Int):bb (BE F b a k Ct)=WG F k b a Ct (a.length:Int):=(dJ ⟨rfl,trivial⟩).symm
def avE(F:Nat):aS aE:=(avD F).bW 104 0 F ⟨[0,10,11,12],[.p (.B 0),lO,lL,lL],[gn,.m 3 4],
 [⟨⟨.nm,[0],[.p (.B 0)],[gn,.m 3 4]⟩,Unit,λ d r=>(((),()),((d.2.1.1,d.2.1.2.1,d.2.1.2.2.1,d.2.1.2.2.2.1,d.2.1.2.2.2.2.1,d.2.1.2.2.2.2.2.1,d.2.1.2.2.2.2.2.2.1,d.2.1.2.2.2.2.2.2.2.1,d.2.1.2.2.2.2.2.2.2.2.1,d.2.1.2.2.2.2.2.2.2.2.2.1,d.2.1.2.2.2.2.2.2.2.2.2.2.1,d.2.1.2.2.2.2.2.2.2.2.2.2.2.1,d.2.1.2.2.2.2.2.2.2.2.2.2.2.2.1,d.2.1.2.2.2.2.2.2.2.2.2.2.2.2.2.1,(),()),d.2.2.1,()))⟩,
  ⟨⟨.rt,[2],[lL],[gn,.m 3 4]⟩,Int,λ d r=>((r,()),((d.2.1.1,d.2.1.2.1,d.2.1.2.2.1,d.2.1.2.2.2.1,d.2.1.2.2.2.2.1,d.2.1.2.2.2.2.2.1,d.2.1.2.2.2.2.2.2.1,d.2.1.2.2.2.2.2.2.2.1,d.2.1.2.2.2.2.2.2.2.2.1,d.2.1.2.2.2.2.2.2.2.2.2.1,d.2.1.2.2.2.2.2.2.2.2.2.2.1,d.2.1.2.2.2.2.2.2.2.2.2.2.2.1,d.2.1.2.2.2.2.2.2.2.2.2.2.2.2.1,d.2.1.2.2.2.2.2.2.2.2.2.2.2.2.2.1,(),()),d.2.2.1,()))⟩],
 λ k d=>WG F k (⟨(dW d.2.1),(hT d.2.1.2.2.2.2.2.2.2),d.2.1.2.2.2.2.2.2.2.2.2.2.2.2.1,d.2.1.2.2.2.2.2.2.2.2.2.2.2.2.2.1,d.2.2.1⟩:I.bp) d.1.2.1 d.1.2.2.2.1 d.1.2.2.1⟩ (bM.bV (λ d=>dI) λ k da db q h=>by
 obtain⟨_,(v0:List Int),(v1:Int),(f:Int),_⟩:=da
 obtain⟨⟨(v3:List Int),(v4:Int),(v5:Int),(g:Int),(i:Int),(j:List Int),(v9:Int),(a:List I.al),(b:List Int),(c:List (List I.Field)),(l:List (List (List UInt8))),(m:List (List I.Target)),(n:List Int),(o:List Int),_,_⟩,(e:List (Int×Bool)),_⟩:=db
 obtain⟨p,_⟩:=ej h
 dsimp only at p
 obtain⟨rfl,_⟩:=p
 conv=>rhs;change dL (α:=Unit⊕Int) _ (WG F (k+1) (⟨(⟨v3,v4,v5,g,i,j,v9⟩:I.aP),(⟨(⟨a,b,c,l,m⟩:I.aN)⟩:I.b4),n,o,e⟩:I.bp) v0 f (v0.length:Int));rw[<-aaP F (k+1) (⟨(⟨v3,v4,v5,g,i,j,v9⟩:I.aP),(⟨(⟨a,b,c,l,m⟩:I.aN)⟩:I.b4),n,o,e⟩:I.bp) v0 f];simp only[BE,a',aaQ,aaP];simp only[bS]
 kernel_rfl)
def avF(F:Nat):aS aE:=(avE F).rt 104 ⟨[.p (.B 0)],[gn,.m 3 4],[lL],[gn,.m 3 4],Int,λ d=>Ip F (⟨(dW d.2.1),(hT d.2.1.2.2.2.2.2.2.2),d.2.1.2.2.2.2.2.2.2.2.2.2.2.2.1,d.2.1.2.2.2.2.2.2.2.2.2.2.2.2.2.1,d.2.2.1⟩:I.bp),λ d r=>((r,()),((d.2.1.1,d.2.1.2.1,d.2.1.2.2.1,d.2.1.2.2.2.1,d.2.1.2.2.2.2.1,d.2.1.2.2.2.2.2.1,d.2.1.2.2.2.2.2.2.1,d.2.1.2.2.2.2.2.2.2.1,d.2.1.2.2.2.2.2.2.2.2.1,d.2.1.2.2.2.2.2.2.2.2.2.1,d.2.1.2.2.2.2.2.2.2.2.2.2.1,d.2.1.2.2.2.2.2.2.2.2.2.2.2.1,d.2.1.2.2.2.2.2.2.2.2.2.2.2.2.1,d.2.1.2.2.2.2.2.2.2.2.2.2.2.2.2.1,(),()),d.2.2.1,()))⟩ λ da db=>by
 obtain⟨_,_⟩:=da;obtain⟨⟨(v0:List Int),(v1:Int),(e:Int),(v3:Int),(v4:Int),(v5:List Int),(f:Int),(g:List I.al),(h:List Int),(v9:List (List I.Field)),(a:List (List (List UInt8))),(b:List (List I.Target)),(c:List Int),(i:List Int),_,_⟩,(j:List (Int×Bool)),_⟩:=db;conv=>rhs;simp only[Ip,a',aaP]
 kernel_rfl
def avG(F:Nat):aS aE:=(avF F).rt 172 ⟨[lL],[],[lQ],[],Bool,λ d=>cmp_isNaN_int d.1.1,λ d r=>((r,()),())⟩ λ da db=>by kernel_rfl
def arB(F:Nat):aS aE:=(avG F).rt 160 ⟨[lL,lL],[],[lQ],[],Bool,λ d=>cmp_Less_int d.1.1 d.1.2.1,λ d r=>((r,()),())⟩ λ da db=>by
 conv=>rhs;simp only[cmp_Less_int,a']
 kernel_rfl
def arC(F:Nat):aS aE:=(arB F).rt 161 ⟨[lL],[],[lQ],[],Bool,λ d=>SS d.1.1,λ d r=>((r,()),())⟩ λ da db=>by kernel_rfl
def W7(k:Nat)(b:Int)(a:List Int)(c:Int)(wR:Int)(e2:Int):=dv ((a.length:Int)=e2/\True) (w5 b a k c wR)
theorem abe(k:Nat)(b:Int)(a:List Int)(c:Int)(wR:Int):w5 b a k c wR=W7 k b a c wR (a.length:Int):=(dJ ⟨rfl,trivial⟩).symm
def arD(F:Nat):aS aE:=(arC F).bW 138 0 F ⟨[0,1,6,7,8],[lO,lL,lL,lL,lL],[],
 [⟨⟨.nm,[0,1,6,7],[lO,lL,lL,lL],[]⟩,Int,λ d r=>((d.1.1,d.1.2.1,d.1.2.2.1,r,()),())⟩],
 λ k d=>W7 k d.1.2.1 d.1.1 d.1.2.2.2.1 d.1.2.2.2.2.1 d.1.2.2.1⟩ (bM.bV (λ d=>dI) λ k da db q h=>by
 obtain⟨(v0:List Int),(v1:Int),(b:Int),(v3:Int),(v4:Int),_⟩:=da
 obtain⟨a,_⟩:=ej h
 dsimp only at a
 obtain⟨rfl,_⟩:=a
 conv=>rhs;change dL (α:=Int) _ (W7 (k+1) v1 v0 v3 v4 (v0.length:Int));rw[<-abe (k+1) v1 v0 v3 v4];simp only[w5,a',abe];simp only[bS]
 kernel_rfl)
def arE(F:Nat):aS aE:=(arD F).rt 138 ⟨[lO,lL],[],[lL,lQ],[],Int×Bool,λ d=>Nx F d.1.1 d.1.2.1,λ d r=>((r.1,r.2,()),())⟩ λ da db=>by
 obtain⟨(v0:List Int),(v1:Int),_⟩:=da;conv=>rhs;simp only[Nx,a',abe]
 kernel_rfl
def WC(F:Nat)(k:Nat)(a:I.bp)(b:Int)(e1:List Int)(e2:Int)(H3:List Int):=dv ((a.H.aJ:List Int)=e1/\(a.H.aJ.length:Int)=e2/\(a.H.aJ:List Int)=H3/\True) (bb (wh F a k b))
theorem aaM(F:Nat)(k:Nat)(a:I.bp)(b:Int):bb (wh F a k b)=WC F k a b a.H.aJ (a.H.aJ.length:Int) a.H.aJ:=(dJ ⟨rfl,rfl,rfl,trivial⟩).symm
def arF(F:Nat):aS aE:=(arE F).bW 105 0 F ⟨[1,3,16,17,18],[.p (.B 0),lO,lO,lL,lL],[.c 60 [.B 1],jo,.m 3 4],
 [⟨⟨.nm,[1,3],[.p (.B 0),lO],[.c 60 [.B 1],jo,.m 3 4]⟩,Unit,λ d r=>(((),d.1.2.1,()),(((),()),(d.2.2.1.1,d.2.2.1.2.1,d.2.2.1.2.2.1,d.2.2.1.2.2.2.1,d.2.2.1.2.2.2.2.1,d.2.2.1.2.2.2.2.2.1,d.2.2.1.2.2.2.2.2.2.1,d.2.2.1.2.2.2.2.2.2.2.1,d.2.2.1.2.2.2.2.2.2.2.2.1,d.2.2.1.2.2.2.2.2.2.2.2.2.1,d.2.2.1.2.2.2.2.2.2.2.2.2.2.1,d.2.2.1.2.2.2.2.2.2.2.2.2.2.2.1,d.2.2.1.2.2.2.2.2.2.2.2.2.2.2.2.1,d.2.2.1.2.2.2.2.2.2.2.2.2.2.2.2.2.1,(),()),d.2.2.2.1,()))⟩,
  ⟨⟨.rt,[2],[lL],[.c 60 [.B 1],jo,.m 3 4]⟩,Int,λ d r=>((r,()),(((),()),(d.2.2.1.1,d.2.2.1.2.1,d.2.2.1.2.2.1,d.2.2.1.2.2.2.1,d.2.2.1.2.2.2.2.1,d.2.2.1.2.2.2.2.2.1,d.2.2.1.2.2.2.2.2.2.1,d.2.2.1.2.2.2.2.2.2.2.1,d.2.2.1.2.2.2.2.2.2.2.2.1,d.2.2.1.2.2.2.2.2.2.2.2.2.1,d.2.2.1.2.2.2.2.2.2.2.2.2.2.1,d.2.2.1.2.2.2.2.2.2.2.2.2.2.2.1,d.2.2.1.2.2.2.2.2.2.2.2.2.2.2.2.1,d.2.2.1.2.2.2.2.2.2.2.2.2.2.2.2.2.1,(),()),d.2.2.2.1,()))⟩],
 λ k d=>WC F k (⟨(⟨d.2.2.1.1,d.2.2.1.2.1,d.2.2.1.2.2.1,d.2.2.1.2.2.2.1,d.2.2.1.2.2.2.2.1,d.1.2.1,d.2.2.1.2.2.2.2.2.2.1⟩:I.aP),(hT d.2.2.1.2.2.2.2.2.2.2),d.2.2.1.2.2.2.2.2.2.2.2.2.2.2.2.1,d.2.2.1.2.2.2.2.2.2.2.2.2.2.2.2.2.1,d.2.2.2.1⟩:I.bp) d.1.2.2.2.2.1 d.1.2.2.1 d.1.2.2.2.1 d.2.2.1.2.2.2.2.2.1⟩ (bM.bV (λ d=>dI) λ k da db q h=>by
 obtain⟨_,(v0:List Int),(v1:List Int),(s:Int),(v3:Int),_⟩:=da
 obtain⟨⟨_,_⟩,⟨(v4:List Int),(v5:Int),(f:Int),(g:Int),(i:Int),(v9:List Int),(a:Int),(b:List I.al),(c:List Int),(j:List (List I.Field)),(l:List (List (List UInt8))),(m:List (List I.Target)),(n:List Int),(e:List Int),_,_⟩,(o:List (Int×Bool)),_⟩:=db
 obtain⟨p,_⟩:=ej h
 dsimp only at p
 obtain⟨rfl,rfl,rfl,_⟩:=p
 conv=>rhs;change dL (α:=Unit⊕Int) _ (WC F (k+1) (⟨(⟨v4,v5,f,g,i,v0,a⟩:I.aP),(⟨(⟨b,c,j,l,m⟩:I.aN)⟩:I.b4),n,e,o⟩:I.bp) v3 (v0) (v0.length:Int) (v0));rw[<-aaM F (k+1) (⟨(⟨v4,v5,f,g,i,v0,a⟩:I.aP),(⟨(⟨b,c,j,l,m⟩:I.aN)⟩:I.b4),n,e,o⟩:I.bp) v3];simp only[wh,a',aaM,Z3];simp only[bS]
 kernel_rfl)
def WD(F:Nat)(k:Nat)(a:I.bp)(c:Int)(e2:Int)(H3:List Int)(b:List Int):=dv ((a.az.length:Int)=e2/\(a.H.aJ:List Int)=H3/\(a.az:List Int)=b/\True) (bb (yG F a k c))
theorem aaN(F:Nat)(k:Nat)(a:I.bp)(b:Int):bb (yG F a k b)=WD F k a b (a.az.length:Int) a.H.aJ a.az:=(dJ ⟨rfl,rfl,rfl,trivial⟩).symm
def arG(F:Nat):aS aE:=(arF F).bW 105 2 F ⟨[1,3,59,60,61],[.p (.B 0),lO,lO,lL,lL],[.c 60 [.B 1],jo,.m 3 4],
 [⟨⟨.nm,[],[],[.c 60 [.B 1],jo,.m 3 4]⟩,Unit,λ d r=>((),(((),()),(d.2.2.1.1,d.2.2.1.2.1,d.2.2.1.2.2.1,d.2.2.1.2.2.2.1,d.2.2.1.2.2.2.2.1,d.2.2.1.2.2.2.2.2.1,d.2.2.1.2.2.2.2.2.2.1,d.2.2.1.2.2.2.2.2.2.2.1,d.2.2.1.2.2.2.2.2.2.2.2.1,d.2.2.1.2.2.2.2.2.2.2.2.2.1,d.2.2.1.2.2.2.2.2.2.2.2.2.2.1,d.2.2.1.2.2.2.2.2.2.2.2.2.2.2.1,d.2.2.1.2.2.2.2.2.2.2.2.2.2.2.2.1,d.2.2.1.2.2.2.2.2.2.2.2.2.2.2.2.2.1,(),()),d.2.2.2.1,()))⟩,
  ⟨⟨.rt,[2],[lL],[.c 60 [.B 1],jo,.m 3 4]⟩,Int,λ d r=>((r,()),(((),()),(d.2.2.1.1,d.2.2.1.2.1,d.2.2.1.2.2.1,d.2.2.1.2.2.2.1,d.2.2.1.2.2.2.2.1,d.2.2.1.2.2.2.2.2.1,d.2.2.1.2.2.2.2.2.2.1,d.2.2.1.2.2.2.2.2.2.2.1,d.2.2.1.2.2.2.2.2.2.2.2.1,d.2.2.1.2.2.2.2.2.2.2.2.2.1,d.2.2.1.2.2.2.2.2.2.2.2.2.2.1,d.2.2.1.2.2.2.2.2.2.2.2.2.2.2.1,d.2.2.1.2.2.2.2.2.2.2.2.2.2.2.2.1,d.2.2.1.2.2.2.2.2.2.2.2.2.2.2.2.2.1,(),()),d.2.2.2.1,()))⟩],
 λ k d=>WD F k (⟨(⟨d.2.2.1.1,d.2.2.1.2.1,d.2.2.1.2.2.1,d.2.2.1.2.2.2.1,d.2.2.1.2.2.2.2.1,d.1.2.1,d.2.2.1.2.2.2.2.2.2.1⟩:I.aP),(hT d.2.2.1.2.2.2.2.2.2.2),d.2.2.1.2.2.2.2.2.2.2.2.2.2.2.2.1,d.1.2.2.1,d.2.2.2.1⟩:I.bp) d.1.2.2.2.2.1 d.1.2.2.2.1 d.2.2.1.2.2.2.2.2.1 d.2.2.1.2.2.2.2.2.2.2.2.2.2.2.2.2.1⟩ (bM.bV (λ d=>dI) λ k da db q h=>by
 obtain⟨_,(v0:List Int),(v1:List Int),(s:Int),(v3:Int),_⟩:=da
 obtain⟨⟨_,_⟩,⟨(v4:List Int),(v5:Int),(e:Int),(f:Int),(g:Int),(v9:List Int),(a:Int),(b:List I.al),(c:List Int),(i:List (List I.Field)),(j:List (List (List UInt8))),(l:List (List I.Target)),(m:List Int),(p:List Int),_,_⟩,(n:List (Int×Bool)),_⟩:=db
 obtain⟨o,_⟩:=ej h
 dsimp only at o
 obtain⟨rfl,rfl,rfl,_⟩:=o
 conv=>rhs;change dL (α:=Unit⊕Int) _ (WD F (k+1) (⟨(⟨v4,v5,e,f,g,v0,a⟩:I.aP),(⟨(⟨b,c,i,j,l⟩:I.aN)⟩:I.b4),m,v1,n⟩:I.bp) v3 (v1.length:Int) (v0) (v1));rw[<-aaN F (k+1) (⟨(⟨v4,v5,e,f,g,v0,a⟩:I.aP),(⟨(⟨b,c,i,j,l⟩:I.aN)⟩:I.b4),m,v1,n⟩:I.bp) v3];simp only[yG,a',aaN];simp only[bS]
 kernel_rfl)
def arH(F:Nat):aS aE:=(arG F).rt 105 ⟨[.p (.B 0)],[gn,.m 3 4],[lL],[gn,.m 3 4],Int,λ d=>Io F (⟨(dW d.2.1),(hT d.2.1.2.2.2.2.2.2.2),d.2.1.2.2.2.2.2.2.2.2.2.2.2.2.1,d.2.1.2.2.2.2.2.2.2.2.2.2.2.2.2.1,d.2.2.1⟩:I.bp),λ d r=>((r,()),((d.2.1.1,d.2.1.2.1,d.2.1.2.2.1,d.2.1.2.2.2.1,d.2.1.2.2.2.2.1,d.2.1.2.2.2.2.2.1,d.2.1.2.2.2.2.2.2.1,d.2.1.2.2.2.2.2.2.2.1,d.2.1.2.2.2.2.2.2.2.2.1,d.2.1.2.2.2.2.2.2.2.2.2.1,d.2.1.2.2.2.2.2.2.2.2.2.2.1,d.2.1.2.2.2.2.2.2.2.2.2.2.2.1,d.2.1.2.2.2.2.2.2.2.2.2.2.2.2.1,d.2.1.2.2.2.2.2.2.2.2.2.2.2.2.2.1,(),()),d.2.2.1,()))⟩ λ da db=>by
 obtain⟨_,_⟩:=da;obtain⟨⟨(v0:List Int),(v1:Int),(e:Int),(v3:Int),(v4:Int),(v5:List Int),(f:Int),(g:List I.al),(h:List Int),(v9:List (List I.Field)),(a:List (List (List UInt8))),(b:List (List I.Target)),(c:List Int),(i:List Int),_,_⟩,(j:List (Int×Bool)),_⟩:=db;conv=>rhs;simp only[Io,a',aaM,aaN]
 kernel_rfl
theorem aH4(F:Nat)(h_:I.aP)(a:I.aN){cp:Type}(f:(Option I.bp)×Int->Option cp):(wi F h_ a).bind f=dd (lc (wi F h_ a)) (λ p=>f (some p.1,p.2)) (λ e=>f (none,e)):=alw _ _
def arI(F:Nat):aS aE:=(arH F).Sx 65 ⟨[kq,iD],[],[⟨⟨[.p (.B 0),lL],[gn,.m 3 4]⟩,I.bp×Int,λ d r=>(((),r.2,()),((r.1.H.wO,r.1.H.ai,r.1.H.az,r.1.H.aI,r.1.H.aD,r.1.H.aJ,r.1.H.Next,r.1.S.K.aV,r.1.S.K.aT,r.1.S.K.Fields,r.1.S.K.Names,r.1.S.K.aU,r.1.ai,r.1.az,(),()),r.1.dO,()))⟩,
 ⟨⟨[.p (.hB),lL],[]⟩,Int,λ d r=>(((),r,()),())⟩],λ d=>lc (wi F (dW d.1.1) (fM d.1.2.1))⟩ λ da db=>by
 conv=>rhs;simp only[wi,a',alx,aly,alz,alA,alB,alC];simp only[HY]
 kernel_rfl
theorem amx(F:Nat)(h_:I.aP)(a:I.aN){cp:Type}(f:(Option I.bp)×Int->Option cp):(mj F h_ a).bind f=dd (lc (mj F h_ a)) (λ p=>f (some p.1,p.2)) (λ e=>f (none,e)):=alw _ _
def arJ(F:Nat):aS aE:=(arI F).Sx 33 ⟨[kq,iD],[],[⟨⟨[.p (.B 0),lL],[gn,.m 3 4]⟩,I.bp×Int,λ d r=>(((),r.2,()),((r.1.H.wO,r.1.H.ai,r.1.H.az,r.1.H.aI,r.1.H.aD,r.1.H.aJ,r.1.H.Next,r.1.S.K.aV,r.1.S.K.aT,r.1.S.K.Fields,r.1.S.K.Names,r.1.S.K.aU,r.1.ai,r.1.az,(),()),r.1.dO,()))⟩,
 ⟨⟨[.p (.hB),lL],[]⟩,Int,λ d r=>(((),r,()),())⟩],λ d=>lc (mj F (dW d.1.1) (fM d.1.2.1))⟩ λ da db=>by
 obtain⟨⟨(v0:List Int),(v1:Int),(c:Int),(v3:Int),(v4:Int),(v5:List Int),(e:Int),_⟩,⟨(f:List I.al),(g:List Int),(v9:List (List I.Field)),(a:List (List (List UInt8))),(b:List (List I.Target)),_⟩,_⟩:=da
 conv=>rhs;simp only[mj,a',alx,aly,alz,alA,alB,alC,aH4];simp only[HY]
 kernel_rfl
def arK(F:Nat):aS aE:=(arJ F).rt 35 ⟨[kq],[],[lL],[],Int,λ d=>aey (dW d.1.1),λ d r=>((r,()),())⟩ λ da db=>by
 conv=>rhs;simp only[aey,a']
 kernel_rfl
def arM(F:Nat):aS aE:=(arK F).rt 19 ⟨[kq,iD],[],[lL,lL],[],Int×Int,λ d=>arp F (dW d.1.1) (fM d.1.2.1),λ d r=>((r.1,r.2,()),())⟩ λ da db=>by
 obtain⟨⟨(v0:List Int),(v1:Int),(c:Int),(v3:Int),(v4:Int),(v5:List Int),(e:Int),_⟩,⟨(f:List I.al),(g:List Int),(v9:List (List I.Field)),(a:List (List (List UInt8))),(b:List (List I.Target)),_⟩,_⟩:=da;conv=>rhs;simp only[arp,a',amx]
 kernel_rfl
def arN(F:Nat):aS aE:=(arM F).rt 47 ⟨[],[],[.p (.l 134)],[],List I.al,λ d=>ae',λ d r=>((r,()),())⟩ λ da db=>by
 conv=>rhs;simp only[ae',a']
 kernel_rfl
def arO(F:Nat):aS aE:=(arN F).rt 48 ⟨[lL,lL],[],[kq,lL],[],I.aP×Int,λ d=>ai0 d.1.1 d.1.2.1,λ d r=>(((r.1.wO,r.1.ai,r.1.az,r.1.aI,r.1.aD,r.1.aJ,r.1.Next,()),r.2,()),())⟩ λ da db=>by
 conv=>rhs;simp only[ai0,a']
 kernel_rfl
def arP(F:Nat):aS aE:=(arO F).rt 57 ⟨[iD,lL,lL],[],[lL],[],Int,λ d=>BC (hT d.1.1) d.1.2.1 d.1.2.2.1,λ d r=>((r,()),())⟩ λ da db=>by
 conv=>rhs;simp only[BC,a']
 kernel_rfl
def arQ(F:Nat):aS aE:=(arP F).rt 36 ⟨[kq],[],[.a [.R 0,lS,lS,lS,lS,.l 3,lS]],[.r 3 false],I.aP,λ d=>nh (dW d.1.1),λ d r=>((((),r.ai,r.az,r.aI,r.aD,r.aJ,r.Next,()),()),(r.wO,()))⟩ λ da db=>by
 obtain⟨⟨(v0:List Int),(v1:Int),(a:Int),(v3:Int),(v4:Int),(v5:List Int),(b:Int),_⟩,_⟩:=da;conv=>rhs;simp only[nh,a',SJ]
 kernel_rfl
def arR(F:Nat):aS aE:=(arQ F).rt 85 ⟨[.p (.B 0),lL,lL,lQ],[alY,.r 3 true],[lL,lQ],[alY,.r 3 true],Int×Bool×I.aP,λ d=>qV (⟨d.2.2.1,d.2.1.2.1,d.2.1.2.2.1,d.2.1.2.2.2.1,d.2.1.2.2.2.2.1,d.2.1.2.2.2.2.2.1,d.2.1.2.2.2.2.2.2.1⟩:I.aP) d.1.2.1 d.1.2.2.1 d.1.2.2.2.1,λ d r=>((r.1,r.2.1,()),(((),d.2.1.2.1,d.2.1.2.2.1,r.2.2.aI,r.2.2.aD,d.2.1.2.2.2.2.2.1,r.2.2.Next,()),r.2.2.wO,()))⟩ λ da db=>by
 conv=>rhs;simp only[qV,a']
 kernel_rfl
def arS(F:Nat):aS aE:=(arR F).rt 49 ⟨[kq,iD,lL,lL,lQ],[],[kq,lL,lL],[],I.aP×Int×Int,λ d=>aiZ F (dW d.1.1) (fM d.1.2.1) d.1.2.2.1 d.1.2.2.2.1 d.1.2.2.2.2.1,λ d r=>(((r.1.wO,r.1.ai,r.1.az,r.1.aI,r.1.aD,r.1.aJ,r.1.Next,()),r.2.1,r.2.2,()),())⟩ λ da db=>by
 obtain⟨⟨(v0:List Int),(v1:Int),(e:Int),(v3:Int),(v4:Int),(v5:List Int),(f:Int),_⟩,⟨(g:List I.al),(h:List Int),(v9:List (List I.Field)),(a:List (List (List UInt8))),(b:List (List I.Target)),_⟩,(c:Int),(i:Int),(j:Bool),_⟩:=da;conv=>rhs;simp only[aiZ,a',amx]
 kernel_rfl
def arT(F:Nat):aS aE:=(arS F).rt 34 ⟨[.p (.B 0),lO],[gn,.m 3 4],[lL],[gn,.m 3 4],Int,λ d=>Hd F (⟨(dW d.2.1),(hT d.2.1.2.2.2.2.2.2.2),d.2.1.2.2.2.2.2.2.2.2.2.2.2.2.1,d.2.1.2.2.2.2.2.2.2.2.2.2.2.2.2.1,d.2.2.1⟩:I.bp) d.1.2.1,λ d r=>((r,()),((d.2.1.1,d.2.1.2.1,d.2.1.2.2.1,d.2.1.2.2.2.1,d.2.1.2.2.2.2.1,d.2.1.2.2.2.2.2.1,d.2.1.2.2.2.2.2.2.1,d.2.1.2.2.2.2.2.2.2.1,d.2.1.2.2.2.2.2.2.2.2.1,d.2.1.2.2.2.2.2.2.2.2.2.1,d.2.1.2.2.2.2.2.2.2.2.2.2.1,d.2.1.2.2.2.2.2.2.2.2.2.2.2.1,d.2.1.2.2.2.2.2.2.2.2.2.2.2.2.1,d.2.1.2.2.2.2.2.2.2.2.2.2.2.2.2.1,(),()),d.2.2.1,()))⟩ λ da db=>by
 conv=>rhs;simp only[Hd,a']
 kernel_rfl
def arU(F:Nat):aS aE:=(arT F).bW 123 0 F ⟨[0,1,5],[.p (.l 136),.p (.l 136),lL],[],
 [⟨⟨.nm,[],[],[]⟩,Unit,λ d r=>((),())⟩,
  ⟨⟨.rt,[4],[lQ],[]⟩,Bool,λ d r=>((r,()),())⟩],
 λ k d=>bb (Ek d.1.1 d.1.2.1 k d.1.2.2.1)⟩ (bM.bV (λ d=>rfl) λ k da db q h=>by
 conv=>rhs;simp only[Ek,a'];simp only[bS]
 kernel_rfl)
def arV(F:Nat):aS aE:=(arU F).rt 123 ⟨[.p (.l 136),.p (.l 136)],[],[lQ],[],Bool,λ d=>HC F d.1.1 d.1.2.1,λ d r=>((r,()),())⟩ λ da db=>by
 conv=>rhs;simp only[HC,a']
 kernel_rfl
def arX(F:Nat):aS aE:=(arV F).bW 148 0 F ⟨[0,1,5],[.p (.l 128),.p (.l 128),lL],[],
 [⟨⟨.nm,[],[],[]⟩,Unit,λ d r=>((),())⟩,
  ⟨⟨.rt,[4],[lQ],[]⟩,Bool,λ d r=>((r,()),())⟩],
 λ k d=>bb (r6 d.1.1 d.1.2.1 k d.1.2.2.1)⟩ (bM.bV (λ d=>rfl) λ k da db q h=>by
 conv=>rhs;simp only[r6,a'];simp only[bS]
 kernel_rfl)
def arY(F:Nat):aS aE:=(arX F).rt 148 ⟨[.p (.l 128),.p (.l 128)],[],[lQ],[],Bool,λ d=>xX F d.1.1 d.1.2.1,λ d r=>((r,()),())⟩ λ da db=>by
 conv=>rhs;simp only[xX,a']
 kernel_rfl
def arZ(F:Nat):aS aE:=(arY F).bW 122 4 F ⟨[0,1,5,6,7,8,9,10,11],[.p (.l 134),.p (.l 134),lL,.p (.B 0),.p (.B 1),lL,.p (.B 2),.p (.B 3),lL],[jp,jp,oo,oo],
 [⟨⟨.nm,[0,1,5,6,7,8],[.p (.l 134),.p (.l 134),lL,.p (.B 0),.p (.B 1),lL],[jp,jp,oo,oo]⟩,Unit,λ d r=>((d.1.1,d.1.2.1,d.1.2.2.1,(),(),d.1.2.2.2.2.2.1,()),(d.2.1,d.2.2.1,d.2.2.2.1,d.2.2.2.2.1,()))⟩,
  ⟨⟨.rt,[4],[lQ],[.d,.d,.d,.d]⟩,Bool,λ d r=>((r,()),((),(),(),(),()))⟩],
 λ k d=>bb (Ej (w8 d.2.2.2.1) (w8 d.2.2.2.2.1) k d.1.2.2.2.2.2.2.2.2.1)⟩ (bM.bV (λ d=>rfl) λ k da db q h=>by
 conv=>rhs;simp only[Ej,a'];simp only[bS]
 kernel_rfl)
def ar0(F:Nat):aS aE:=(arZ F).bW 122 2 F ⟨[0,1,5,6,7,8],[.p (.l 134),.p (.l 134),lL,.p (.B 0),.p (.B 1),lL],[jp,jp],
 [⟨⟨.nm,[0,1,5],[.p (.l 134),.p (.l 134),lL],[jp,jp]⟩,Unit,λ d r=>((d.1.1,d.1.2.1,d.1.2.2.1,()),(d.2.1,d.2.2.1,()))⟩,
  ⟨⟨.rt,[4],[lQ],[.d,.d]⟩,Bool,λ d r=>((r,()),((),(),()))⟩],
 λ k d=>bb (Ei F (JI d.2.1) (JI d.2.2.1) k d.1.2.2.2.2.2.1)⟩ (bM.bV (λ d=>rfl) λ k da db q h=>by
 obtain⟨(v0:List I.al),(v1:List I.al),(c:Int),_,_,(v3:Int),_⟩:=da
 obtain⟨⟨(v4:List UInt8),(v5:List UInt8),(e:List I.Field),(f:List I.Method),_⟩,⟨(g:List UInt8),(v9:List UInt8),(a:List I.Field),(b:List I.Method),_⟩,_⟩:=db
 conv=>rhs;simp only[Ei,a',Z3,<-Bool.or_assoc];simp only[bS]
 kernel_rfl)
def ar1(F:Nat):aS aE:=(ar0 F).bW 122 0 F ⟨[0,1,5],[.p (.l 134),.p (.l 134),lL],[],
 [⟨⟨.nm,[],[],[]⟩,Unit,λ d r=>((),())⟩,
  ⟨⟨.rt,[4],[lQ],[]⟩,Bool,λ d r=>((r,()),())⟩],
 λ k d=>bb (Eh F d.1.1 d.1.2.1 k d.1.2.2.1)⟩ (bM.bV (λ d=>rfl) λ k da db q h=>by
 conv=>rhs;simp only[Eh,a'];simp only[bS]
 kernel_rfl)
def ar2(F:Nat):aS aE:=(ar1 F).rt 122 ⟨[.p (.l 134),.p (.l 134)],[],[lQ],[],Bool,λ d=>HB F d.1.1 d.1.2.1,λ d r=>((r,()),())⟩ λ da db=>by
 conv=>rhs;simp only[HB,a']
 kernel_rfl
def Wz(k:Nat)(a:I.aN)(b:I.aN)(c:Int)(b8:Int):=dv ((a.aT.length:Int)=b8/\True) (bb (AQ a b k c))
theorem aaJ(k:Nat)(a:I.aN)(b:I.aN)(c:Int):bb (AQ a b k c)=Wz k a b c (a.aT.length:Int):=(dJ ⟨rfl,trivial⟩).symm
def ar3(F:Nat):aS aE:=(ar2 F).bW 87 0 F ⟨[2,3,5,6],[.p (.B 0),.p (.B 1),lL,lL],[dV,dV],
 [⟨⟨.nm,[2,3],[.p (.B 0),.p (.B 1)],[dV,dV]⟩,Unit,λ d r=>(((),(),()),(d.2.1,d.2.2.1,()))⟩,
  ⟨⟨.rt,[4],[lQ],[.d,.d]⟩,Bool,λ d r=>((r,()),((),(),()))⟩],
 λ k d=>Wz k (fM d.2.1) (fM d.2.2.1) d.1.2.2.2.1 d.1.2.2.1⟩ (bM.bV (λ d=>dI) λ k da db q h=>by
 obtain⟨_,_,(v0:Int),(v1:Int),_⟩:=da
 obtain⟨⟨(c:List I.al),(v3:List Int),(v4:List (List I.Field)),(v5:List (List (List UInt8))),(e:List (List I.Target)),_⟩,⟨(f:List I.al),(g:List Int),(v9:List (List I.Field)),(a:List (List (List UInt8))),(b:List (List I.Target)),_⟩,_⟩:=db
 obtain⟨i,_⟩:=ej h
 dsimp only at i
 obtain⟨rfl,_⟩:=i
 conv=>rhs;change dL (α:=Unit⊕Bool) _ (Wz (k+1) (⟨c,v3,v4,v5,e⟩:I.aN) (⟨f,g,v9,a,b⟩:I.aN) v1 (v3.length:Int));rw[<-aaJ (k+1) (⟨c,v3,v4,v5,e⟩:I.aN) (⟨f,g,v9,a,b⟩:I.aN) v1];simp only[AQ,a',aaJ];simp only[bS]
 kernel_rfl)
def ar4(F:Nat):aS aE:=(ar3 F).bW 87 2 F ⟨[2,3,7],[.p (.B 0),.p (.B 1),lL],[dV,dV],
 [⟨⟨.nm,[2,3],[.p (.B 0),.p (.B 1)],[dV,dV]⟩,Unit,λ d r=>(((),(),()),(d.2.1,d.2.2.1,()))⟩,
  ⟨⟨.rt,[4],[lQ],[.d,.d]⟩,Bool,λ d r=>((r,()),((),(),()))⟩],
 λ k d=>bb (En F (fM d.2.1) (fM d.2.2.1) k d.1.2.2.1)⟩ (bM.bV (λ d=>rfl) λ k da db q h=>by
 conv=>rhs;simp only[En,a'];simp only[bS]
 kernel_rfl)
def ar5(F:Nat):aS aE:=(ar4 F).bW 87 6 F ⟨[2,3,8,9],[.p (.B 0),.p (.B 1),lL,lL],[dV,dV],
 [⟨⟨.nm,[2,3,8],[.p (.B 0),.p (.B 1),lL],[dV,dV]⟩,Unit,λ d r=>(((),(),d.1.2.2.1,()),(d.2.1,d.2.2.1,()))⟩,
  ⟨⟨.rt,[4],[lQ],[.d,.d]⟩,Bool,λ d r=>((r,()),((),(),()))⟩],
 λ k d=>bb (Ep (fM d.2.1) (fM d.2.2.1) d.1.2.2.1 k d.1.2.2.2.1)⟩ (bM.bV (λ d=>rfl) λ k da db q h=>by
 conv=>rhs;simp only[Ep,a'];simp only[bS]
 kernel_rfl)
def ar6(F:Nat):aS aE:=(ar5 F).bW 87 4 F ⟨[2,3,8],[.p (.B 0),.p (.B 1),lL],[dV,dV],
 [⟨⟨.nm,[2,3],[.p (.B 0),.p (.B 1)],[dV,dV]⟩,Unit,λ d r=>(((),(),()),(d.2.1,d.2.2.1,()))⟩,
  ⟨⟨.rt,[4],[lQ],[.d,.d]⟩,Bool,λ d r=>((r,()),((),(),()))⟩],
 λ k d=>bb (Eo F (fM d.2.1) (fM d.2.2.1) k d.1.2.2.1)⟩ (bM.bV (λ d=>rfl) λ k da db q h=>by
 conv=>rhs;simp only[Eo,a'];simp only[bS]
 kernel_rfl)
def ar8(F:Nat):aS aE:=(ar6 F).bW 87 10 F ⟨[2,3,10,11],[.p (.B 0),.p (.B 1),lL,lL],[dV,dV],
 [⟨⟨.nm,[2,3,10],[.p (.B 0),.p (.B 1),lL],[dV,dV]⟩,Unit,λ d r=>(((),(),d.1.2.2.1,()),(d.2.1,d.2.2.1,()))⟩,
  ⟨⟨.rt,[4],[lQ],[.d,.d]⟩,Bool,λ d r=>((r,()),((),(),()))⟩],
 λ k d=>bb (Es (fM d.2.1) (fM d.2.2.1) d.1.2.2.1 k d.1.2.2.2.1)⟩ (bM.bV (λ d=>rfl) λ k da db q h=>by
 conv=>rhs;simp only[Es,a'];simp only[bS]
 kernel_rfl)
def ar9(F:Nat):aS aE:=(ar8 F).bW 87 8 F ⟨[2,3,10],[.p (.B 0),.p (.B 1),lL],[dV,dV],
 [⟨⟨.nm,[],[],[dV,dV]⟩,Unit,λ d r=>((),(d.2.1,d.2.2.1,()))⟩,
  ⟨⟨.rt,[4],[lQ],[.d,.d]⟩,Bool,λ d r=>((r,()),((),(),()))⟩],
 λ k d=>bb (Er F (fM d.2.1) (fM d.2.2.1) k d.1.2.2.1)⟩ (bM.bV (λ d=>rfl) λ k da db q h=>by
 conv=>rhs;simp only[Er,a'];simp only[bS]
 kernel_rfl)
def ar_(F:Nat):aS aE:=(ar9 F).rt 87 ⟨[iD,iD],[],[lQ],[],Bool,λ d=>HD F (fM d.1.1) (fM d.1.2.1),λ d r=>((r,()),())⟩ λ da db=>by
 obtain⟨⟨(v0:List I.al),(v1:List Int),(a:List (List I.Field)),(v3:List (List (List UInt8))),(v4:List (List I.Target)),_⟩,⟨(v5:List I.al),(b:List Int),(c:List (List I.Field)),(e:List (List (List UInt8))),(v9:List (List I.Target)),_⟩,_⟩:=da;conv=>rhs;simp only[HD,a',aaJ]
 kernel_rfl
def ar'(F:Nat):aS aE:=(ar_ F).bW 164 0 F ⟨[0,3],[.p (.s),lL],[],
 [⟨⟨.nm,[0],[.p (.s)],[]⟩,Unit,λ d r=>((d.1.1,()),())⟩,
  ⟨⟨.rt,[2],[lQ],[]⟩,Bool,λ d r=>((r,()),())⟩],
 λ k d=>bb (vJ d.1.1 k d.1.2.1)⟩ (bM.bV (λ d=>rfl) λ k da db q h=>by
 conv=>rhs;simp only[vJ,a'];simp only[bS]
 kernel_rfl)
def asa(F:Nat):aS aE:=(ar' F).rt 164 ⟨[.p (.s)],[],[lQ],[],Bool,λ d=>qI F d.1.1,λ d r=>((r,()),())⟩ λ da db=>by
 conv=>rhs;simp only[qI,a']
 kernel_rfl
def asb(F:Nat):aS aE:=(asa F).rt 165 ⟨[.a [lS,.s]],[],[lQ],[],Bool,λ d=>xV F (NP d.1.1),λ d r=>((r,()),())⟩ λ da db=>by
 conv=>rhs;simp only[xV,a']
 kernel_rfl
def asc(F:Nat):aS aE:=(asb F).rt 42 ⟨[lL,lL,lL],[],[lQ],[],Bool,λ d=>gL d.1.1 d.1.2.1 d.1.2.2.1,λ d r=>((r,()),())⟩ λ da db=>by
 conv=>rhs;simp only[gL,a']
 kernel_rfl
def asd(F:Nat):aS aE:=(asc F).bW 166 0 F ⟨[1,3],[.p (.B 0),lL],[oo],
 [⟨⟨.nm,[1],[.p (.B 0)],[oo]⟩,Unit,λ d r=>(((),()),(d.2.1,()))⟩,
  ⟨⟨.rt,[2],[lL],[.d]⟩,Int,λ d r=>((r,()),((),()))⟩],
 λ k d=>bb (DZ F (w8 d.2.1) k d.1.2.1)⟩ (bM.bV (λ d=>rfl) λ k da db q h=>by
 conv=>rhs;simp only[DZ,a'];simp only[bS]
 kernel_rfl)
def ase(F:Nat):aS aE:=(asd F).bW 166 2 F ⟨[1,4],[.p (.B 0),lL],[oo],
 [⟨⟨.nm,[],[],[oo]⟩,Unit,λ d r=>((),(d.2.1,()))⟩,
  ⟨⟨.rt,[2],[lL],[.d]⟩,Int,λ d r=>((r,()),((),()))⟩],
 λ k d=>bb (D0 F (w8 d.2.1) k d.1.2.1)⟩ (bM.bV (λ d=>rfl) λ k da db q h=>by
 conv=>rhs;simp only[D0,a'];simp only[bS]
 kernel_rfl)
def asf(F:Nat):aS aE:=(ase F).rt 166 ⟨[RU],[],[lL],[],Int,λ d=>DY F (w8 d.1.1),λ d r=>((r,()),())⟩ λ da db=>by
 conv=>rhs;simp only[DY,a']
 kernel_rfl
theorem aH2(F:Nat)(k:Nat)(a:I.al)(b:Int):bb (Hx F a k b)=bb (AF F a k b):=by kernel_rfl
def ash(F:Nat):aS aE:=(asf F).bW 145 2 F ⟨[0,3,4,5],[.p (.l 134),lL,.p (.B 0),lL],[jp],
 [⟨⟨.nm,[0,3,4],[.p (.l 134),lL,.p (.B 0)],[jp]⟩,Unit,λ d r=>((d.1.1,d.1.2.1,(),()),(d.2.1,()))⟩,
  ⟨⟨.rt,[2],[lL],[.d]⟩,Int,λ d r=>((r,()),((),()))⟩],
 λ k d=>bb (AF F (JI d.2.1) k d.1.2.2.2.1)⟩ (bM.bV (λ d=>rfl) λ k da db q h=>by
 conv=>rhs;simp only[AF,a'];simp only[bS]
 kernel_rfl)
theorem aH3(F:Nat)(k:Nat)(a:I.al)(b:Int):bb (Hy F a k b)=bb (AG F a k b):=by kernel_rfl
def asi(F:Nat):aS aE:=(ash F).bW 145 4 F ⟨[0,3,4,6],[.p (.l 134),lL,.p (.B 0),lL],[jp],
 [⟨⟨.nm,[0,3],[.p (.l 134),lL],[jp]⟩,Unit,λ d r=>((d.1.1,d.1.2.1,()),(d.2.1,()))⟩,
  ⟨⟨.rt,[2],[lL],[.d]⟩,Int,λ d r=>((r,()),((),()))⟩],
 λ k d=>bb (AG F (JI d.2.1) k d.1.2.2.2.1)⟩ (bM.bV (λ d=>rfl) λ k da db q h=>by
 conv=>rhs;simp only[AG,a'];simp only[bS]
 kernel_rfl)
def asj(F:Nat):aS aE:=(asi F).bW 145 0 F ⟨[0,3],[.p (.l 134),lL],[],
 [⟨⟨.nm,[],[],[]⟩,Unit,λ d r=>((),())⟩,
  ⟨⟨.rt,[2],[lL],[]⟩,Int,λ d r=>((r,()),())⟩],
 λ k d=>bb (DJ F d.1.1 k d.1.2.1)⟩ (bM.bV (λ d=>rfl) λ k da db q h=>by
 obtain⟨(v0:List I.al),(v1:Int),_⟩:=da
 conv=>rhs;simp only[DJ,a',aH2,aH3];simp only[bS]
 kernel_rfl)
def asl(F:Nat):aS aE:=(asj F).rt 145 ⟨[.p (.l 134)],[],[lL],[],Int,λ d=>Kw F d.1.1,λ d r=>((r,()),())⟩ λ da db=>by
 conv=>rhs;simp only[Kw,a']
 kernel_rfl
def asm(F:Nat):aS aE:=(asl F).bW 121 0 F ⟨[0,1,5],[.p (.l 134),.p (.s),lL],[],
 [⟨⟨.nm,[],[],[]⟩,Unit,λ d r=>((),())⟩,
  ⟨⟨.rt,[4],[lL],[]⟩,Int,λ d r=>((r,()),())⟩],
 λ k d=>bb (D1 d.1.1 d.1.2.1 k d.1.2.2.1)⟩ (bM.bV (λ d=>rfl) λ k da db q h=>by
 conv=>rhs;simp only[D1,a'];simp only[bS]
 kernel_rfl)
def asn(F:Nat):aS aE:=(asm F).rt 121 ⟨[.p (.l 134),.p (.s)],[],[lL],[],Int,λ d=>qH F d.1.1 d.1.2.1,λ d r=>((r,()),())⟩ λ da db=>by
 conv=>rhs;simp only[qH,a']
 kernel_rfl
def aso(F:Nat):aS aE:=(asn F).bW 146 0 F ⟨[0,1,5],[.p (.l 134),lL,lO],[],
 [⟨⟨.nm,[5],[lO],[]⟩,List Int,λ d r=>((r,()),())⟩,
  ⟨⟨.rt,[4],[lO],[]⟩,List Int,λ d r=>((r,()),())⟩],
 λ k d=>bb (Ex F d.1.1 k d.1.2.1 d.1.2.2.1)⟩ (bM.bV (λ d=>rfl) λ k da db q h=>by
 conv=>rhs;simp only[Ex,a'];simp only[bS]
 kernel_rfl)
def asp(F:Nat):aS aE:=(aso F).rt 146 ⟨[.p (.l 134),lL],[],[lO],[],List Int,λ d=>AV F d.1.1 d.1.2.1,λ d r=>((r,()),())⟩ λ da db=>by
 conv=>rhs;simp only[AV,a']
 kernel_rfl
def asq(F:Nat):aS aE:=(asp F).bW 119 0 F ⟨[0,5,6,7],[.p (.l 134),.p (.R 0),lO,lL],[.r 136 false],
 [⟨⟨.nm,[5],[.p (.R 0)],[.r 136 false]⟩,List I.Field,λ d r=>(((),()),(r,()))⟩],
 λ k d=>vF d.1.1 d.1.2.2.1 k d.2.1 d.1.2.2.2.1⟩ (bM.bV (λ d=>rfl) λ k da db q h=>by
 conv=>rhs;simp only[vF,a'];simp only[bS]
 kernel_rfl)
def asr(F:Nat):aS aE:=(asq F).rt 119 ⟨[.p (.l 134),lL],[],[.p (.l 136)],[],List I.Field,λ d=>DI F d.1.1 d.1.2.1,λ d r=>((r,()),())⟩ λ da db=>by
 conv=>rhs;simp only[DI,a']
 kernel_rfl
def ast(F:Nat):aS aE:=(asr F).bW 147 0 F ⟨[0,1,5],[.p (.l 134),.p (.l 128),lL],[],
 [⟨⟨.nm,[],[],[]⟩,Unit,λ d r=>((),())⟩,
  ⟨⟨.rt,[4],[lQ],[]⟩,Bool,λ d r=>((r,()),())⟩],
 λ k d=>bb (AU F d.1.2.1 d.1.1 k d.1.2.2.1)⟩ (bM.bV (λ d=>rfl) λ k da db q h=>by
 conv=>rhs;simp only[AU,a'];simp only[bS]
 kernel_rfl)
def asu(F:Nat):aS aE:=(ast F).rt 147 ⟨[.p (.l 134),.p (.l 128)],[],[lQ],[],Bool,λ d=>Ew F d.1.1 d.1.2.1,λ d r=>((r,()),())⟩ λ da db=>by
 conv=>rhs;simp only[Ew,a']
 kernel_rfl
def asv(F:Nat):aS aE:=(asu F).bW 118 0 F ⟨[0,4],[.p (.l 134),lL],[],
 [⟨⟨.nm,[0],[.p (.l 134)],[]⟩,Unit,λ d r=>((d.1.1,()),())⟩,
  ⟨⟨.rt,[2],[lL],[]⟩,Int,λ d r=>((r,()),())⟩],
 λ k d=>bb (xR F d.1.1 k d.1.2.1)⟩ (bM.bV (λ d=>rfl) λ k da db q h=>by
 conv=>rhs;simp only[xR,a'];simp only[bS]
 kernel_rfl)
def asw(F:Nat):aS aE:=(asv F).bW 118 2 F ⟨[0,5],[.p (.l 134),lL],[],
 [⟨⟨.nm,[0],[.p (.l 134)],[]⟩,Unit,λ d r=>((d.1.1,()),())⟩,
  ⟨⟨.rt,[2],[lL],[]⟩,Int,λ d r=>((r,()),())⟩],
 λ k d=>bb (DS d.1.1 k d.1.2.1)⟩ (bM.bV (λ d=>rfl) λ k da db q h=>by
 conv=>rhs;simp only[DS,a'];simp only[bS]
 kernel_rfl)
def asx(F:Nat):aS aE:=(asw F).bW 118 4 F ⟨[0,6],[.p (.l 134),lL],[],
 [⟨⟨.nm,[0],[.p (.l 134)],[]⟩,Unit,λ d r=>((d.1.1,()),())⟩,
  ⟨⟨.rt,[2],[lL],[]⟩,Int,λ d r=>((r,()),())⟩],
 λ k d=>bb (AK F d.1.1 k d.1.2.1)⟩ (bM.bV (λ d=>rfl) λ k da db q h=>by
 conv=>rhs;simp only[AK,a'];simp only[bS]
 kernel_rfl)
def asy(F:Nat):aS aE:=(asx F).bW 118 6 F ⟨[0,7],[.p (.l 134),lL],[],
 [⟨⟨.nm,[0],[.p (.l 134)],[]⟩,Unit,λ d r=>((d.1.1,()),())⟩,
  ⟨⟨.rt,[2],[lL],[]⟩,Int,λ d r=>((r,()),())⟩],
 λ k d=>bb (DT F d.1.1 k d.1.2.1)⟩ (bM.bV (λ d=>rfl) λ k da db q h=>by
 conv=>rhs;simp only[DT,a'];simp only[bS]
 kernel_rfl)
def asz(F:Nat):aS aE:=(asy F).bW 118 10 F ⟨[0,10,11],[.p (.l 134),lL,lL],[],
 [⟨⟨.nm,[0,10],[.p (.l 134),lL],[]⟩,Unit,λ d r=>((d.1.1,d.1.2.1,()),())⟩,
  ⟨⟨.rt,[2],[lL],[]⟩,Int,λ d r=>((r,()),())⟩],
 λ k d=>bb (DU F d.1.1 d.1.2.1 k d.1.2.2.1)⟩ (bM.bV (λ d=>rfl) λ k da db q h=>by
 conv=>rhs;simp only[DU,a'];simp only[bS]
 kernel_rfl)
def asA(F:Nat):aS aE:=(asz F).bW 118 14 F ⟨[0,10,12,13,14],[.p (.l 134),lL,lL,.p (.B 0),lL],[oo],
 [⟨⟨.nm,[0,10,12],[.p (.l 134),lL,lL],[oo]⟩,Unit,λ d r=>((d.1.1,d.1.2.1,d.1.2.2.1,()),(d.2.1,()))⟩,
  ⟨⟨.rt,[2],[lL],[.d]⟩,Int,λ d r=>((r,()),((),()))⟩],
 λ k d=>bb (DW F d.1.1 (w8 d.2.1) k d.1.2.2.2.2.1)⟩ (bM.bV (λ d=>rfl) λ k da db q h=>by
 conv=>rhs;simp only[DW,a'];simp only[bS]
 kernel_rfl)
def asB(F:Nat):aS aE:=(asA F).bW 118 12 F ⟨[0,10,12],[.p (.l 134),lL,lL],[],
 [⟨⟨.nm,[0,10],[.p (.l 134),lL],[]⟩,Unit,λ d r=>((d.1.1,d.1.2.1,()),())⟩,
  ⟨⟨.rt,[2],[lL],[]⟩,Int,λ d r=>((r,()),())⟩],
 λ k d=>bb (DV F d.1.1 d.1.2.1 k d.1.2.2.1)⟩ (bM.bV (λ d=>rfl) λ k da db q h=>by
 conv=>rhs;simp only[DV,a'];simp only[bS]
 kernel_rfl)
def asC(F:Nat):aS aE:=(asB F).bW 118 8 F ⟨[0,10],[.p (.l 134),lL],[],
 [⟨⟨.nm,[0],[.p (.l 134)],[]⟩,Unit,λ d r=>((d.1.1,()),())⟩,
  ⟨⟨.rt,[2],[lL],[]⟩,Int,λ d r=>((r,()),())⟩],
 λ k d=>bb (AL F d.1.1 k d.1.2.1)⟩ (bM.bV (λ d=>rfl) λ k da db q h=>by
 conv=>rhs;simp only[AL,a'];simp only[bS]
 kernel_rfl)
def asE(F:Nat):aS aE:=(asC F).bW 118 20 F ⟨[0,15,16,17,18],[.p (.l 134),lL,.p (.l 136),lL,lL],[],
 [⟨⟨.nm,[0,15,16,17],[.p (.l 134),lL,.p (.l 136),lL],[]⟩,Unit,λ d r=>((d.1.1,d.1.2.1,d.1.2.2.1,d.1.2.2.2.1,()),())⟩,
  ⟨⟨.rt,[2],[lL],[]⟩,Int,λ d r=>((r,()),())⟩],
 λ k d=>bb (DO d.1.2.2.1 d.1.2.2.2.1 k d.1.2.2.2.2.1)⟩ (bM.bV (λ d=>rfl) λ k da db q h=>by
 conv=>rhs;simp only[DO,a'];simp only[bS]
 kernel_rfl)
def asF(F:Nat):aS aE:=(asE F).bW 118 18 F ⟨[0,15,16,17],[.p (.l 134),lL,.p (.l 136),lL],[],
 [⟨⟨.nm,[0,15],[.p (.l 134),lL],[]⟩,Unit,λ d r=>((d.1.1,d.1.2.1,()),())⟩,
  ⟨⟨.rt,[2],[lL],[]⟩,Int,λ d r=>((r,()),())⟩],
 λ k d=>bb (DN F d.1.2.2.1 k d.1.2.2.2.1)⟩ (bM.bV (λ d=>rfl) λ k da db q h=>by
 conv=>rhs;simp only[DN,a'];simp only[bS]
 kernel_rfl)
def Ww(k:Nat)(a:I.al)(b:Int)(c:Int):=dv (True) (bb (vI a b k c))
theorem aaG(k:Nat)(a:I.al)(b:Int)(c:Int):bb (vI a b k c)=Ww k (⟨[],[],[],a.bn⟩:I.al) b c:=(show bb (vI a b k c)=bb (vI (⟨[],[],[],a.bn⟩:I.al) b k c) by kernel_rfl).trans (dJ trivial).symm
def asG(F:Nat):aS aE:=(asF F).bW 118 24 F ⟨[0,15,19,20,21],[.p (.l 134),lL,.p (.l 131),lL,lL],[],
 [⟨⟨.nm,[0,15,19,20],[.p (.l 134),lL,.p (.l 131),lL],[]⟩,Unit,λ d r=>((d.1.1,d.1.2.1,d.1.2.2.1,d.1.2.2.2.1,()),())⟩,
  ⟨⟨.rt,[2],[lL],[]⟩,Int,λ d r=>((r,()),())⟩],
 λ k d=>Ww k (⟨[],[],[],d.1.2.2.1⟩:I.al) d.1.2.2.2.1 d.1.2.2.2.2.1⟩ (bM.bV (λ d=>dI) λ k da db q h=>by
 obtain⟨(v0:List I.al),(v1:Int),(a:List I.Method),(v3:Int),(v4:Int),_⟩:=da
 conv=>rhs;change dL (α:=Unit⊕Int) _ (Ww (k+1) (⟨[],[],[],a⟩:I.al) v3 v4);rw[<-aaG (k+1) (⟨[],[],[],a⟩:I.al) v3 v4];simp only[vI,a',aaG];simp only[bS]
 kernel_rfl)
def Wv(F:Nat)(k:Nat)(a:I.al)(b:Int):=dv (True) (bb (vH F a k b))
theorem aaF(F:Nat)(k:Nat)(a:I.al)(b:Int):bb (vH F a k b)=Wv F k (⟨[],[],[],a.bn⟩:I.al) b:=(show bb (vH F a k b)=bb (vH F (⟨[],[],[],a.bn⟩:I.al) k b) by kernel_rfl).trans (dJ trivial).symm
def asH(F:Nat):aS aE:=(asG F).bW 118 22 F ⟨[0,15,19,20],[.p (.l 134),lL,.p (.l 131),lL],[],
 [⟨⟨.nm,[0,15],[.p (.l 134),lL],[]⟩,Unit,λ d r=>((d.1.1,d.1.2.1,()),())⟩,
  ⟨⟨.rt,[2],[lL],[]⟩,Int,λ d r=>((r,()),())⟩],
 λ k d=>Wv F k (⟨[],[],[],d.1.2.2.1⟩:I.al) d.1.2.2.2.1⟩ (bM.bV (λ d=>dI) λ k da db q h=>by
 obtain⟨(v0:List I.al),(v1:Int),(a:List I.Method),(v3:Int),_⟩:=da
 conv=>rhs;change dL (α:=Unit⊕Int) _ (Wv F (k+1) (⟨[],[],[],a⟩:I.al) v3);rw[<-aaF F (k+1) (⟨[],[],[],a⟩:I.al) v3];simp only[vH,a',aaG,aaF];simp only[bS]
 kernel_rfl)
def asI(F:Nat):aS aE:=(asH F).bW 118 16 F ⟨[0,15],[.p (.l 134),lL],[],
 [⟨⟨.nm,[0],[.p (.l 134)],[]⟩,Unit,λ d r=>((d.1.1,()),())⟩,
  ⟨⟨.rt,[2],[lL],[]⟩,Int,λ d r=>((r,()),())⟩],
 λ k d=>bb (DX F d.1.1 k d.1.2.1)⟩ (bM.bV (λ d=>rfl) λ k da db q h=>by
 obtain⟨(v0:List I.al),(v1:Int),_⟩:=da
 conv=>rhs;simp only[DX,a',aaF];simp only[bS]
 kernel_rfl)
def asJ(F:Nat):aS aE:=(asI F).bW 118 32 F ⟨[0,22,23,24,25,26],[.p (.l 134),lL,lO,lL,lL,lL],[],
 [⟨⟨.nm,[0,22,23,24,25],[.p (.l 134),lL,lO,lL,lL],[]⟩,Unit,λ d r=>((d.1.1,d.1.2.1,d.1.2.2.1,d.1.2.2.2.1,d.1.2.2.2.2.1,()),())⟩,
  ⟨⟨.rt,[2],[lL],[]⟩,Int,λ d r=>((r,()),())⟩],
 λ k d=>bb (AJ F d.1.1 d.1.2.1 d.1.2.2.1 d.1.2.2.2.1 d.1.2.2.2.2.1 k d.1.2.2.2.2.2.1)⟩ (bM.bV (λ d=>rfl) λ k da db q h=>by
 obtain⟨(v0:List I.al),(v1:Int),(a:List Int),(v3:Int),(v4:Int),(v5:Int),_⟩:=da
 conv=>rhs;simp only[AJ,a',Z3];simp only[bS]
 kernel_rfl)
def asK(F:Nat):aS aE:=(asJ F).bW 118 30 F ⟨[0,22,23,24,25],[.p (.l 134),lL,lO,lL,lL],[],
 [⟨⟨.nm,[0,22,23,24],[.p (.l 134),lL,lO,lL],[]⟩,Unit,λ d r=>((d.1.1,d.1.2.1,d.1.2.2.1,d.1.2.2.2.1,()),())⟩,
  ⟨⟨.rt,[2],[lL],[]⟩,Int,λ d r=>((r,()),())⟩],
 λ k d=>bb (DR F d.1.1 d.1.2.1 d.1.2.2.1 d.1.2.2.2.1 k d.1.2.2.2.2.1)⟩ (bM.bV (λ d=>rfl) λ k da db q h=>by
 conv=>rhs;simp only[DR,a'];simp only[bS]
 kernel_rfl)
def asL(F:Nat):aS aE:=(asK F).bW 118 28 F ⟨[0,22,23,24],[.p (.l 134),lL,lO,lL],[],
 [⟨⟨.nm,[0,22],[.p (.l 134),lL],[]⟩,Unit,λ d r=>((d.1.1,d.1.2.1,()),())⟩,
  ⟨⟨.rt,[2],[lL],[]⟩,Int,λ d r=>((r,()),())⟩],
 λ k d=>bb (DQ F d.1.1 d.1.2.1 d.1.2.2.1 k d.1.2.2.2.1)⟩ (bM.bV (λ d=>rfl) λ k da db q h=>by
 conv=>rhs;simp only[DQ,a'];simp only[bS]
 kernel_rfl)
def asM(F:Nat):aS aE:=(asL F).bW 118 26 F ⟨[0,22],[.p (.l 134),lL],[],
 [⟨⟨.nm,[],[],[]⟩,Unit,λ d r=>((),())⟩,
  ⟨⟨.rt,[2],[lL],[]⟩,Int,λ d r=>((r,()),())⟩],
 λ k d=>bb (DP F d.1.1 k d.1.2.1)⟩ (bM.bV (λ d=>rfl) λ k da db q h=>by
 conv=>rhs;simp only[DP,a'];simp only[bS]
 kernel_rfl)
def asN(F:Nat):aS aE:=(asM F).rt 118 ⟨[.p (.l 134)],[],[lL],[],Int,λ d=>Kx F d.1.1,λ d r=>((r,()),())⟩ λ da db=>by
 conv=>rhs;simp only[Kx,a']
 kernel_rfl
def WA(k:Nat)(a:List (List UInt8))(b:I.Method)(c:Int):=dv (True) (tB a b k c)
theorem aaK(k:Nat)(a:List (List UInt8))(b:I.Method)(c:Int):tB a b k c=WA k a (⟨b.Name,false,[],(⟨0,[]⟩:I.Kind),0,0,[],[]⟩:I.Method) c:=(show tB a b k c=tB a (⟨b.Name,false,[],(⟨0,[]⟩:I.Kind),0,0,[],[]⟩:I.Method) k c by kernel_rfl).trans (dJ trivial).symm
def asP(F:Nat):aS aE:=(asN F).bW 120 4 F ⟨[0,6,7,8,9,10,11,12],[.p (.l 134),.p (.R 0),.p (.R 1),lO,lL,lL,.p (.s),lL],[.r 9 false,.r 166 false],
 [⟨⟨.nm,[0,6,7,8,9,10,11,12],[.p (.l 134),.p (.R 0),.p (.R 1),lO,lL,lL,.p (.s),lL],[.r 9 false,.r 166 false]⟩,Int,λ d r=>((d.1.1,(),(),d.1.2.2.2.1,d.1.2.2.2.2.1,d.1.2.2.2.2.2.1,d.1.2.2.2.2.2.2.1,r,()),(d.2.1,d.2.2.1,()))⟩],
 λ k d=>WA k d.2.1 (⟨d.1.2.2.2.2.2.2.1,false,[],(⟨0,[]⟩:I.Kind),0,0,[],[]⟩:I.Method) d.1.2.2.2.2.2.2.2.1⟩ (bM.bV (λ d=>dI) λ k da db q h=>by
 obtain⟨(v0:List I.al),_,_,(v1:List Int),(b:Int),(v3:Int),(v4:List UInt8),(v5:Int),_⟩:=da
 obtain⟨(a:List (List UInt8)),(c:List I.Target),_⟩:=db
 conv=>rhs;change dL (α:=Int) _ (WA (k+1) a (⟨v4,false,[],(⟨0,[]⟩:I.Kind),0,0,[],[]⟩:I.Method) v5);rw[<-aaK (k+1) a (⟨v4,false,[],(⟨0,[]⟩:I.Kind),0,0,[],[]⟩:I.Method) v5];simp only[tB,a',aaK];simp only[bS]
 kernel_rfl)
def asQ(F:Nat):aS aE:=(asP F).bW 120 2 F ⟨[0,6,7,8,9,10],[.p (.l 134),.p (.R 0),.p (.R 1),lO,lL,lL],[.r 9 false,.r 166 false],
 [⟨⟨.nm,[0,6,7,8,9],[.p (.l 134),.p (.R 0),.p (.R 1),lO,lL],[.r 9 false,.r 166 false]⟩,(List I.Target)×(List (List UInt8)),λ d r=>((d.1.1,(),(),d.1.2.2.2.1,d.1.2.2.2.2.1,()),(r.2,r.1,()))⟩],
 λ k d=>Ev F d.1.1 d.1.2.2.2.1 d.1.2.2.2.2.1 k d.2.2.1 d.2.1 d.1.2.2.2.2.2.1⟩ (bM.bV (λ d=>rfl) λ k da db q h=>by
 obtain⟨(v0:List I.al),_,_,(v1:List Int),(a:Int),(v3:Int),_⟩:=da
 obtain⟨(v4:List (List UInt8)),(v5:List I.Target),_⟩:=db
 conv=>rhs;simp only[Ev,a',aaK];simp only[bS]
 kernel_rfl)
def asR(F:Nat):aS aE:=(asQ F).bW 120 0 F ⟨[0,6,7,8,9],[.p (.l 134),.p (.R 0),.p (.R 1),lO,lL],[.r 9 false,.r 166 false],
 [⟨⟨.nm,[6,7],[.p (.R 0),.p (.R 1)],[.r 9 false,.r 166 false]⟩,(List I.Target)×(List (List UInt8)),λ d r=>(((),(),()),(r.2,r.1,()))⟩],
 λ k d=>Eu F d.1.1 d.1.2.2.2.1 k d.2.2.1 d.2.1 d.1.2.2.2.2.1⟩ (bM.bV (λ d=>rfl) λ k da db q h=>by
 conv=>rhs;simp only[Eu,a'];simp only[bS]
 kernel_rfl)
def asS(F:Nat):aS aE:=(asR F).rt 120 ⟨[.p (.l 134),lL],[],[.p (.l 9),.p (.l 166)],[],(List (List UInt8))×(List I.Target),λ d=>KC F d.1.1 d.1.2.1,λ d r=>((r.1,r.2,()),())⟩ λ da db=>by
 conv=>rhs;simp only[KC,a']
 kernel_rfl
def Wy(F:Nat)(k:Nat)(a:List I.al)(b:List (List I.Target))(c:List (List (List UInt8)))(d:List (List I.Field))(e:List Int)(f:Int)(e2:List I.al)(e3:List Int)(e4:List (List I.Field))(e5:List (List (List UInt8)))(e6:List (List I.Target))(e7:List I.al):=dv (([]:List I.al)=e2/\([]:List Int)=e3/\([]:List (List I.Field))=e4/\([]:List (List (List UInt8)))=e5/\([]:List (List I.Target))=e6/\(a:List I.al)=e7/\True) (bb (tA F a k b c d e f))
theorem aaI(F:Nat)(k:Nat)(a:List I.al)(b:List (List I.Target))(c:List (List (List UInt8)))(d:List (List I.Field))(e:List Int)(f:Int):bb (tA F a k b c d e f)=Wy F k a b c d e f [] [] [] [] [] a:=(dJ ⟨rfl,rfl,rfl,rfl,rfl,rfl,trivial⟩).symm
def asT(F:Nat):aS aE:=(asS F).bW 86 0 F ⟨[0,2,5,6],[.p (.l 134),.p (.B 0),.p (.B 1),lL],[dV,alV,.r 3 false,.r 124 false,.r 120 false,.r 121 false],
 [⟨⟨.nm,[2,5],[.p (.B 0),.p (.B 1)],[dV,alV,.r 3 false,.r 124 false,.r 120 false,.r 121 false]⟩,(List (List I.Target))×(List (List (List UInt8)))×(List (List I.Field))×(List Int),λ d r=>(((),(),()),(d.2.1,(d.2.2.1.1,(),(),(),(),()),r.2.2.2,r.2.2.1,r.2.1,r.1,()))⟩,
  ⟨⟨.rt,[2,3],[.p (.B 0),lL],[dV,.d,.d,.d,.d,.d]⟩,I.aN×Int,λ d r=>(((),r.2,()),((r.1.aV,r.1.aT,r.1.Fields,r.1.Names,r.1.aU,()),(),(),(),(),(),()))⟩],
 λ k d=>Wy F k d.1.1 d.2.2.2.2.2.2.1 d.2.2.2.2.2.1 d.2.2.2.2.1 d.2.2.2.1 d.1.2.2.2.1 d.2.1.1 d.2.1.2.1 d.2.1.2.2.1 d.2.1.2.2.2.1 d.2.1.2.2.2.2.1 d.2.2.1.1⟩ (bM.bV (λ d=>dI) λ k da db q h=>by
 obtain⟨(v0:List I.al),_,_,(v1:Int),_⟩:=da
 obtain⟨⟨(f:List I.al),(v3:List Int),(v4:List (List I.Field)),(v5:List (List (List UInt8))),(g:List (List I.Target)),_⟩,⟨(i:List I.al),_,_,_,_,_⟩,(c:List Int),(v9:List (List I.Field)),(a:List (List (List UInt8))),(b:List (List I.Target)),_⟩:=db
 obtain⟨e,_⟩:=ej h
 dsimp only at e
 obtain⟨rfl,rfl,rfl,rfl,rfl,rfl,_⟩:=e
 conv=>rhs;change dL (α:=((List (List I.Target))×(List (List (List UInt8)))×(List (List I.Field))×(List Int))⊕(I.aN×Int)) _ (Wy F (k+1) v0 b a v9 c v1 ([]) ([]) ([]) ([]) ([]) (v0));rw[<-aaI F (k+1) v0 b a v9 c v1];simp only[tA,a',aaI];simp only[bS]
 kernel_rfl)
def asU(F:Nat):aS aE:=(asT F).rt 86 ⟨[.p (.l 134)],[],[iD,lL],[],I.aN×Int,λ d=>Ky F d.1.1,λ d r=>(((r.1.aV,r.1.aT,r.1.Fields,r.1.Names,r.1.aU,()),r.2,()),())⟩ λ da db=>by
 obtain⟨(v0:List I.al),_⟩:=da;conv=>rhs;simp only[Ky,a',aaI]
 kernel_rfl
def asV(F:Nat):aS aE:=(asU F).rt 50 ⟨[iD],[],[lL],[],Int,λ d=>xS F (fM d.1.1),λ d r=>((r,()),())⟩ λ da db=>by
 conv=>rhs;simp only[xS,a']
 kernel_rfl
def asW(F:Nat):aS aE:=(asV F).rt 59 ⟨[iD,lL],[],[lQ],[],Bool,λ d=>D' (fM d.1.1) d.1.2.1,λ d r=>((r,()),())⟩ λ da db=>by
 conv=>rhs;simp only[D',a']
 kernel_rfl
def asX(F:Nat):aS aE:=(asW F).rt 60 ⟨[iD,lL,lL],[],[lQ],[],Bool,λ d=>xT (fM d.1.1) d.1.2.1 d.1.2.2.1,λ d r=>((r,()),())⟩ λ da db=>by
 conv=>rhs;simp only[xT,a']
 kernel_rfl
def asY(F:Nat):aS aE:=(asX F).bW 95 0 F ⟨[2,3,4,5,10],[lL,lL,.p (.B 0),.p (.B 1),.p (.R 2)],[jU,dV,.r 3 false],
 [⟨⟨.nm,[2,3,10],[lL,lL,.p (.R 2)],[jU,dV,.r 3 false]⟩,(List Int)×Int,λ d r=>((r.2,d.1.2.1,(),()),(d.2.1,d.2.2.1,r.1,()))⟩,
  ⟨⟨.rt,[8,9],[lO,lQ],[.d,.d,.d]⟩,(List Int)×Bool,λ d r=>((r.1,r.2,()),((),(),(),()))⟩],
 λ k d=>bb (AR (dW d.2.1) (fM d.2.2.1) d.1.2.1 k d.2.2.2.1 d.1.1)⟩ (bM.bV (λ d=>rfl) λ k da db q h=>by
 conv=>rhs;simp only[AR,a'];simp only[bS]
 kernel_rfl)
def as0(F:Nat):aS aE:=(asY F).rt 95 ⟨[kq,iD,lL,lL],[],[lO,lQ],[],(List Int)×Bool,λ d=>tC F (dW d.1.1) (fM d.1.2.1) d.1.2.2.1 d.1.2.2.2.1,λ d r=>((r.1,r.2,()),())⟩ λ da db=>by
 conv=>rhs;simp only[tC,a']
 kernel_rfl
def as1(F:Nat):aS aE:=(as0 F).rt 62 ⟨[kq,iD],[],[lO,lO,lQ],[],(List Int)×(List Int)×Bool,λ d=>qK F (dW d.1.1) (fM d.1.2.1),λ d r=>((r.1,r.2.1,r.2.2,()),())⟩ λ da db=>by
 conv=>rhs;simp only[qK,a']
 kernel_rfl
def as2(F:Nat):aS aE:=(as1 F).rt 71 ⟨[iD,lL,lL],[],[lQ],[],Bool,λ d=>vK (fM d.1.1) d.1.2.1 d.1.2.2.1,λ d r=>((r,()),())⟩ λ da db=>by
 conv=>rhs;simp only[vK,a']
 kernel_rfl
def as3(F:Nat):aS aE:=(as2 F).bW 44 0 F ⟨[2,3,4,7,8],[lL,.p (.B 0),.p (.B 1),.p (.R 2),lL],[jU,dV,.r 3 false],
 [⟨⟨.nm,[7],[.p (.R 2)],[jU,dV,.r 3 false]⟩,List Int,λ d r=>(((),()),(d.2.1,d.2.2.1,r,()))⟩],
 λ k d=>xU d.1.1 (dW d.2.1) (fM d.2.2.1) k d.2.2.2.1 d.1.2.2.2.2.1⟩ (bM.bV (λ d=>rfl) λ k da db q h=>by
 conv=>rhs;simp only[xU,a'];simp only[bS]
 kernel_rfl)
def as4(F:Nat):aS aE:=(as3 F).rt 44 ⟨[kq,iD,lL],[],[lO],[],List Int,λ d=>qJ F (dW d.1.1) (fM d.1.2.1) d.1.2.2.1,λ d r=>((r,()),())⟩ λ da db=>by
 conv=>rhs;simp only[qJ,a']
 kernel_rfl
def as5(F:Nat):aS aE:=(as4 F).bW 43 0 F ⟨[0,1,5],[lO,lL,lL],[],
 [⟨⟨.nm,[],[],[]⟩,Unit,λ d r=>((),())⟩,
  ⟨⟨.rt,[4],[lQ],[]⟩,Bool,λ d r=>((r,()),())⟩],
 λ k d=>bb (D9 d.1.1 d.1.2.1 k d.1.2.2.1)⟩ (bM.bV (λ d=>rfl) λ k da db q h=>by
 conv=>rhs;simp only[D9,a'];simp only[bS]
 kernel_rfl)
def as6(F:Nat):aS aE:=(as5 F).rt 43 ⟨[lO,lL],[],[lQ],[],Bool,λ d=>kU F d.1.1 d.1.2.1,λ d r=>((r,()),())⟩ λ da db=>by
 conv=>rhs;simp only[kU,a']
 kernel_rfl
def as7(F:Nat):aS aE:=(as6 F).bW 51 0 F ⟨[2,3,6,8,9],[.p (.B 0),.p (.B 1),lO,.p (.R 2),lL],[jU,dV,.r 3 true],
 [⟨⟨.nm,[2,3,6,8],[.p (.B 0),.p (.B 1),lO,.p (.R 2)],[jU,dV,.r 3 true]⟩,Unit,λ d r=>(((),(),d.1.2.2.1,(),()),(d.2.1,d.2.2.1,d.2.2.2.1,()))⟩,
  ⟨⟨.rt,[4],[lL],[.d,.d,.d]⟩,Int,λ d r=>((r,()),((),(),(),()))⟩],
 λ k d=>bb (DK (dW d.2.1) d.2.2.2.1 k d.1.2.2.2.2.1)⟩ (bM.bV (λ d=>rfl) λ k da db q h=>by
 conv=>rhs;simp only[DK,a'];simp only[bS]
 kernel_rfl)
def as8(F:Nat):aS aE:=(as7 F).bW 51 4 F ⟨[2,3,6,8,10,11],[.p (.B 0),.p (.B 1),lO,.p (.R 2),lL,lL],[jU,dV,.r 3 true],
 [⟨⟨.nm,[2,3,6,8,10],[.p (.B 0),.p (.B 1),lO,.p (.R 2),lL],[jU,dV,.r 3 true]⟩,Unit,λ d r=>(((),(),d.1.2.2.1,(),d.1.2.2.2.2.1,()),(d.2.1,d.2.2.1,d.2.2.2.1,()))⟩,
  ⟨⟨.rt,[4],[lL],[.d,.d,.d]⟩,Int,λ d r=>((r,()),((),(),(),()))⟩],
 λ k d=>bb (DL (dW d.2.1) d.2.2.2.1 d.1.2.2.2.2.1 k d.1.2.2.2.2.2.1)⟩ (bM.bV (λ d=>rfl) λ k da db q h=>by
 conv=>rhs;simp only[DL,a'];simp only[bS]
 kernel_rfl)
def as9(F:Nat):aS aE:=(as8 F).bW 51 2 F ⟨[2,3,6,8,10],[.p (.B 0),.p (.B 1),lO,.p (.R 2),lL],[jU,dV,.r 3 true],
 [⟨⟨.nm,[2,3,6,8],[.p (.B 0),.p (.B 1),lO,.p (.R 2)],[jU,dV,.r 3 true]⟩,Unit,λ d r=>(((),(),d.1.2.2.1,(),()),(d.2.1,d.2.2.1,d.2.2.2.1,()))⟩,
  ⟨⟨.rt,[4],[lL],[.d,.d,.d]⟩,Int,λ d r=>((r,()),((),(),(),()))⟩],
 λ k d=>bb (AH F (dW d.2.1) d.2.2.2.1 k d.1.2.2.2.2.1)⟩ (bM.bV (λ d=>rfl) λ k da db q h=>by
 conv=>rhs;simp only[AH,a'];simp only[bS]
 kernel_rfl)
def as'(F:Nat):aS aE:=(as9 F).bW 51 8 F ⟨[2,3,6,8,12,13,14],[.p (.B 0),.p (.B 1),lO,lO,lL,lO,lL],[jU,dV],
 [⟨⟨.nm,[2,3,6,8,12],[.p (.B 0),.p (.B 1),lO,lO,lL],[jU,dV]⟩,Unit,λ d r=>(((),(),d.1.2.2.1,d.1.2.2.2.1,d.1.2.2.2.2.1,()),(d.2.1,d.2.2.1,()))⟩,
  ⟨⟨.rt,[4],[lL],[.d,.d]⟩,Int,λ d r=>((r,()),((),(),()))⟩],
 λ k d=>bb (AI F (dW d.2.1) d.1.2.2.2.1 d.1.2.2.2.2.2.1 k d.1.2.2.2.2.2.2.1)⟩ (bM.bV (λ d=>rfl) λ k da db q h=>by
 conv=>rhs;simp only[AI,a'];simp only[bS]
 kernel_rfl)
def ata(F:Nat):aS aE:=(as' F).bW 51 6 F ⟨[2,3,6,8,12],[.p (.B 0),.p (.B 1),lO,lO,lL],[jU,dV],
 [⟨⟨.nm,[2,3,6],[.p (.B 0),.p (.B 1),lO],[jU,dV]⟩,Unit,λ d r=>(((),(),d.1.2.2.1,()),(d.2.1,d.2.2.1,()))⟩,
  ⟨⟨.rt,[4],[lL],[.d,.d]⟩,Int,λ d r=>((r,()),((),(),()))⟩],
 λ k d=>bb (DM F (dW d.2.1) (fM d.2.2.1) d.1.2.2.2.1 k d.1.2.2.2.2.1)⟩ (bM.bV (λ d=>rfl) λ k da db q h=>by
 conv=>rhs;simp only[DM,a'];simp only[bS]
 kernel_rfl)
def atb(F:Nat):aS aE:=(ata F).bW 51 10 F ⟨[2,3,6,15],[.p (.B 0),.p (.B 1),lO,lL],[jU,dV],
 [⟨⟨.nm,[2,3,6],[.p (.B 0),.p (.B 1),lO],[jU,dV]⟩,Unit,λ d r=>(((),(),d.1.2.2.1,()),(d.2.1,d.2.2.1,()))⟩,
  ⟨⟨.rt,[4],[lL],[.d,.d]⟩,Int,λ d r=>((r,()),((),(),()))⟩],
 λ k d=>bb (xQ (dW d.2.1) k d.1.2.2.2.1)⟩ (bM.bV (λ d=>rfl) λ k da db q h=>by
 conv=>rhs;simp only[xQ,a'];simp only[bS]
 kernel_rfl)
def Ws(F:Nat)(k:Nat)(h_:I.aP)(a:I.aN)(b:(List Int)×(List Int)×Bool)(c:Int):=dv (True) (bb (r2 F h_ a b k c))
theorem aaC(F:Nat)(k:Nat)(h_:I.aP)(a:I.aN)(b:(List Int)×(List Int)×Bool)(c:Int):bb (r2 F h_ a b k c)=Ws F k h_ a ([],b.2.1,false) c:=(show bb (r2 F h_ a b k c)=bb (r2 F h_ a ([],b.2.1,false) k c) by kernel_rfl).trans (dJ trivial).symm
def atc(F:Nat):aS aE:=(atb F).bW 51 12 F ⟨[2,3,6,16],[.p (.B 0),.p (.B 1),lO,lL],[jU,dV],
 [⟨⟨.nm,[2,3,6],[.p (.B 0),.p (.B 1),lO],[jU,dV]⟩,Unit,λ d r=>(((),(),d.1.2.2.1,()),(d.2.1,d.2.2.1,()))⟩,
  ⟨⟨.rt,[4],[lL],[.d,.d]⟩,Int,λ d r=>((r,()),((),(),()))⟩],
 λ k d=>Ws F k (dW d.2.1) (fM d.2.2.1) ([],d.1.2.2.1,false) d.1.2.2.2.1⟩ (bM.bV (λ d=>dI) λ k da db q h=>by
 obtain⟨_,_,(v0:List Int),(v1:Int),_⟩:=da
 obtain⟨⟨(e:List Int),(v3:Int),(v4:Int),(v5:Int),(f:Int),(g:List Int),(i:Int),_⟩,⟨(v9:List I.al),(a:List Int),(b:List (List I.Field)),(c:List (List (List UInt8))),(j:List (List I.Target)),_⟩,_⟩:=db
 conv=>rhs;change dL (α:=Unit⊕Int) _ (Ws F (k+1) (⟨e,v3,v4,v5,f,g,i⟩:I.aP) (⟨v9,a,b,c,j⟩:I.aN) ([],v0,false) v1);rw[<-aaC F (k+1) (⟨e,v3,v4,v5,f,g,i⟩:I.aP) (⟨v9,a,b,c,j⟩:I.aN) ([],v0,false) v1];simp only[r2,a',aaC];simp only[bS]
 kernel_rfl)
def Wu(F:Nat)(k:Nat)(h_:I.aP)(a:(List Int)×(List Int)×Bool)(b:Int)(c:List Int)(d:Int):=dv (True) (bb (tz F h_ a b c k d))
theorem aaE(F:Nat)(k:Nat)(h_:I.aP)(a:(List Int)×(List Int)×Bool)(b:Int)(c:List Int)(d:Int):bb (tz F h_ a b c k d)=Wu F k h_ ([],a.2.1,false) b c d:=(show bb (tz F h_ a b c k d)=bb (tz F h_ ([],a.2.1,false) b c k d) by kernel_rfl).trans (dJ trivial).symm
def atd(F:Nat):aS aE:=(atc F).bW 51 16 F ⟨[2,3,6,17,18,19],[.p (.B 0),.p (.B 1),lO,lL,lO,lL],[jU,dV],
 [⟨⟨.nm,[2,3,6,17],[.p (.B 0),.p (.B 1),lO,lL],[jU,dV]⟩,Unit,λ d r=>(((),(),d.1.2.2.1,d.1.2.2.2.1,()),(d.2.1,d.2.2.1,()))⟩,
  ⟨⟨.rt,[4],[lL],[.d,.d]⟩,Int,λ d r=>((r,()),((),(),()))⟩],
 λ k d=>Wu F k (dW d.2.1) ([],d.1.2.2.1,false) d.1.2.2.2.1 d.1.2.2.2.2.1 d.1.2.2.2.2.2.1⟩ (bM.bV (λ d=>dI) λ k da db q h=>by
 obtain⟨_,_,(v0:List Int),(v1:Int),(b:List Int),(v3:Int),_⟩:=da
 obtain⟨⟨(v4:List Int),(v5:Int),(c:Int),(e:Int),(f:Int),(v9:List Int),(a:Int),_⟩,⟨(g:List I.al),(i:List Int),(j:List (List I.Field)),(l:List (List (List UInt8))),(m:List (List I.Target)),_⟩,_⟩:=db
 conv=>rhs;change dL (α:=Unit⊕Int) _ (Wu F (k+1) (⟨v4,v5,c,e,f,v9,a⟩:I.aP) ([],v0,false) v1 b v3);rw[<-aaE F (k+1) (⟨v4,v5,c,e,f,v9,a⟩:I.aP) ([],v0,false) v1 b v3];simp only[tz,a',aaE];simp only[bS]
 kernel_rfl)
def Wt(F:Nat)(k:Nat)(h_:I.aP)(a:I.aN)(b:(List Int)×(List Int)×Bool)(c:Int):=dv (True) (bb (vG F h_ a b k c))
theorem aaD(F:Nat)(k:Nat)(h_:I.aP)(a:I.aN)(b:(List Int)×(List Int)×Bool)(c:Int):bb (vG F h_ a b k c)=Wt F k h_ a ([],b.2.1,false) c:=(show bb (vG F h_ a b k c)=bb (vG F h_ a ([],b.2.1,false) k c) by kernel_rfl).trans (dJ trivial).symm
def ate(F:Nat):aS aE:=(atd F).bW 51 14 F ⟨[2,3,6,17],[.p (.B 0),.p (.B 1),lO,lL],[jU,dV],
 [⟨⟨.nm,[],[],[jU,dV]⟩,Unit,λ d r=>((),(d.2.1,d.2.2.1,()))⟩,
  ⟨⟨.rt,[4],[lL],[.d,.d]⟩,Int,λ d r=>((r,()),((),(),()))⟩],
 λ k d=>Wt F k (dW d.2.1) (fM d.2.2.1) ([],d.1.2.2.1,false) d.1.2.2.2.1⟩ (bM.bV (λ d=>dI) λ k da db q h=>by
 obtain⟨_,_,(v0:List Int),(v1:Int),_⟩:=da
 obtain⟨⟨(e:List Int),(v3:Int),(v4:Int),(v5:Int),(f:Int),(g:List Int),(i:Int),_⟩,⟨(v9:List I.al),(a:List Int),(b:List (List I.Field)),(c:List (List (List UInt8))),(j:List (List I.Target)),_⟩,_⟩:=db
 conv=>rhs;change dL (α:=Unit⊕Int) _ (Wt F (k+1) (⟨e,v3,v4,v5,f,g,i⟩:I.aP) (⟨v9,a,b,c,j⟩:I.aN) ([],v0,false) v1);rw[<-aaD F (k+1) (⟨e,v3,v4,v5,f,g,i⟩:I.aP) (⟨v9,a,b,c,j⟩:I.aN) ([],v0,false) v1];simp only[vG,a',aaE,aaD];simp only[bS]
 kernel_rfl)
def atf(F:Nat):aS aE:=(ate F).rt 51 ⟨[kq,iD],[],[lL],[],Int,λ d=>Hz F (dW d.1.1) (fM d.1.2.1),λ d r=>((r,()),())⟩ λ da db=>by
 obtain⟨⟨(v0:List Int),(v1:Int),(c:Int),(v3:Int),(v4:Int),(v5:List Int),(e:Int),_⟩,⟨(f:List I.al),(g:List Int),(v9:List (List I.Field)),(a:List (List (List UInt8))),(b:List (List I.Target)),_⟩,_⟩:=da;conv=>rhs;simp only[Hz,a',aaC,aaD]
 kernel_rfl
def atg(F:Nat):aS aE:=(atf F).rt 20 ⟨[kq,iD],[],[lL],[],Int,λ d=>r5 F (dW d.1.1) (fM d.1.2.1),λ d r=>((r,()),())⟩ λ da db=>by
 conv=>rhs;simp only[r5,a']
 kernel_rfl
def ath(F:Nat):aS aE:=(atg F).rt 14 ⟨[kq],[],[lL],[],Int,λ d=>afg (dW d.1.1),λ d r=>((r,()),())⟩ λ da db=>by
 conv=>rhs;simp only[afg,a']
 kernel_rfl
def ati(F:Nat):aS aE:=(ath F).bW 18 0 F ⟨[0,1,5],[lO,lO,lL],[],
 [⟨⟨.nm,[],[],[]⟩,Unit,λ d r=>((),())⟩,
  ⟨⟨.rt,[4],[lQ],[]⟩,Bool,λ d r=>((r,()),())⟩],
 λ k d=>bb (xW d.1.1 d.1.2.1 k d.1.2.2.1)⟩ (bM.bV (λ d=>rfl) λ k da db q h=>by
 conv=>rhs;simp only[xW,a'];simp only[bS]
 kernel_rfl)
def atk(F:Nat):aS aE:=(ati F).rt 18 ⟨[lO,lO],[],[lQ],[],Bool,λ d=>ka F d.1.1 d.1.2.1,λ d r=>((r,()),())⟩ λ da db=>by
 conv=>rhs;simp only[ka,a']
 kernel_rfl
def atl(F:Nat):aS aE:=(atk F).rt 32 ⟨[kq,kq],[],[lQ],[],Bool,λ d=>Em F (dW d.1.1) (dW d.1.2.1),λ d r=>((r,()),())⟩ λ da db=>by
 conv=>rhs;simp only[Em,a']
 kernel_rfl
def atm(F:Nat):aS aE:=(atl F).rt 17 ⟨[kq,lL,lL,kq],[],[lQ],[],Bool,λ d=>ma F (dW d.1.1) d.1.2.1 d.1.2.2.1 (dW d.1.2.2.2.1),λ d r=>((r,()),())⟩ λ da db=>by
 conv=>rhs;simp only[ma,a']
 kernel_rfl
def Wx(F:Nat)(k:Nat)(a:List Int)(b:(List Int)×(List Int)×Bool)(qc:Int):=dv (True) (bb (r3 F a b k qc))
theorem aaH(F:Nat)(k:Nat)(b:List Int)(a:(List Int)×(List Int)×Bool)(qc:Int):bb (r3 F b a k qc)=Wx F k b (a.1,a.2.1,false) qc:=(show bb (r3 F b a k qc)=bb (r3 F b (a.1,a.2.1,false) k qc) by kernel_rfl).trans (dJ trivial).symm
def atn(F:Nat):aS aE:=(atm F).bW 40 0 F ⟨[2,7,8,10],[lO,lO,lO,lL],[],
 [⟨⟨.nm,[],[],[]⟩,Unit,λ d r=>((),())⟩,
  ⟨⟨.rt,[6],[lL],[]⟩,Int,λ d r=>((r,()),())⟩],
 λ k d=>Wx F k d.1.1 (d.1.2.1,d.1.2.2.1,false) d.1.2.2.2.1⟩ (bM.bV (λ d=>dI) λ k da db q h=>by
 obtain⟨(v0:List Int),(v1:List Int),(a:List Int),(v3:Int),_⟩:=da
 conv=>rhs;change dL (α:=Unit⊕Int) _ (Wx F (k+1) v0 (v1,a,false) v3);rw[<-aaH F (k+1) v0 (v1,a,false) v3];simp only[r3,a',aaH];simp only[bS]
 kernel_rfl)
def ato(F:Nat):aS aE:=(atn F).rt 40 ⟨[kq,iD,lO],[],[lL],[],Int,λ d=>AM F (dW d.1.1) (fM d.1.2.1) d.1.2.2.1,λ d r=>((r,()),())⟩ λ da db=>by
 obtain⟨⟨(v0:List Int),(v1:Int),(e:Int),(v3:Int),(v4:Int),(v5:List Int),(f:Int),_⟩,⟨(g:List I.al),(h:List Int),(v9:List (List I.Field)),(a:List (List (List UInt8))),(b:List (List I.Target)),_⟩,(c:List Int),_⟩:=da;conv=>rhs;simp only[AM,a',aaH]
 kernel_rfl
def OM(F:Nat):aS aE:=(ato F).rt 13 ⟨[kq,iD,lO],[],[lL],[],Int,λ d=>tx F (dW d.1.1) (fM d.1.2.1) d.1.2.2.1,λ d r=>((r,()),())⟩ λ da db=>by
 conv=>rhs;simp only[tx,a']
 kernel_rfl
end Go.Proofs.YteeliipnilghaaaGreat
namespace I
def vw(n:Int):Nat->List Int->Int->Option (List Int)
 |0,_,_=>none
 |k+1,l,i=>cond (decide (i<n)) ((bE 8 l [i]).bind λ l'=>vw n k l' (ap (i+1))) (some l)
def rV(F:Nat)(n:Int):Option (List Int):=vw n F [] 0
end I
namespace Go.Proofs.YteeliipnilghaaaGreat
open Go Go.RowKit aw I a7
set_option maxHeartbeats 4000000
set_option maxRecDepth 20000
def C1(a:Nat):dt Int where
 size:=1
 rd _ _ cs q:=cs=[.pointer (some ⟨a,q.toNat,none⟩)]
 len h:=by subst h;rfl
 one h v b:=by subst h;simp at b;subst b;rfl
 law _ h:=h
theorem aHI{F:Nat->Prop}{w:World}{g:Nat}{i:Int}:(C1 g).rd F w [.pointer (some ⟨g,0+i.toNat*1,none⟩)] i:=by
 show[_]=[_]
 rw[ji,jl]
theorem aDo:(Tryz.prog.info? 109).map (λ i=>(i.zero,i.size,i.bytes))=some (some (.pointer none),1,8):=by kernel_rfl
theorem awK{W:World}{X:List Nat}{F:Nat}{A:jg}{n c:Nat}{r:List Int}{M0:List Nat}(C:n<=9223372036854775807)(q:0<n->A=some ⟨dD A,0,none⟩)(d:bu W M0 X W [] [])(h:I.rV F (n:Int)=some r) :
 Calls Tryz.prog 39 [.slice A n c].toArray W (λ e w'=>∃ck:Option Addr,∃o:Nat,∃xs:List Value,e= .returned (.q ck o r)/\bu W M0 X w' [a8.row 109 1 (.q ck o r) r xs] [bA.rows (C1 (dD A)) xs r]):=by
 refine enter Tryz.func39 rfl Tryz.ntmps39 rfl λ a b=>?_;rw[I.rV]at h
 refine sg [] [(0,.slice A n c)] b λ a b=>sg [] [(3,.slice none 0 0)] b λ a b=>?_
 have d:=d.MO (α:=Int) 109 1;have d:=d.more (y:=bA.rows (C1 (dD A)) [] []) rfl
 refine wp_seq_k λ K s=>sg [] [(6,.i n),(7,.i 0)] b λ a b=>?_
 refine Pg (λ a w=>∃(f:jg)(c1:Nat)(j:qF),Fr ⟨18,[]⟩ [(3,.q f c1 r)] a/\bu W M0 X w [a8.row 109 1 (.q f c1 r) r j] [bA.rows (C1 (dD A)) j r]) (λ K t=>?_) ?_
 ·refine Va (λ(p:Nat) a w=>∃(f:jg)(c1:Nat)(l1:rZ)(j:qF)(i:Int),Fr ⟨18,[]⟩ [(0,.slice A n c),(3,.q f c1 l1),(6,.i n),(7,.i i)] a/\bu W M0 X w [a8.row 109 1 (.q f c1 l1) l1 j] [bA.rows (C1 (dD A)) j l1]/\0<=i/\I.vw n p l1 i=some r) F ⟨none,0,[],[],0,b.cut,d,j6 _,h⟩ ?_ ?_;rintro a w ⟨f,c1,l1,j,i,b,d,hi,h⟩;exact absurd h (by simp[I.vw]);rintro p a w ⟨f,c1,l1,j,i,b,d,hi,h⟩ K u;rw[I.vw]at h;refine sg [] [(8,.bool (decide (i<n)))] b λ a b=>?_;refine wp_seq_k λ K Lp=>Pj (b.g rfl) h (λ ag h=>?_) (λ ag h=>?_)
  ·refine wp_skip<|Lp _ _<|wp_seq_k λ K v=>?_;have x:i<(n:Int):=of_decide_eq_true ag;obtain⟨g,rfl⟩:∃g,A=some ⟨g,0,none⟩:=⟨_,q (by omega)⟩
   obtain⟨l,z,h⟩:=I.fz h;refine Pg (λ a w=>∃(k:jg)(c2:Nat)(m:qF),Fr ⟨18,[]⟩ [(0,.slice (some ⟨g,0,none⟩) n c),(3,.q k c2 l),(6,.i n),(7,.i i)] a/\bu W M0 X w [a8.row 109 1 (.q k c2 l) l m] [bA.rows (C1 g) m l]) (λ K B=>?_) ?_;refine sg [] [(4,.i i)] b λ a b=>?_;refine mY<|mZ 3 [] [(10,.q f c1 l1),(11,.slice (some ⟨g,0,none⟩) n c),(12,.i i)] b λ a b=>gE wn (rT Tryz.underlying22 Tryz.sizeOf3 rfl (b.g rfl) (b.g rfl) rfl ⟨hi,x⟩) b rfl rfl λ a b=>?_;refine alv (cs:=[.pointer (some ⟨g,0+i.toNat*1,none⟩)]) wn (Ha (vs:=[(0,.pointer (some ⟨g,0+i.toNat*1,none⟩))]) Tryz.underlying73 Tryz.sizeOf109 Tryz.zeroValue109 rfl rfl rfl ⟨⟨(b.g rfl),rfl⟩,trivial⟩ (by kernel_rfl)) b d rfl rfl λ a D w _ b d=>?_;refine Ns (T:=C1 g) (ml:=[i]) 1 0 0 d rfl rfl rfl Tryz.underlying73 aDo rfl rfl z rfl rfl ⟨_,_,rfl,aHI,rfl⟩ wn rfl (b.g rfl) (b.g rfl) b rfl rfl λ a k c2 m w b d=>?_;refine mZ 1 [] [(3,.q k c2 l)] b λ a b=>wpList_nil ?_;exact B _ _ ⟨k,c2,m,b.cut,d.iX [0]⟩;rintro a w ⟨k,c2,m,b,d⟩;refine v _ _<|agr [] [(7,.i (I.ap (i+1)))] b λ a b=>?_;exact u _ _ ⟨k,c2,l,m,I.ap (i+1),b.cut,d,by rw[show I.ap (i+1)=i+1 by unfold I.ap;omega];omega,h⟩
  ·refine wp_exit<|vv (vv (J9 ?_));obtain rfl:=oi h;exact t _ _ ⟨f,c1,j,b.cut,d⟩
 rintro a w ⟨f,c1,j,b,d⟩
 refine s _ _<|NH [] [(2,.q f c1 r)] b λ a b=>wp_ret ?_;refine CJ Tryz.results39 b rfl ?_;exact⟨f,c1,j,rfl,d⟩
theorem al'{n:Int}:∀ {k:Nat}{l r:List Int}{i:Int},I.vw n k l i=some r->n<=9223372036854775807->0<=i->(∀q∈l,0<=q/\q<n)->∀q∈r,0<=q/\q<n
 |0,l,r,i,h,_,_,_=>by simp[I.vw]at h
 |k+1,l,r,i,h,b,hi,a=>by
  rw[I.vw]at h;cases ag:decide (i<n)with
  |false=>rw[ag]at h;obtain rfl:=oi h;exact a
  |true=>
   rw[ag]at h;have c:=of_decide_eq_true ag;obtain⟨d,J,h⟩:=I.fz h;have e:I.ap (i+1)=i+1:=by unfold I.ap;omega
   rw[e]at h;refine al' h b (by omega) λ q aO=>?_;have:d=l++[i]:=by unfold bE at J;split at J;exact(oi J).symm;cases J
   rw[this]at aO;rcases cg.1 aO with aO |aO;exact a q aO;cases dm.1 aO;exact⟨hi,c⟩
theorem amj{ρ:List Value}{bl:List (aG bf.El)}{F:Nat->Prop}{w:World}{g n c:Nat}(b:ρ[0]? =some (.slice (some ⟨g,0,none⟩) n c))(e:b1 bl[0]? =0):∀ {r:List Int}{xs:List Value},(∀q∈r,0<=q/\q<(n:Int))->dN (C1 g) F w xs r->vE ρ bl 0 0 1 r xs
 |[],xs,_,h=>h
 |q::r,xs,d,h=>by obtain⟨cs,ys,rfl,a,J⟩:=h;have a:cs=[.pointer (some ⟨g,q.toNat,none⟩)]:=a;subst a;have:=d q (by simp);exact⟨_,_,rfl,⟨trivial,_,b,fY _,λ _=>⟨_,_,_,rfl,this.1,this.2,by simp[dD]⟩⟩,amj b e (λ q f=>d q (by simp[f])) J⟩
@[reducible] def QY(F:Nat):iN bf:=⟨[.p (.R 0)],[.r 3 true],[.p (.P 0 1)],[.r 3 true],List Int,λ d=>rV F d.2.1.length,λ d r=>((r,()),(d.2.1,()))⟩
theorem axx(F:Nat):(QY F).iu.AA aE 39:=by
 intro da db fc h W M0 X ρ w vs a b;obtain⟨⟨⟩,⟨⟩⟩:=da;obtain⟨l,⟨⟩⟩:=db;have h:dL _ (I.rV F (l:List Int).length)=some fc:=h;obtain⟨r,o,rfl⟩:=cF.1 h;have a:Mem bf W M0 X [.r 3 0 0 l] ρ w:=a;have b:aZ bf (bi X [.r 3 0 0 l] ρ w) w ρ [.r 3 0 0 l] [.r 0 0] vs:=b;obtain⟨P,f⟩:=a.ux (i:=0) rfl;obtain⟨A,c,xs,rfl,C,_⟩:=a.ok 0 _ _ rfl f;simp only[aZ,av]at b;obtain⟨v,_,rfl,⟨_,u,p,_,b⟩,rfl⟩:=b;rw[f]at p;cases p;obtain rfl:=b rfl;have j:=C.cap;have Q:hr (α:=Int) l<=c:=j.1;have s:hr (α:=Int) l<=9223372036854775807:=by have:=j.2.1;simp only[maxLen]at this;omega
 have t:0<hr (α:=Int) l->A=some ⟨dD A,0,none⟩:=λ R=>by obtain⟨g,rfl⟩:=j.2.2.2 (by omega);rfl
 refine⟨⟨.ret (.pp 0 0 1 r),[.r 3 0 0 l],[]⟩,by kernel_rfl,?_⟩;refine(awK (X:=[]) (M0:=[]) s t (bu.start [] [] w [] [] (by simp) (by simp[bT]) (by simp) (by simp[bT]) (by simp)) o).mono λ e w' ⟨ck,m,ys,D,aj⟩=>?_;refine⟨ρ,a.fo aj.bU,Mem.u' aj.bU,λ k E _=>aj.bU.block k E (by simp),?_⟩;subst D;show av _ _ _ _ _ (.pp 0 0 1 r) _
 simp only[av];have d:(a8.row 109 1 (.slice ck r.length m) r ys).ok w':=aj.e 0 rfl;obtain⟨_,_,e1,e2,e3,e4,e5⟩:=Nl d;simp only[Value.slice.injEq,true_and]at e1;obtain⟨rfl,rfl⟩:=e1;refine⟨ck,m,rfl,e2,e4,λ x=>?_⟩;have G:0<r.length:=kA.2 x;have H:ck≠none:=λ e=>by have:=e4 e;omega
 have n:=e5 H;have y:∀q∈r,0<=q/\q<((hr (α:=Int) l:Nat):Int):=al' o (Int.ofNat_le.2 s) (j6 _) (by simp);have J:0<hr (α:=Int) l:=by obtain⟨q,K⟩:=List.exists_mem_of_ne_nil r x;have:=y q K;omega
 have L:=t J;obtain⟨g,rfl⟩:∃g,A=some ⟨g,0,none⟩:=⟨_,L⟩
 obtain⟨g',rfl⟩:∃g',ck=some ⟨g',0,none⟩:=⟨_,n⟩
 have z:=aj.lt g' (by simp[bT,a8.row,Value.ownBlock]);have S:w.heap.size<=g':=z.2.resolve_left (by simp);have T:W.heap.size<=w.heap.size:=a.bU.size;refine⟨rfl,⟨λ M=>?_,λ d=>?_,z.1⟩,ys,amj f rfl y (aj.d 0 rfl),?_⟩;have:g'<W.heap.size:=(a.iT _ M).1;omega;have:g'<w.heap.size:=(a.lt _ d).1;omega;have N:w'.ownsRow 0 109 1 (.slice (some ⟨g',0,none⟩) r.length m) r.length ys:=d;have:=w3 G (Or.inl N);obtain⟨U,B,V,O,_⟩:=this;simp only[aM,Addr.mk.injEq,and_true]at B;subst B;exact O
theorem afZ(F:Nat):kQ aE 39 ((QY F).run aE):=λ ys bl r a=>KU (axx F) ys bl r (zN a)
@[reducible] def IK:iN bf:=⟨[],[],[.p .b],[],Bool,λ _=>some true,λ _ r=>((r,()),())⟩
theorem ayw:IK.Eq nP (H8 nP (OM 2000).t.l8 (λ _ _=>none) 100) (λ _ _=>none) 16:=λ da db=>by kernel_rfl
theorem Pn(g:Nat)(h:List (aL bf.El)->List (aG bf.El)->D (fS bf.El)):kQ aE g h=kQ nP g h:=by kernel_rfl
theorem awA:kQ nP 16 (IK.run nP):=
 have a:xN nP (λ _ _=>none):=λ g fn c _ _ _=>wC (λ _=>rfl) c
 have hc:=((OM 2000).ok kY).ce
 have b:OP nP (OM 2000).t.l8:=⟨hc.cm,λ g h d=>(Pn g h)▸hc.ok g h d⟩
 λ ys bl r e=>HW Pw (m' Pw b a 100) a rfl (c:=IK.iu) (er.Eq.v ayw) ys bl r (zN e)
theorem aKA:IK.run aE=IK.run nP:=by kernel_rfl
def atp(F:Nat):aS aE:=(OM F).add 16 (IK.run aE) (aKA▸(Pn 16 _)▸awA)
def atq(F:Nat):aS aE:=(atp F).add 39 ((QY F).run aE) (afZ F)
set_option maxRecDepth 100000
@[reducible] def Jd:bJ:=.c 24 [.R 2,lS,lS,lS,lS,.l 3,lS]
@[reducible] def CD:bJ:=.c 24 [.R 1,lS,lS,lS,lS,.l 3,lS]
@[reducible] def al1:cy:=.a [.l 3,lS,lS,lS,lS,.l 3,lS]
@[reducible] def Jf:bJ:=.c 108 [.B 1,.l 134,.l 3,.l 124,.l 120,.l 121,.M 3]
@[reducible] def Jg:bJ:=.c 108 [.B 0,.l 134,.l 3,.l 124,.l 120,.l 121,.M 3]
@[reducible] def al2:cy:=.a [.l 134,.l 3,.l 124,.l 120,.l 121]
abbrev ard:=(Unit×(Unit×List al×List Int×List (List I.Field)×List (List (List UInt8))×List (List I.Target)×Unit×Unit)×(Unit×Int×Int×Int×Int×List Int×Int×Unit)×List Int×List (Int×Int)×Unit)
abbrev Ub:=(Unit×List al×List Int×List (List I.Field)×List (List (List UInt8))×List (List I.Target)×Unit×Unit)
abbrev Ow:=(Unit×Int×Int×Int×Int×List Int×Int×Unit)
def xG(F:Nat)(a:Int)(g:List al)(h:List Int)(i:List (List I.Field))(j:List (List (List UInt8)))(k:List (List I.Target))(e:Int)(l:Int)(m:Int)(c:Int)(n:List Int)(o:Int)(b:List Int)(d:List (Int×Int)):Option ((Int×Unit)×Ub×Ow×List Int×List (Int×Int)×Unit):=cond (decide (a=0)||decide (e<a)) (some ((a,()),((),g,h,i,j,k,(),()),((),e,l,m,c,n,o,()),b,d,())) (
cond ((cB d a).isSome) (some ((((cB d a).getD 0),()),((),g,h,i,j,k,(),()),((),e,l,m,c,n,o,()),b,d,())) (
(idx b (ap (a+1))).bind λ f=>
(if(0 :Int)<=c/\c<=(↑b.length:Int)/\(↑b.length:Int)<=(↑b.length:Int)then some ()else none).bind λ p=>
(if(0 :Int)<=a/\a<=ap (a+ap (3+f))/\ap (a+ap (3+f))<=(↑b.length:Int)then some ()else none).bind λ q=>
(zC (decide (0<b.length))).bind λ r=>
some ((c,()),((),g,h,i,j,k,(),()),((),e,l,m,(ap (c+ap (3+f))),n,o,()),(gC b c.toNat (k1 ((↑b.length:Int)-c).toNat (List.drop a.toNat (k1 (ap (a+ap (3+f))).toNat b)))),(gP d a c),())))
def atr(F:Nat):aS aE:=(atq F).fn 69 ⟨[.p (.B 0),lL],[Jf,Jd,.r 3 true,.m 3 3],[lL],[Jf,Jd,.r 3 true,.m 3 3],λ d=>xG F d.1.2.1 d.2.1.2.1 d.2.1.2.2.1 d.2.1.2.2.2.1 d.2.1.2.2.2.2.1 d.2.1.2.2.2.2.2.1 d.2.2.1.2.1 d.2.2.1.2.2.1 d.2.2.1.2.2.2.1 d.2.2.1.2.2.2.2.1 d.2.2.1.2.2.2.2.2.1 d.2.2.1.2.2.2.2.2.2.1 d.2.2.2.1 d.2.2.2.2.1⟩ λ da db=>by kernel_rfl
def Dz(F:Nat):Nat->(Int)->(Int)->(Int)->(List al)->(List Int)->(List (List I.Field))->(List (List (List UInt8)))->(List (List I.Target))->(Int)->(Int)->(Int)->(Int)->(List Int)->(Int)->(List Int)->(List (Int×Int))->Option ard
 |0,_,_,_,_,_,_,_,_,_,_,_,_,_,_,_,_=>none
 |aQ+1,b,i,lv,d,e,f,g,h,j,k,l,m,n,o,c,p=>cond (decide (lv<i)) ((idx c b).bind λ q=>
(sp (b4.mk (aN.mk d e f g h)) q lv).bind λ r=>
cond r ((idx c (ap (ap (b+3)+lv))).bind λ s=>
(xG F s d e f g h j k l m n o c p).bind λ a=>
(idx a.2.2.2.1 (ap (ap (b+3)+lv))).bind λ t=>
Dz F aQ b i (ap (lv+1)) a.2.1.2.1 a.2.1.2.2.1 a.2.1.2.2.2.1 a.2.1.2.2.2.2.1 a.2.1.2.2.2.2.2.1 a.2.2.1.2.1 a.2.2.1.2.2.1 a.2.2.1.2.2.2.1 a.2.2.1.2.2.2.2.1 a.2.2.1.2.2.2.2.2.1 a.2.2.1.2.2.2.2.2.2.1 (List.set a.2.2.2.1 (ap (ap (b+3)+lv)).toNat a.1.1) a.2.2.2.2.1) (
Dz F aQ b i (ap (lv+1)) d e f g h j k l m n o c p)) (
some ((),((),d,e,f,g,h,(),()),((),j,k,l,m,n,o,()),c,p,()))
def ats(F:Nat):aS aE:=(atr F).gm 70 0 F ⟨[0,1,16,17],[.p (.B 0),lL,lL,lL],[Jf,Jd,.r 3 true,.m 3 3],[⟨.nm,[],[],[Jf,Jd,.r 3 true,.m 3 3]⟩],λ k d=>Dz F k d.1.2.1 d.1.2.2.1 d.1.2.2.2.1 d.2.1.2.1 d.2.1.2.2.1 d.2.1.2.2.2.1 d.2.1.2.2.2.2.1 d.2.1.2.2.2.2.2.1 d.2.2.1.2.1 d.2.2.1.2.2.1 d.2.2.1.2.2.2.1 d.2.2.1.2.2.2.2.1 d.2.2.1.2.2.2.2.2.1 d.2.2.1.2.2.2.2.2.2.1 d.2.2.2.1 d.2.2.2.2.1⟩ ⟨λ d=>by kernel_rfl,λ k da db=>by kernel_rfl⟩
def Oy(F:Nat)(b:Int)(d:List al)(e:List Int)(tf:List (List I.Field))(f:List (List (List UInt8)))(g:List (List I.Target))(h:Int)(i:Int)(j:Int)(k:Int)(l:List Int)(m:Int)(c:List Int)(n:List (Int×Int)):Option ard:=(idx c (ap (b+1))).bind λ o=>
(Dz F F b o 0 d e tf f g h i j k l m c n).bind λ a=>
some ((),((),a.2.1.2.1,a.2.1.2.2.1,a.2.1.2.2.2.1,a.2.1.2.2.2.2.1,a.2.1.2.2.2.2.2.1,(),()),((),a.2.2.1.2.1,a.2.2.1.2.2.1,a.2.2.1.2.2.2.1,a.2.2.1.2.2.2.2.1,a.2.2.1.2.2.2.2.2.1,a.2.2.1.2.2.2.2.2.2.1,()),a.2.2.2.1,a.2.2.2.2.1,())
def atu(F:Nat):aS aE:=(ats F).fn 70 ⟨[.p (.B 0),lL],[Jf,Jd,.r 3 true,.m 3 3],[],[Jf,Jd,.r 3 true,.m 3 3],λ d=>Oy F d.1.2.1 d.2.1.2.1 d.2.1.2.2.1 d.2.1.2.2.2.1 d.2.1.2.2.2.2.1 d.2.1.2.2.2.2.2.1 d.2.2.1.2.1 d.2.2.1.2.2.1 d.2.2.1.2.2.2.1 d.2.2.1.2.2.2.2.1 d.2.2.1.2.2.2.2.2.1 d.2.2.1.2.2.2.2.2.2.1 d.2.2.2.1 d.2.2.2.2.1⟩ λ da db=>by kernel_rfl
def Hf(F:Nat):Nat->(Int)->(List Int)->(Int)->(Int)->(Int)->(Int)->(Int)->(Int)->(List Int)->(Int)->(List Int)->(List al)->(List Int)->(List (List I.Field))->(List (List (List UInt8)))->(List (List I.Target))->(List (Int×Int))->(List Int)->Option ((Unit×Unit×Int×Unit)×
 Ow×List Int×Ub×List (Int×Int)×List Int×Unit)
 |0,_,_,_,_,_,_,_,_,_,_,_,_,_,_,_,_,_,_=>none
 |aQ+1,c,d,e,a,f,g,h,i,j,k,l,m,n,o,p,q,r,b=>cond (decide (a<e)) ((idx d a).bind λ s=>
(idx b s).bind λ C7=>
(xG F C7 m n o p q f g h i j k l r).bind λ kE=>
Hf F aQ c d e (ap (a+1)) kE.2.2.1.2.1 kE.2.2.1.2.2.1 kE.2.2.1.2.2.2.1 kE.2.2.1.2.2.2.2.1 kE.2.2.1.2.2.2.2.2.1 kE.2.2.1.2.2.2.2.2.2.1 kE.2.2.2.1 kE.2.1.2.1 kE.2.1.2.2.1 kE.2.1.2.2.2.1 kE.2.1.2.2.2.2.1 kE.2.1.2.2.2.2.2.1 kE.2.2.2.2.1 (b.set s.toNat kE.1.1)) (
some (((),(),c,()),((),f,g,h,i,j,k,()),l,((),m,n,o,p,q,(),()),r,b,()))
def atv(F:Nat):aS aE:=(atu F).gm 38 0 F ⟨[0,6,7,22,23,24],[.p (.B 0),.p (.B 2),lL,.p (.P 4 1),lL,lL],[CD,.r 3 true,Jg,.m 3 3,.r 3 true],[⟨.nm,[0,6,7],[.p (.B 0),.p (.B 2),lL],[CD,.r 3 true,Jg,.m 3 3,.r 3 true]⟩],λ k d=>Hf F k d.1.2.2.1 d.1.2.2.2.1 d.1.2.2.2.2.1 d.1.2.2.2.2.2.1 d.2.1.2.1 d.2.1.2.2.1 d.2.1.2.2.2.1 d.2.1.2.2.2.2.1 d.2.1.2.2.2.2.2.1 d.2.1.2.2.2.2.2.2.1 d.2.2.1 d.2.2.2.1.2.1 d.2.2.2.1.2.2.1 d.2.2.2.1.2.2.2.1 d.2.2.2.1.2.2.2.2.1 d.2.2.2.1.2.2.2.2.2.1 d.2.2.2.2.1 d.2.2.2.2.2.1⟩ ⟨λ d=>by kernel_rfl,λ k da db=>by kernel_rfl⟩
def Hg(F:Nat):Nat->(Int)->(List Int)->(Int)->(Int)->(Int)->(Int)->(Int)->(Int)->(List Int)->(Int)->(List Int)->(List al)->(List Int)->(List (List I.Field))->(List (List (List UInt8)))->(List (List I.Target))->(List (Int×Int))->Option ((Unit×Unit×Int×Unit)×
 Ow×List Int×Ub×List (Int×Int)×Unit)
 |0,_,_,_,_,_,_,_,_,_,_,_,_,_,_,_,_,_=>none
 |aQ+1,h,nE,oA,f,i,j,k,l,m,n,o,p,q,b,c,d,e=>cond (decide (f<oA)) ((idx nE f).bind λ g=>
(Oy F g p q b c d i j k l m n o e).bind λ a=>
Hg F aQ h nE oA (ap (f+1)) a.2.2.1.2.1 a.2.2.1.2.2.1 a.2.2.1.2.2.2.1 a.2.2.1.2.2.2.2.1 a.2.2.1.2.2.2.2.2.1 a.2.2.1.2.2.2.2.2.2.1 a.2.2.2.1 a.2.1.2.1 a.2.1.2.2.1 a.2.1.2.2.2.1 a.2.1.2.2.2.2.1 a.2.1.2.2.2.2.2.1 a.2.2.2.2.1) (
some (((),(),h,()),((),i,j,k,l,m,n,()),o,((),p,q,b,c,d,(),()),e,()))
def atw(F:Nat):aS aE:=(atv F).gm 38 2 F ⟨[0,6,7,39,40,41],[.p (.B 0),.p (.B 2),lL,lO,lL,lL],[CD,.r 3 true,Jg,.m 3 3],[⟨.nm,[0,6,7],[.p (.B 0),.p (.B 2),lL],[CD,.r 3 true,Jg,.m 3 3]⟩],λ k d=>Hg F k d.1.2.2.1 d.1.2.2.2.1 d.1.2.2.2.2.1 d.1.2.2.2.2.2.1 d.2.1.2.1 d.2.1.2.2.1 d.2.1.2.2.2.1 d.2.1.2.2.2.2.1 d.2.1.2.2.2.2.2.1 d.2.1.2.2.2.2.2.2.1 d.2.2.1 d.2.2.2.1.2.1 d.2.2.2.1.2.2.1 d.2.2.2.1.2.2.2.1 d.2.2.2.1.2.2.2.2.1 d.2.2.2.1.2.2.2.2.2.1 d.2.2.2.2.1⟩ ⟨λ d=>by kernel_rfl,λ k da db=>by kernel_rfl⟩
def Hh(F:Nat):Nat->(Int)->(Int)->(Int)->(Int)->(Int)->(List Int)->(Int)->(List Int)->(List al)->(List Int)->(List (List I.Field))->(List (List (List UInt8)))->(List (List I.Target))->(List (Int×Int))->Option ((Unit×Unit)×Ow×List Int×Ub×List (Int×Int)×Unit)
 |0,_,_,_,_,_,_,_,_,_,_,_,_,_,_=>none
 |aQ+1,b,d,e,f,c,g,h,i,j,k,l,m,n,o=>cond (decide (b<c)) ((Oy F b j k l m n d e f c g h i o).bind λ a=>
(idx a.2.2.2.1 (ap (b+1))).bind λ p=>
Hh F aQ (ap (b+ap (3+p))) a.2.2.1.2.1 a.2.2.1.2.2.1 a.2.2.1.2.2.2.1 a.2.2.1.2.2.2.2.1 a.2.2.1.2.2.2.2.2.1 a.2.2.1.2.2.2.2.2.2.1 a.2.2.2.1 a.2.1.2.1 a.2.1.2.2.1 a.2.1.2.2.2.1 a.2.1.2.2.2.2.1 a.2.1.2.2.2.2.2.1 a.2.2.2.2.1) (
some (((),()),((),d,e,f,c,g,h,()),i,((),j,k,l,m,n,(),()),o,()))
def atx(F:Nat):aS aE:=(atw F).gm 38 4 F ⟨[0,6,12],[.p (.B 0),.p (.B 2),lL],[CD,.r 3 true,Jg,.m 3 3],[⟨.nm,[0],[.p (.B 0)],[CD,.r 3 true,Jg,.m 3 3]⟩],λ k d=>Hh F k d.1.2.2.1 d.2.1.2.1 d.2.1.2.2.1 d.2.1.2.2.2.1 d.2.1.2.2.2.2.1 d.2.1.2.2.2.2.2.1 d.2.1.2.2.2.2.2.2.1 d.2.2.1 d.2.2.2.1.2.1 d.2.2.2.1.2.2.1 d.2.2.2.1.2.2.2.1 d.2.2.2.1.2.2.2.2.1 d.2.2.2.1.2.2.2.2.2.1 d.2.2.2.2.1⟩ ⟨λ d=>by kernel_rfl,λ k da db=>by kernel_rfl⟩
def An(F:Nat)(e:List al)(f:List Int)(g:List (List I.Field))(h:List (List (List UInt8)))(i:List (List I.Target))(c:List Int)(j:Int)(k:Int)(l:Int)(d:Int)(m:List Int)(n:Int)(o:List Int)(p:List Int):Option (Unit×Ow×List Int×List Int×Unit):=(Hf F F d c (↑c.length:Int) 0 j k l d m n o e f g h i [] p).bind λ a=>
(Hg F F a.1.2.2.1 a.2.1.2.2.2.2.2.1 (↑(hr a.2.1.2.2.2.2.2.1):Int) 0 a.2.1.2.1 a.2.1.2.2.1 a.2.1.2.2.2.1
 a.2.1.2.2.2.2.1 a.2.1.2.2.2.2.2.1 a.2.1.2.2.2.2.2.2.1 a.2.2.1 a.2.2.2.1.2.1 a.2.2.2.1.2.2.1 a.2.2.2.1.2.2.2.1
 a.2.2.2.1.2.2.2.2.1 a.2.2.2.1.2.2.2.2.2.1 a.2.2.2.2.1).bind λ b=>
(Hh F F b.1.2.2.1 b.2.1.2.1 b.2.1.2.2.1 b.2.1.2.2.2.1 b.2.1.2.2.2.2.1 b.2.1.2.2.2.2.2.1 b.2.1.2.2.2.2.2.2.1 b.2.2.1
 b.2.2.2.1.2.1 b.2.2.2.1.2.2.1 b.2.2.2.1.2.2.2.1 b.2.2.2.1.2.2.2.2.1 b.2.2.2.1.2.2.2.2.2.1 b.2.2.2.2.1).bind λ pk=>
(if(0 :Int)<=1/\1<=ap (pk.2.1.2.1+1)/\ap (pk.2.1.2.1+1)<=(↑(hr pk.2.2.1):Int)then some ()else none).bind λ q=>
(zC (decide (1<ap (pk.2.1.2.1+1)))).bind λ r=>
some ((),((),pk.2.1.2.1,pk.2.1.2.2.1,1,pk.2.1.2.2.2.2.1,([]),pk.2.1.2.2.2.2.2.2.1,()),(gC pk.2.2.1 (Int.toNat 1) (eF (ap (pk.2.1.2.1+1)-1).toNat 0)),a.2.2.2.2.2.1,())
def aty(F:Nat):aS aE:=(atx F).fn 38 ⟨[.p (.B 0),al2,.p (.P 2 1)],[CD,.r 3 true,.r 3 true],[],[CD,.r 3 true,.r 3 true],λ d=>An F d.1.2.1.1 d.1.2.1.2.1 d.1.2.1.2.2.1 d.1.2.1.2.2.2.1 d.1.2.1.2.2.2.2.1 d.1.2.2.1 d.2.1.2.1 d.2.1.2.2.1 d.2.1.2.2.2.1 d.2.1.2.2.2.2.1 d.2.1.2.2.2.2.2.1 d.2.1.2.2.2.2.2.2.1 d.2.2.1 d.2.2.2.1⟩ λ da db=>by kernel_rfl
def aex(F:Nat)(i:List Int)(a:Int)(b:Int)(c:Int)(d:Int)(j:List Int)(k:Int)(w:List al)(x:List Int)(y:List (List I.Field))(z:List (List (List UInt8)))(A:List (List I.Target))(l:List Int):Option (((List Int×Int×Int×Int×Int×List Int×Int×Unit)×List Int×Int×Unit)×Unit):=dd (lc (mj F (aP.mk i a b c d j k) (aN.mk w x y z A))) (λ eg=>
cond (decide (eg.2=0)) ((Hd F
 (bp.mk (aP.mk eg.1.H.wO eg.1.H.ai eg.1.H.az eg.1.H.aI eg.1.H.aD eg.1.H.aJ eg.1.H.Next)
  (b4.mk (aN.mk eg.1.S.K.aV eg.1.S.K.aT eg.1.S.K.Fields eg.1.S.K.Names eg.1.S.K.aU)) eg.1.ai eg.1.az eg.1.dO)
 l).bind λ r=>
cond (decide (r=0)) (cond (decide (ap (ap (ap (ap (a+b)+1)-d)-ap (c-1))<0)) (some (((([]),0,0,0,0,([]),0,()),([]),8,()),())) (
cond (!decide (r=0)) (some (((([]),0,0,0,0,([]),0,()),([]),r,()),())) (
(nh (aP.mk i a b c d j k)).bind λ m=>
(bE 8 [] l).bind λ s=>
(rV F (↑s.length:Int)).bind λ B=>
(An F eg.1.S.K.aV eg.1.S.K.aT eg.1.S.K.Fields eg.1.S.K.Names eg.1.S.K.aU B m.ai m.az m.aI m.aD m.aJ m.Next m.wO s).bind λ e=>
some (((e.2.2.1,e.2.1.2.1,e.2.1.2.2.1,e.2.1.2.2.2.1,e.2.1.2.2.2.2.1,e.2.1.2.2.2.2.2.1,e.2.1.2.2.2.2.2.2.1,()),e.2.2.2.1,0,()),())))) (
cond (!decide (r=0)) (some (((([]),0,0,0,0,([]),0,()),([]),r,()),())) (
(nh (aP.mk i a b c d j k)).bind λ n=>
(bE 8 [] l).bind λ t=>
(rV F (↑t.length:Int)).bind λ C=>
(An F eg.1.S.K.aV eg.1.S.K.aT eg.1.S.K.Fields eg.1.S.K.Names eg.1.S.K.aU C n.ai n.az n.aI n.aD n.aJ n.Next n.wO t).bind λ f=>
some (((f.2.2.1,f.2.1.2.1,f.2.1.2.2.1,f.2.1.2.2.2.1,f.2.1.2.2.2.2.1,f.2.1.2.2.2.2.2.1,f.2.1.2.2.2.2.2.2.1,()),f.2.2.2.1,0,()),())))) (
cond (decide (eg.2=0)) (cond (decide (ap (ap (ap (ap (a+b)+1)-d)-ap (c-1))<0)) (some (((([]),0,0,0,0,([]),0,()),([]),8,()),())) (
cond (!decide (eg.2=0)) (some (((([]),0,0,0,0,([]),0,()),([]),eg.2,()),())) (
(nh (aP.mk i a b c d j k)).bind λ o=>
(bE 8 [] l).bind λ u=>
(rV F (↑u.length:Int)).bind λ D=>
(An F eg.1.S.K.aV eg.1.S.K.aT eg.1.S.K.Fields eg.1.S.K.Names eg.1.S.K.aU D o.ai o.az o.aI o.aD o.aJ o.Next o.wO u).bind λ g=>
some (((g.2.2.1,g.2.1.2.1,g.2.1.2.2.1,g.2.1.2.2.2.1,g.2.1.2.2.2.2.1,g.2.1.2.2.2.2.2.1,g.2.1.2.2.2.2.2.2.1,()),g.2.2.2.1,0,()),())))) (
cond (!decide (eg.2=0)) (some (((([]),0,0,0,0,([]),0,()),([]),eg.2,()),())) (
(nh (aP.mk i a b c d j k)).bind λ p=>
(bE 8 [] l).bind λ v=>
(rV F (↑v.length:Int)).bind λ E=>
(An F eg.1.S.K.aV eg.1.S.K.aT eg.1.S.K.Fields eg.1.S.K.Names eg.1.S.K.aU E p.ai p.az p.aI p.aD p.aJ p.Next p.wO v).bind λ h=>
some (((h.2.2.1,h.2.1.2.1,h.2.1.2.2.1,h.2.1.2.2.2.1,h.2.1.2.2.2.2.1,h.2.1.2.2.2.2.2.1,h.2.1.2.2.2.2.2.2.1,()),h.2.2.2.1,0,()),()))))) (λ q=>
cond (decide (q=0)) none (
cond (decide (q=0)) (cond (decide (ap (ap (ap (ap (a+b)+1)-d)-ap (c-1))<0)) (some (((([]),0,0,0,0,([]),0,()),([]),8,()),())) (
cond (!decide (q=0)) (some (((([]),0,0,0,0,([]),0,()),([]),q,()),())) (
(nh (aP.mk i a b c d j k)).bind λ G=>
(bE 8 [] l).bind λ H=>
none))) (
cond (!decide (q=0)) (some (((([]),0,0,0,0,([]),0,()),([]),q,()),())) (
(nh (aP.mk i a b c d j k)).bind λ J=>
(bE 8 [] l).bind λ K=>
none))))
def atz(F:Nat):aS aE:=(aty F).fn 12 ⟨[al1,al2,lO],[],[al1,lO,lL],[],λ d=>aex F d.1.1.1 d.1.1.2.1 d.1.1.2.2.1 d.1.1.2.2.2.1 d.1.1.2.2.2.2.1 d.1.1.2.2.2.2.2.1 d.1.1.2.2.2.2.2.2.1 d.1.2.1.1 d.1.2.1.2.1 d.1.2.1.2.2.1 d.1.2.1.2.2.2.1 d.1.2.1.2.2.2.2.1 d.1.2.2.1⟩ λ da db=>by kernel_rfl
def Ec(F:Nat):Nat->(List Int)->(Int)->(Int)->Option ((Int×Unit)×Unit⊕Unit×Unit)
 |0,_,_,_=>none
 |aQ+1,b,c,a=>cond (decide (a<(↑b.length:Int))) ((idx b a).bind λ d=>
cond (decide (d=c)) (some (.inl ((a,()),()))) (
Ec F aQ b c (ap (a+1)))) (
some (.inr ((),())))
def atA(F:Nat):aS aE:=(atz F).gm 29 0 F ⟨[0,1,5],[lO,lL,lL],[],[⟨.rt,[4],[lL],[]⟩,⟨.nm,[],[],[]⟩],λ k d=>Ec F k d.1.1 d.1.2.1 d.1.2.2.1⟩ ⟨λ d=>by kernel_rfl,λ k da db=>by kernel_rfl⟩
def Eb(F:Nat)(a:List Int)(b:Int):Option ((Int×Unit)×Unit):=dd (Ec F F a b 0) (λ c=>
some ((c.1.1,()),())) (λ d=>
some (((-1),()),()))
def atB(F:Nat):aS aE:=(atA F).fn 29 ⟨[lO,lL],[],[lL],[],λ d=>Eb F d.1.1 d.1.2.1⟩ λ da db=>by kernel_rfl
def atC(F:Nat):aS aE:=(atB F).tT 43
def atD(F:Nat):aS aE:=(atC F).tT 29
set_option maxRecDepth 100000
@[reducible] def fi:bJ:=.c 24 [.l 3,lS,lS,lS,lS,.l 3,lS]
@[reducible] def Ji:bJ:=.c 24 [.R 7,lS,lS,lS,lS,.l 3,lS]
@[reducible] def RV:bJ:=.c 24 [.R 6,lS,lS,lS,lS,.l 3,lS]
@[reducible] def MX:cy:=.a [.l 3,lS,lS,lS,lS,.l 3,lS]
@[reducible] def lb:bJ:=.c 30 [.l 134,.l 3,.l 124,.l 120,.l 121]
@[reducible] def aao:cy:=.a [.l 134,.l 3,.l 124,.l 120,.l 121]
abbrev arf:=(Unit×
 (List Int×Int×Int×Int×Int×List Int×Int×Unit)×
  (List al×List Int×List (List I.Field)×List (List (List UInt8))×List (List I.Target)×Unit)×
   (Unit×Unit)×(List Int×Unit)×(Unit×Unit)×List Int×(Unit×Int×Int×Int×Int×List Int×Int×Unit)×List Int×Unit)
abbrev Dx:=(List al×List Int×List (List I.Field)×List (List (List UInt8))×List (List I.Target)×Unit)
abbrev arh:=(List Int×Unit×Unit×Unit×Unit×(Unit×Unit×Unit)×Int×Unit)
abbrev ari:=(List Int×Unit×Unit×Unit×Unit×(Unit×Unit×Unit)×Unit)
abbrev lB:=(List Int×Int×Int×Int×Int×List Int×Int×Unit)
abbrev aev:=(Unit×Int×Int×Int×Int×List Int×Int×Unit)
def KD(F:Nat)(a:Int)(b:List Int)(c:List Int):Option ((Int×Unit)×(List Int×Unit)×(Unit×Unit)×List Int×Unit):=(Eb F b a).bind λ d=>
cond (decide (a=0)||decide (d.1.1<0)) (some ((a,()),(b,()),((),()),c,())) (
(idx c d.1.1).bind λ e=>
some ((e,()),(b,()),((),()),c,()))
def atF(F:Nat):aS aE:=(atD F).fn 72 ⟨[lL,.p (.B 0),.p (.B 1)],[.c 22 [.l 3],.c 22 [.R 2],.r 3 true],[lL],[.c 22 [.l 3],.c 22 [.R 2],.r 3 true],λ d=>KD F d.1.1 d.2.1.1 d.2.2.2.1⟩ λ da db=>by kernel_rfl
def vM(F:Nat):Nat->(Int)->(Int)->(Int)->(List Int)->(Int)->(Int)->(Int)->(Int)->(List Int)->(Int)->(List al)->(List Int)->(List (List I.Field))->(List (List (List UInt8)))->(List (List I.Target))->(List Int)->(List Int)->(Int)->(Int)->(Int)->(Int)->(List Int)->(Int)->(List Int)->Option arf
 |0,_,_,_,_,_,_,_,_,_,_,_,_,_,_,_,_,_,_,_,_,_,_,_,_=>none
 |aQ+1,e,b,a,c,k,l,m,n,o,p,f,g,h,i,j,q,r,s,tf,t,u,v,w,d=>(idx c (ap (e+1))).bind λ z=>
cond (decide (a<ap (3+z))) ((idx c (ap (e+a))).bind λ x=>
cond (decide (3<=a)) ((idx c e).bind λ A=>
(vK (aN.mk f g h i j) A (ap (a-3))).bind λ B=>
cond B ((KD F x q r).bind λ y=>
(idx d (ap (b+a))).bind λ C=>
vM F aQ e b (ap (a+1)) c k l m n o p f g h i j y.2.1.1 y.2.2.2.1 s tf t u v w (d.set (ap (b+a)).toNat y.1.1)) (
(idx d (ap (b+a))).bind λ D=>
vM F aQ e b (ap (a+1)) c k l m n o p f g h i j q r s tf t u v w (d.set (ap (b+a)).toNat x))) (
(idx d (ap (b+a))).bind λ E=>
vM F aQ e b (ap (a+1)) c k l m n o p f g h i j q r s tf t u v w (d.set (ap (b+a)).toNat x))) (
some ((),(c,k,l,m,n,o,p,()),(f,g,h,i,j,()),((),()),(q,()),((),()),r,((),s,tf,t,u,v,w,()),d,()))
def atG(F:Nat):aS aE:=(atF F).gm 73 0 F ⟨[0,1,2,3,4,5,8],[lL,lL,.p (.B 0),.p (.B 1),.p (.B 2),.p (.B 6),lL],[fi,lb,.c 110 [.F 72 [3,4]],.c 22 [.l 3],.c 22 [.R 5],.r 3 true,Ji,.r 3 true],[⟨.nm,[],[],[fi,lb,.c 110 [.F 72 [3,4]],.c 22 [.l 3],.c 22 [.R 5],.r 3 true,Ji,.r 3 true]⟩],λ k d=>vM F k d.1.1 d.1.2.1 d.1.2.2.2.2.2.2.1 d.2.1.1 d.2.1.2.1 d.2.1.2.2.1 d.2.1.2.2.2.1 d.2.1.2.2.2.2.1 d.2.1.2.2.2.2.2.1 d.2.1.2.2.2.2.2.2.1 d.2.2.1.1 d.2.2.1.2.1 d.2.2.1.2.2.1 d.2.2.1.2.2.2.1 d.2.2.1.2.2.2.2.1 d.2.2.2.2.1.1 d.2.2.2.2.2.2.1 d.2.2.2.2.2.2.2.1.2.1 d.2.2.2.2.2.2.2.1.2.2.1 d.2.2.2.2.2.2.2.1.2.2.2.1 d.2.2.2.2.2.2.2.1.2.2.2.2.1 d.2.2.2.2.2.2.2.1.2.2.2.2.2.1 d.2.2.2.2.2.2.2.1.2.2.2.2.2.2.1 d.2.2.2.2.2.2.2.2.1⟩ ⟨λ d=>by kernel_rfl,λ k da db=>by kernel_rfl⟩
def KE(F:Nat)(o:Int)(p:Int)(Ds:List Int)(Dt:Int)(q:Int)(r:Int)(s:Int)(t:List Int)(u:Int)(a:List al)(b:List Int)(c:List (List I.Field))(d:List (List (List UInt8)))(e:List (List I.Target))(f:List Int)(g:List Int)(h:Int)(i:Int)(j:Int)(k:Int)(l:List Int)(m:Int)(n:List Int):Option arf:=(vM F F o p 0 Ds Dt q r s t u a b c d e f g h i j k l m n).bind λ kD=>
some ((),(kD.2.1.1,kD.2.1.2.1,kD.2.1.2.2.1,kD.2.1.2.2.2.1,kD.2.1.2.2.2.2.1,kD.2.1.2.2.2.2.2.1,kD.2.1.2.2.2.2.2.2.1,()),(kD.2.2.1.1,kD.2.2.1.2.1,kD.2.2.1.2.2.1,kD.2.2.1.2.2.2.1,kD.2.2.1.2.2.2.2.1,()),((),()),(kD.2.2.2.2.1.1,()),((),()),kD.2.2.2.2.2.2.1,((),kD.2.2.2.2.2.2.2.1.2.1,kD.2.2.2.2.2.2.2.1.2.2.1,kD.2.2.2.2.2.2.2.1.2.2.2.1,kD.2.2.2.2.2.2.2.1.2.2.2.2.1,kD.2.2.2.2.2.2.2.1.2.2.2.2.2.1,kD.2.2.2.2.2.2.2.1.2.2.2.2.2.2.1,()),kD.2.2.2.2.2.2.2.2.1,())
def atH(F:Nat):aS aE:=(atG F).fn 73 ⟨[lL,lL,.p (.B 0),.p (.B 1),.p (.B 2),.p (.B 6)],[fi,lb,.c 110 [.F 72 [3,4]],.c 22 [.l 3],.c 22 [.R 5],.r 3 true,Ji,.r 3 true],[],[fi,lb,.c 110 [.F 72 [3,4]],.c 22 [.l 3],.c 22 [.R 5],.r 3 true,Ji,.r 3 true],λ d=>KE F d.1.1 d.1.2.1 d.2.1.1 d.2.1.2.1 d.2.1.2.2.1 d.2.1.2.2.2.1 d.2.1.2.2.2.2.1 d.2.1.2.2.2.2.2.1 d.2.1.2.2.2.2.2.2.1 d.2.2.1.1 d.2.2.1.2.1 d.2.2.1.2.2.1 d.2.2.1.2.2.2.1 d.2.2.1.2.2.2.2.1 d.2.2.2.2.1.1 d.2.2.2.2.2.2.1 d.2.2.2.2.2.2.2.1.2.1 d.2.2.2.2.2.2.2.1.2.2.1 d.2.2.2.2.2.2.2.1.2.2.2.1 d.2.2.2.2.2.2.2.1.2.2.2.2.1 d.2.2.2.2.2.2.2.1.2.2.2.2.2.1 d.2.2.2.2.2.2.2.1.2.2.2.2.2.2.1 d.2.2.2.2.2.2.2.2.1⟩ λ da db=>by kernel_rfl
def AW(F:Nat):Nat->(Int)->(List Int)->(Int)->(Int)->(List Int)->(Int)->(Int)->(Int)->(Int)->(List Int)->(Int)->(List al)->(List Int)->(List (List I.Field))->(List (List (List UInt8)))->(List (List I.Target))->(List Int)->(List Int)->(Int)->(Int)->(Int)->(Int)->(List Int)->(Int)->(List Int)->Option ((Int×List Int×Unit×Unit×Unit×Unit×Unit×Int×Unit)×
 lB×
  Dx×(List Int×Unit)×lB×(Unit×Unit)×List Int×Unit)
 |0,_,_,_,_,_,_,_,_,_,_,_,_,_,_,_,_,_,_,_,_,_,_,_,_,_=>none
 |aQ+1,d,e,b,qv,c,f,g,h,i,j,k,l,m,n,o,p,a,q,r,s,t,u,v,nE,oA=>cond (decide (qv<(↑a.length:Int))) ((bE 8 oA [b]).bind λ w=>
(idx a qv).bind λ x=>
(idx c (ap (x+1))).bind λ y=>
AW F aQ d e (ap (b+ap (3+y))) (ap (qv+1)) c f g h i j k l m n o p a q r s t u v nE w) (
some ((d,e,(),(),(),(),(),b,()),(c,f,g,h,i,j,k,()),(l,m,n,o,p,()),(a,()),(q,r,s,t,u,v,nE,()),((),()),oA,()))
def atI(F:Nat):aS aE:=(atH F).gm 45 0 F ⟨[3,4,5,6,7,10,12,13,14],[lL,lO,.p (.B 0),.p (.B 1),.p (.B 2),.p (.B 3),.p (.B 4),lL,lL],[fi,lb,.c 22 [.l 3],fi,.c 22 [.R 5],.r 3 false],[⟨.nm,[3,4,5,6,7,10,12,13],[lL,lO,.p (.B 0),.p (.B 1),.p (.B 2),.p (.B 3),.p (.B 4),lL],[fi,lb,.c 22 [.l 3],fi,.c 22 [.R 5],.r 3 false]⟩],λ k d=>AW F k d.1.1 d.1.2.1 d.1.2.2.2.2.2.2.2.1 d.1.2.2.2.2.2.2.2.2.1 d.2.1.1 d.2.1.2.1 d.2.1.2.2.1 d.2.1.2.2.2.1 d.2.1.2.2.2.2.1 d.2.1.2.2.2.2.2.1 d.2.1.2.2.2.2.2.2.1 d.2.2.1.1 d.2.2.1.2.1 d.2.2.1.2.2.1 d.2.2.1.2.2.2.1 d.2.2.1.2.2.2.2.1 d.2.2.2.1.1 d.2.2.2.2.1.1 d.2.2.2.2.1.2.1 d.2.2.2.2.1.2.2.1 d.2.2.2.2.1.2.2.2.1 d.2.2.2.2.1.2.2.2.2.1 d.2.2.2.2.1.2.2.2.2.2.1 d.2.2.2.2.1.2.2.2.2.2.2.1 d.2.2.2.2.2.2.1⟩ ⟨λ d=>by kernel_rfl,λ k da db=>by kernel_rfl⟩
def HE(F:Nat):Nat->(Int)->(List Int)->(Int)->(List Int)->(Int)->(Int)->(Int)->(Int)->(List Int)->(Int)->(List Int)->(List Int)->(Int)->(Int)->(Int)->(Int)->(List Int)->(Int)->(List Int)->(Int)->(Int)->(Int)->(Int)->(List Int)->(Int)->(List Int)->(List al)->(List Int)->(List (List I.Field))->(List (List (List UInt8)))->(List (List I.Target))->Option ((List Int×Unit×Unit×Unit×Unit×Unit×(Unit×Unit×Unit×Unit×Unit)×Unit)×
 lB×
  (List Int×Unit)×
   lB×
    (Unit×Unit)×List Int×(Unit×Unit)×aev×List Int×Dx×Unit)
 |0,_,_,_,_,_,_,_,_,_,_,_,_,_,_,_,_,_,_,_,_,_,_,_,_,_,_,_,_,_,_,_=>none
 |aQ+1,c,d,b,e,f,g,h,i,j,k,l,m,n,o,p,q,r,s,t,u,v,w,x,y,z,A,B,pk,C,D,E=>cond (decide (b<c)) ((KE F b b e f g h i j k B pk C D E l t u v w x y z A).bind λ a=>
(idx a.2.1.1 (ap (b+1))).bind λ G=>
HE F aQ c d (ap (b+ap (3+G))) a.2.1.1 a.2.1.2.1 a.2.1.2.2.1 a.2.1.2.2.2.1 a.2.1.2.2.2.2.1 a.2.1.2.2.2.2.2.1 a.2.1.2.2.2.2.2.2.1 a.2.2.2.2.1.1 m n o p q r s a.2.2.2.2.2.2.1 a.2.2.2.2.2.2.2.1.2.1 a.2.2.2.2.2.2.2.1.2.2.1 a.2.2.2.2.2.2.2.1.2.2.2.1 a.2.2.2.2.2.2.2.1.2.2.2.2.1 a.2.2.2.2.2.2.2.1.2.2.2.2.2.1 a.2.2.2.2.2.2.2.1.2.2.2.2.2.2.1 a.2.2.2.2.2.2.2.2.1 a.2.2.1.1 a.2.2.1.2.1 a.2.2.1.2.2.1 a.2.2.1.2.2.2.1 a.2.2.1.2.2.2.2.1) (
some ((d,(),(),(),(),(),((),(),(),(),()),()),(e,f,g,h,i,j,k,()),(l,()),(m,n,o,p,q,r,s,()),((),()),t,((),()),((),u,v,w,x,y,z,()),A,(B,pk,C,D,E,()),()))
def atJ(F:Nat):aS aE:=(atI F).gm 45 2 F ⟨[3,4,5,7,10,12,15,16,17,18],[lL,lO,.p (.B 0),.p (.B 1),.p (.B 2),.p (.B 3),.p (.B 5),.p (.B 6),.f 73 [.B 0,.B 8,.B 5,.B 6],lL],[fi,.c 22 [.l 3],fi,.c 22 [.R 4],.r 3 true,.c 110 [.F 72 [1,3]],Ji,.r 3 true,lb],[⟨.nm,[4,7,10,12,15,16,17],[lO,.p (.B 1),.p (.B 2),.p (.B 3),.p (.B 5),.p (.B 6),.f 73 [.B 0,.B 8,.B 5,.B 6]],[fi,.c 22 [.l 3],fi,.c 22 [.R 4],.r 3 true,.c 110 [.F 72 [1,3]],Ji,.r 3 true,lb]⟩],λ k d=>HE F k d.1.1 d.1.2.1 d.1.2.2.2.2.2.2.2.2.2.1 d.2.1.1 d.2.1.2.1 d.2.1.2.2.1 d.2.1.2.2.2.1 d.2.1.2.2.2.2.1 d.2.1.2.2.2.2.2.1 d.2.1.2.2.2.2.2.2.1 d.2.2.1.1 d.2.2.2.1.1 d.2.2.2.1.2.1 d.2.2.2.1.2.2.1 d.2.2.2.1.2.2.2.1 d.2.2.2.1.2.2.2.2.1 d.2.2.2.1.2.2.2.2.2.1 d.2.2.2.1.2.2.2.2.2.2.1 d.2.2.2.2.2.1 d.2.2.2.2.2.2.2.1.2.1 d.2.2.2.2.2.2.2.1.2.2.1 d.2.2.2.2.2.2.2.1.2.2.2.1 d.2.2.2.2.2.2.2.1.2.2.2.2.1 d.2.2.2.2.2.2.2.1.2.2.2.2.2.1 d.2.2.2.2.2.2.2.1.2.2.2.2.2.2.1 d.2.2.2.2.2.2.2.2.1 d.2.2.2.2.2.2.2.2.2.1.1 d.2.2.2.2.2.2.2.2.2.1.2.1 d.2.2.2.2.2.2.2.2.2.1.2.2.1 d.2.2.2.2.2.2.2.2.2.1.2.2.2.1 d.2.2.2.2.2.2.2.2.2.1.2.2.2.2.1⟩ ⟨λ d=>by kernel_rfl,λ k da db=>by kernel_rfl⟩
def AX(F:Nat):Nat->(List Int)->(Int)->(List Int)->(List Int)->(Int)->(Int)->(Int)->(Int)->(List Int)->(Int)->(List Int)->(Int)->(Int)->(Int)->(Int)->(List Int)->(Int)->(List Int)->(List Int)->(Int)->(Int)->(Int)->(Int)->(List Int)->(Int)->(List al)->(List Int)->(List (List I.Field))->(List (List (List UInt8)))->(List (List I.Target))->Option ((List Int×Unit×Unit×Unit×Unit)×
 (List Int×Unit)×
  lB×
   (Unit×Unit)×
    List Int×
     (Unit×Unit)×
      aev×
       List Int×lB×Dx×Unit)
 |0,_,_,_,_,_,_,_,_,_,_,_,_,_,_,_,_,_,_,_,_,_,_,_,_,_,_,_,_,_,_=>none
 |aQ+1,v,vn,r,w,x,y,z,A,B,C,s,D,E,G,b,c,d,e,f,g,h,i,j,k,l,m,n,o,p,q=>cond (decide (vn<(↑r.length:Int))) ((idx r vn).bind λ t=>
(idx s vn).bind λ u=>
(KE F t u f g h i j k l m n o p q r s D E G b c d e).bind λ a=>
AX F aQ v (ap (vn+1)) a.2.2.2.2.1.1 w x y z A B C a.2.2.2.2.2.2.1 a.2.2.2.2.2.2.2.1.2.1 a.2.2.2.2.2.2.2.1.2.2.1 a.2.2.2.2.2.2.2.1.2.2.2.1 a.2.2.2.2.2.2.2.1.2.2.2.2.1 a.2.2.2.2.2.2.2.1.2.2.2.2.2.1 a.2.2.2.2.2.2.2.1.2.2.2.2.2.2.1 a.2.2.2.2.2.2.2.2.1 a.2.1.1 a.2.1.2.1 a.2.1.2.2.1 a.2.1.2.2.2.1 a.2.1.2.2.2.2.1 a.2.1.2.2.2.2.2.1 a.2.1.2.2.2.2.2.2.1 a.2.2.1.1 a.2.2.1.2.1 a.2.2.1.2.2.1 a.2.2.1.2.2.2.1 a.2.2.1.2.2.2.2.1) (
some ((v,(),(),(),()),(r,()),(w,x,y,z,A,B,C,()),((),()),s,((),()),((),D,E,G,b,c,d,()),e,(f,g,h,i,j,k,l,()),(m,n,o,p,q,()),()))
def atK(F:Nat):aS aE:=(atJ F).gm 45 4 F ⟨[4,7,10,12,15,16,17,19],[lO,.p (.B 0),.p (.B 1),.p (.B 2),.p (.B 4),.p (.B 5),.f 73 [.B 7,.B 8,.B 4,.B 5],lL],[.c 22 [.l 3],fi,.c 22 [.R 3],.r 3 true,.c 110 [.F 72 [0,2]],RV,.r 3 true,fi,lb],[⟨.nm,[4,10,15,16],[lO,.p (.B 1),.p (.B 4),.p (.B 5)],[.c 22 [.l 3],fi,.c 22 [.R 3],.r 3 true,.c 110 [.F 72 [0,2]],RV,.r 3 true,fi,lb]⟩],λ k d=>AX F k d.1.1 d.1.2.2.2.2.2.2.2.1 d.2.1.1 d.2.2.1.1 d.2.2.1.2.1 d.2.2.1.2.2.1 d.2.2.1.2.2.2.1 d.2.2.1.2.2.2.2.1 d.2.2.1.2.2.2.2.2.1 d.2.2.1.2.2.2.2.2.2.1 d.2.2.2.2.1 d.2.2.2.2.2.2.1.2.1 d.2.2.2.2.2.2.1.2.2.1 d.2.2.2.2.2.2.1.2.2.2.1 d.2.2.2.2.2.2.1.2.2.2.2.1 d.2.2.2.2.2.2.1.2.2.2.2.2.1 d.2.2.2.2.2.2.1.2.2.2.2.2.2.1 d.2.2.2.2.2.2.2.1 d.2.2.2.2.2.2.2.2.1.1 d.2.2.2.2.2.2.2.2.1.2.1 d.2.2.2.2.2.2.2.2.1.2.2.1 d.2.2.2.2.2.2.2.2.1.2.2.2.1 d.2.2.2.2.2.2.2.2.1.2.2.2.2.1 d.2.2.2.2.2.2.2.2.1.2.2.2.2.2.1 d.2.2.2.2.2.2.2.2.1.2.2.2.2.2.2.1 d.2.2.2.2.2.2.2.2.2.1.1 d.2.2.2.2.2.2.2.2.2.1.2.1 d.2.2.2.2.2.2.2.2.2.1.2.2.1 d.2.2.2.2.2.2.2.2.2.1.2.2.2.1 d.2.2.2.2.2.2.2.2.2.1.2.2.2.2.1⟩ ⟨λ d=>by kernel_rfl,λ k da db=>by kernel_rfl⟩
def AY(F:Nat):Nat->(List Int)->(Int)->(List Int)->(Int)->(Int)->(Int)->(Int)->(List Int)->(Int)->(List Int)->(List Int)->(Int)->(Int)->(Int)->(Int)->(List Int)->(Int)->(List Int)->(List Int)->Option ((Unit×Unit×Unit×Unit)×lB×(Unit×Unit)×(List Int×Unit)×(Unit×Unit)×List Int×aev×List Int×List Int×Unit)
 |0,_,_,_,_,_,_,_,_,_,_,_,_,_,_,_,_,_,_,_=>none
 |aQ+1,a,b,d,e,f,g,h,i,j,k,l,m,n,o,p,q,app,r,s=>cond (decide (b<(↑a.length:Int))) ((idx a b).bind λ t=>
(KD F t k l).bind λ c=>
(bE 8 s [c.1.1]).bind λ u=>
AY F aQ a (ap (b+1)) d e f g h i j c.2.1.1 c.2.2.2.1 m n o p q app r u) (
some (((),(),(),()),(d,e,f,g,h,i,j,()),((),()),(k,()),((),()),l,((),m,n,o,p,q,app,()),r,s,()))
def atL(F:Nat):aS aE:=(atK F).gm 45 6 F ⟨[4,10,15,16,20,21],[lO,.p (.B 0),.p (.B 1),.p (.B 5),.p (.R 7),lL],[fi,.c 110 [.F 72 [2,3]],.c 22 [.l 3],.c 22 [.R 4],.r 3 true,RV,.r 3 true,.r 3 false],[⟨.nm,[10,16,20],[.p (.B 0),.p (.B 5),.p (.R 7)],[fi,.c 110 [.F 72 [2,3]],.c 22 [.l 3],.c 22 [.R 4],.r 3 true,RV,.r 3 true,.r 3 false]⟩],λ k d=>AY F k d.1.1 d.1.2.2.2.2.2.1 d.2.1.1 d.2.1.2.1 d.2.1.2.2.1 d.2.1.2.2.2.1 d.2.1.2.2.2.2.1 d.2.1.2.2.2.2.2.1 d.2.1.2.2.2.2.2.2.1 d.2.2.2.1.1 d.2.2.2.2.2.1 d.2.2.2.2.2.2.1.2.1 d.2.2.2.2.2.2.1.2.2.1 d.2.2.2.2.2.2.1.2.2.2.1 d.2.2.2.2.2.2.1.2.2.2.2.1 d.2.2.2.2.2.2.1.2.2.2.2.2.1 d.2.2.2.2.2.2.1.2.2.2.2.2.2.1 d.2.2.2.2.2.2.2.1 d.2.2.2.2.2.2.2.2.1⟩ ⟨λ d=>by kernel_rfl,λ k da db=>by kernel_rfl⟩
def tD(F:Nat)(f:List Int)(g:Int)(h:Int)(i:Int)(j:Int)(k:List Int)(l:Int)(m:List al)(n:List Int)(o:List (List I.Field))(p:List (List (List UInt8)))(q:List (List I.Target))(r:List Int)(e:Int)(s:List Int):Option ((lB×List Int×Unit)×Unit):=(AW F F e s e 0 f g h i j k l m n o p q r [] 0 0 0 0 [] 0 []).bind λ a=>
(ri 0 8 (↑(hr a.2.1.1):Int)).bind λ t=>
(HE F F a.1.1 a.1.2.1 (ap (a.2.1.2.1+1)) a.2.1.1 a.2.1.2.1 a.2.1.2.2.1 a.2.1.2.2.2.1 a.2.1.2.2.2.2.1
 a.2.1.2.2.2.2.2.1 a.2.1.2.2.2.2.2.2.1 a.2.2.2.1.1 a.2.2.2.2.1.1 a.2.2.2.2.1.2.1 a.2.2.2.2.1.2.2.1
 a.2.2.2.2.1.2.2.2.1 a.2.2.2.2.1.2.2.2.2.1 a.2.2.2.2.1.2.2.2.2.2.1 a.2.2.2.2.1.2.2.2.2.2.2.1 a.2.2.2.2.2.2.1
 a.2.1.2.1 a.2.1.2.2.1 1 a.1.2.2.2.2.2.2.2.1 [] a.2.1.2.2.2.2.2.2.1 t a.2.2.1.1 a.2.2.1.2.1 a.2.2.1.2.2.1
 a.2.2.1.2.2.2.1 a.2.2.1.2.2.2.2.1).bind λ b=>
(AX F F b.1.1 0 b.2.2.1.1 b.2.2.2.1.1 b.2.2.2.1.2.1 b.2.2.2.1.2.2.1 b.2.2.2.1.2.2.2.1 b.2.2.2.1.2.2.2.2.1
 b.2.2.2.1.2.2.2.2.2.1 b.2.2.2.1.2.2.2.2.2.2.1 b.2.2.2.2.2.1 b.2.2.2.2.2.2.2.1.2.1 b.2.2.2.2.2.2.2.1.2.2.1
 b.2.2.2.2.2.2.2.1.2.2.2.1 b.2.2.2.2.2.2.2.1.2.2.2.2.1 b.2.2.2.2.2.2.2.1.2.2.2.2.2.1 b.2.2.2.2.2.2.2.1.2.2.2.2.2.2.1
 b.2.2.2.2.2.2.2.2.1 b.2.1.1 b.2.1.2.1 b.2.1.2.2.1 b.2.1.2.2.2.1 b.2.1.2.2.2.2.1 b.2.1.2.2.2.2.2.1
 b.2.1.2.2.2.2.2.2.1 b.2.2.2.2.2.2.2.2.2.1.1 b.2.2.2.2.2.2.2.2.2.1.2.1 b.2.2.2.2.2.2.2.2.2.1.2.2.1
 b.2.2.2.2.2.2.2.2.2.1.2.2.2.1 b.2.2.2.2.2.2.2.2.2.1.2.2.2.2.1).bind λ c=>
(AY F F c.1.1 0 c.2.2.1.1 c.2.2.1.2.1 c.2.2.1.2.2.1 c.2.2.1.2.2.2.1 c.2.2.1.2.2.2.2.1 c.2.2.1.2.2.2.2.2.1
 c.2.2.1.2.2.2.2.2.2.1 c.2.1.1 c.2.2.2.2.1 c.2.2.2.2.2.2.1.2.1 c.2.2.2.2.2.2.1.2.2.1 c.2.2.2.2.2.2.1.2.2.2.1
 c.2.2.2.2.2.2.1.2.2.2.2.1 c.2.2.2.2.2.2.1.2.2.2.2.2.1 c.2.2.2.2.2.2.1.2.2.2.2.2.2.1 c.2.2.2.2.2.2.2.1 []).bind λ d=>
some (((d.2.2.2.2.2.2.2.1,d.2.2.2.2.2.2.1.2.1,d.2.2.2.2.2.2.1.2.2.1,d.2.2.2.2.2.2.1.2.2.2.1,d.2.2.2.2.2.2.1.2.2.2.2.1,d.2.2.2.2.2.2.1.2.2.2.2.2.1,d.2.2.2.2.2.2.1.2.2.2.2.2.2.1,()),d.2.2.2.2.2.2.2.2.1,()),())
def atM(F:Nat):aS aE:=(atL F).fn 45 ⟨[MX,aao,lO,lL,lO],[],[MX,lO],[],λ d=>tD F d.1.1.1 d.1.1.2.1 d.1.1.2.2.1 d.1.1.2.2.2.1 d.1.1.2.2.2.2.1 d.1.1.2.2.2.2.2.1 d.1.1.2.2.2.2.2.2.1 d.1.2.1.1 d.1.2.1.2.1 d.1.2.1.2.2.1 d.1.2.1.2.2.2.1 d.1.2.1.2.2.2.2.1 d.1.2.2.1 d.1.2.2.2.1 d.1.2.2.2.2.1⟩ λ da db=>by kernel_rfl
def D3(F:Nat)(g:Int)(a:List Int)(h:Int)(b:Int)(c:Int)(d:Int)(e:List Int)(f:Int)(i:List Int):Option (Unit×lB×(Unit×Unit)×List Int×Unit):=cond (decide (1<=g)&&decide (g<=h)) ((kU F i g).bind λ j=>
cond (!j) ((bE 8 i [g]).bind λ k=>
some ((),(a,h,b,c,d,e,f,()),((),()),k,())) (
some ((),(a,h,b,c,d,e,f,()),((),()),i,()))) (
some ((),(a,h,b,c,d,e,f,()),((),()),i,()))
def atN(F:Nat):aS aE:=(atM F).fn 41 ⟨[lL,.p (.B 0),.p (.B 1)],[fi,.c 22 [.R 2],.r 3 false],[],[fi,.c 22 [.R 2],.r 3 false],λ d=>D3 F d.1.1 d.2.1.1 d.2.1.2.1 d.2.1.2.2.1 d.2.1.2.2.2.1 d.2.1.2.2.2.2.1 d.2.1.2.2.2.2.2.1 d.2.1.2.2.2.2.2.2.1 d.2.2.2.1⟩ λ da db=>by kernel_rfl
def D4(F:Nat):Nat->(List Int)->(Int)->(List Int)->(Int)->(Int)->(Int)->(Int)->(List Int)->(Int)->(List al)->(List Int)->(List (List I.Field))->(List (List (List UInt8)))->(List (List I.Target))->(List Int)->(Int)->(Int)->(Int)->(Int)->(List Int)->(Int)->(List Int)->Option (ari×
 lB×
  Dx×lB×(Unit×Unit)×List Int×Unit)
 |0,_,_,_,_,_,_,_,_,_,_,_,_,_,_,_,_,_,_,_,_,_,_=>none
 |aQ+1,v,a,b,c,d,e,f,g,h,i,j,k,l,m,n,o,p,q,r,s,t,u=>cond (decide (a<(↑v.length:Int))) ((idx v a).bind λ w=>
(D3 F w b c d e f g h u).bind λ Dj=>
D4 F aQ v (ap (a+1)) Dj.2.1.1 Dj.2.1.2.1 Dj.2.1.2.2.1 Dj.2.1.2.2.2.1 Dj.2.1.2.2.2.2.1 Dj.2.1.2.2.2.2.2.1 Dj.2.1.2.2.2.2.2.2.1 i j k l m n o p q r s t Dj.2.2.2.1) (
some ((v,(),(),(),(),((),(),()),()),(b,c,d,e,f,g,h,()),(i,j,k,l,m,()),(n,o,p,q,r,s,t,()),((),()),u,()))
def atO(F:Nat):aS aE:=(atN F).gm 15 0 F ⟨[2,3,4,6,8,9,10],[lO,.p (.B 0),.p (.B 1),.p (.B 2),.p (.B 3),.f 41 [.B 0,.B 3],lL],[fi,lb,fi,.c 22 [.R 4],.r 3 false],[⟨.nm,[2,3,4,6,8,9],[lO,.p (.B 0),.p (.B 1),.p (.B 2),.p (.B 3),.f 41 [.B 0,.B 3]],[fi,lb,fi,.c 22 [.R 4],.r 3 false]⟩],λ k d=>D4 F k d.1.1 d.1.2.2.2.2.2.2.1 d.2.1.1 d.2.1.2.1 d.2.1.2.2.1 d.2.1.2.2.2.1 d.2.1.2.2.2.2.1 d.2.1.2.2.2.2.2.1 d.2.1.2.2.2.2.2.2.1 d.2.2.1.1 d.2.2.1.2.1 d.2.2.1.2.2.1 d.2.2.1.2.2.2.1 d.2.2.1.2.2.2.2.1 d.2.2.2.1.1 d.2.2.2.1.2.1 d.2.2.2.1.2.2.1 d.2.2.2.1.2.2.2.1 d.2.2.2.1.2.2.2.2.1 d.2.2.2.1.2.2.2.2.2.1 d.2.2.2.1.2.2.2.2.2.2.1 d.2.2.2.2.2.1⟩ ⟨λ d=>by kernel_rfl,λ k da db=>by kernel_rfl⟩
def D6(F:Nat):Nat->(List Int)->(Int)->(List Int)->(Int)->(List Int)->(Int)->(Int)->(Int)->(Int)->(List Int)->(Int)->(List al)->(List Int)->(List (List I.Field))->(List (List (List UInt8)))->(List (List I.Target))->(List Int)->(Int)->(Int)->(Int)->(Int)->(List Int)->(Int)->(List Int)->Option (arh×
 lB×
  Dx×lB×(Unit×Unit)×List Int×Unit)
 |0,_,_,_,_,_,_,_,_,_,_,_,_,_,_,_,_,_,_,_,_,_,_,_,_=>none
 |aQ+1,e,f,b,c,d,g,h,i,j,k,l,m,n,o,ap2,p,q,r,s,t,u,v,w,x=>cond (decide (c<(↑b.length:Int))) ((idx b c).bind λ y=>
(idx d y).bind λ z=>
(D3 F z d g h i j k l x).bind λ a=>
D6 F aQ e f b (ap (c+1)) a.2.1.1 a.2.1.2.1 a.2.1.2.2.1 a.2.1.2.2.2.1 a.2.1.2.2.2.2.1 a.2.1.2.2.2.2.2.1 a.2.1.2.2.2.2.2.2.1 m n o ap2 p q r s t u v w a.2.2.2.1) (
some ((e,(),(),(),(),((),(),()),f,()),(d,g,h,i,j,k,l,()),(m,n,o,ap2,p,()),(q,r,s,t,u,v,w,()),((),()),x,()))
def atQ(F:Nat):aS aE:=(atO F).gm 15 4 F ⟨[2,3,4,6,8,9,11,12,13],[lO,.p (.B 0),.p (.B 1),.p (.B 2),.p (.B 3),.f 41 [.B 0,.B 3],lL,lO,lL],[fi,lb,fi,.c 22 [.R 4],.r 3 false],[⟨.nm,[2,3,4,6,8,9,11],[lO,.p (.B 0),.p (.B 1),.p (.B 2),.p (.B 3),.f 41 [.B 0,.B 3],lL],[fi,lb,fi,.c 22 [.R 4],.r 3 false]⟩],λ k d=>D6 F k d.1.1 d.1.2.2.2.2.2.2.1 d.1.2.2.2.2.2.2.2.1 d.1.2.2.2.2.2.2.2.2.1 d.2.1.1 d.2.1.2.1 d.2.1.2.2.1 d.2.1.2.2.2.1 d.2.1.2.2.2.2.1 d.2.1.2.2.2.2.2.1 d.2.1.2.2.2.2.2.2.1 d.2.2.1.1 d.2.2.1.2.1 d.2.2.1.2.2.1 d.2.2.1.2.2.2.1 d.2.2.1.2.2.2.2.1 d.2.2.2.1.1 d.2.2.2.1.2.1 d.2.2.2.1.2.2.1 d.2.2.2.1.2.2.2.1 d.2.2.2.1.2.2.2.2.1 d.2.2.2.1.2.2.2.2.2.1 d.2.2.2.1.2.2.2.2.2.2.1 d.2.2.2.2.2.1⟩ ⟨λ d=>by kernel_rfl,λ k da db=>by kernel_rfl⟩
def D5(F:Nat):Nat->(List Int)->(Int)->(List Int)->(Int)->(Int)->(Int)->(Int)->(List Int)->(Int)->(List al)->(List Int)->(List (List I.Field))->(List (List (List UInt8)))->(List (List I.Target))->(List Int)->(Int)->(Int)->(Int)->(Int)->(List Int)->(Int)->(List Int)->Option (ari×
 lB×
  Dx×lB×(Unit×Unit)×List Int×Unit)
 |0,_,_,_,_,_,_,_,_,_,_,_,_,_,_,_,_,_,_,_,_,_,_=>none
 |aQ+1,n,b,c,d,e,f,g,o,h,i,j,k,l,m,p,q,r,s,t,u,v,w=>cond (decide (b<(↑o.length:Int))) ((idx o b).bind λ x=>
(qJ F (aP.mk c d e f g o h) (aN.mk i j k l m) x).bind λ y=>
(D6 F F n b y 0 c d e f g o h i j k l m p q r s t u v w).bind λ a=>
D5 F aQ a.1.1 (ap (a.1.2.2.2.2.2.2.1+1)) a.2.1.1 a.2.1.2.1 a.2.1.2.2.1 a.2.1.2.2.2.1 a.2.1.2.2.2.2.1 a.2.1.2.2.2.2.2.1 a.2.1.2.2.2.2.2.2.1 a.2.2.1.1 a.2.2.1.2.1 a.2.2.1.2.2.1 a.2.2.1.2.2.2.1 a.2.2.1.2.2.2.2.1 a.2.2.2.1.1 a.2.2.2.1.2.1 a.2.2.2.1.2.2.1 a.2.2.2.1.2.2.2.1 a.2.2.2.1.2.2.2.2.1 a.2.2.2.1.2.2.2.2.2.1 a.2.2.2.1.2.2.2.2.2.2.1 a.2.2.2.2.2.1) (
some ((n,(),(),(),(),((),(),()),()),(c,d,e,f,g,o,h,()),(i,j,k,l,m,()),(p,q,r,s,t,u,v,()),((),()),w,()))
def atS(F:Nat):aS aE:=(atQ F).gm 15 2 F ⟨[2,3,4,6,8,9,11],[lO,.p (.B 0),.p (.B 1),.p (.B 2),.p (.B 3),.f 41 [.B 0,.B 3],lL],[fi,lb,fi,.c 22 [.R 4],.r 3 false],[⟨.nm,[2,3,4,6,8,9],[lO,.p (.B 0),.p (.B 1),.p (.B 2),.p (.B 3),.f 41 [.B 0,.B 3]],[fi,lb,fi,.c 22 [.R 4],.r 3 false]⟩],λ k d=>D5 F k d.1.1 d.1.2.2.2.2.2.2.1 d.2.1.1 d.2.1.2.1 d.2.1.2.2.1 d.2.1.2.2.2.1 d.2.1.2.2.2.2.1 d.2.1.2.2.2.2.2.1 d.2.1.2.2.2.2.2.2.1 d.2.2.1.1 d.2.2.1.2.1 d.2.2.1.2.2.1 d.2.2.1.2.2.2.1 d.2.2.1.2.2.2.2.1 d.2.2.2.1.1 d.2.2.2.1.2.1 d.2.2.2.1.2.2.1 d.2.2.2.1.2.2.2.1 d.2.2.2.1.2.2.2.2.1 d.2.2.2.1.2.2.2.2.2.1 d.2.2.2.1.2.2.2.2.2.2.1 d.2.2.2.2.2.1⟩ ⟨λ d=>by kernel_rfl,λ k da db=>by kernel_rfl⟩
def D8(F:Nat):Nat->(List Int)->(Int)->(List Int)->(Int)->(List Int)->(Int)->(Int)->(Int)->(Int)->(List Int)->(Int)->(List al)->(List Int)->(List (List I.Field))->(List (List (List UInt8)))->(List (List I.Target))->(List Int)->(Int)->(Int)->(Int)->(Int)->(List Int)->(Int)->(List Int)->Option (arh×
 lB×
  Dx×lB×(Unit×Unit)×List Int×Unit)
 |0,_,_,_,_,_,_,_,_,_,_,_,_,_,_,_,_,_,_,_,_,_,_,_,_=>none
 |aQ+1,e,f,b,c,d,g,h,i,j,k,l,m,n,o,p,q,r,s,t,u,v,w,x,y=>cond (decide (c<(↑b.length:Int))) ((idx b c).bind λ z=>
(idx d z).bind λ A=>
(D3 F A d g h i j k l y).bind λ a=>
D8 F aQ e f b (ap (c+1)) a.2.1.1 a.2.1.2.1 a.2.1.2.2.1 a.2.1.2.2.2.1 a.2.1.2.2.2.2.1 a.2.1.2.2.2.2.2.1 a.2.1.2.2.2.2.2.2.1 m n o p q r s t u v w x a.2.2.2.1) (
some ((e,(),(),(),(),((),(),()),f,()),(d,g,h,i,j,k,l,()),(m,n,o,p,q,()),(r,s,t,u,v,w,x,()),((),()),y,()))
def atT(F:Nat):aS aE:=(atS F).gm 15 8 F ⟨[2,3,4,6,8,9,14,15,16],[lO,.p (.B 0),.p (.B 1),.p (.B 2),.p (.B 3),.f 41 [.B 0,.B 3],lL,lO,lL],[fi,lb,fi,.c 22 [.R 4],.r 3 false],[⟨.nm,[2,3,4,6,8,9,14],[lO,.p (.B 0),.p (.B 1),.p (.B 2),.p (.B 3),.f 41 [.B 0,.B 3],lL],[fi,lb,fi,.c 22 [.R 4],.r 3 false]⟩],λ k d=>D8 F k d.1.1 d.1.2.2.2.2.2.2.1 d.1.2.2.2.2.2.2.2.1 d.1.2.2.2.2.2.2.2.2.1 d.2.1.1 d.2.1.2.1 d.2.1.2.2.1 d.2.1.2.2.2.1 d.2.1.2.2.2.2.1 d.2.1.2.2.2.2.2.1 d.2.1.2.2.2.2.2.2.1 d.2.2.1.1 d.2.2.1.2.1 d.2.2.1.2.2.1 d.2.2.1.2.2.2.1 d.2.2.1.2.2.2.2.1 d.2.2.2.1.1 d.2.2.2.1.2.1 d.2.2.2.1.2.2.1 d.2.2.2.1.2.2.2.1 d.2.2.2.1.2.2.2.2.1 d.2.2.2.1.2.2.2.2.2.1 d.2.2.2.1.2.2.2.2.2.2.1 d.2.2.2.2.2.1⟩ ⟨λ d=>by kernel_rfl,λ k da db=>by kernel_rfl⟩
def D7(F:Nat):Nat->(List Int)->(Int)->(List Int)->(Int)->(Int)->(Int)->(Int)->(List Int)->(Int)->(List al)->(List Int)->(List (List I.Field))->(List (List (List UInt8)))->(List (List I.Target))->(List Int)->(Int)->(Int)->(Int)->(Int)->(List Int)->(Int)->(List Int)->Option ((List Int×Unit×Unit×Unit×Unit×Unit)×
 lB×
  Dx×lB×(Unit×Unit)×List Int×Unit)
 |0,_,_,_,_,_,_,_,_,_,_,_,_,_,_,_,_,_,_,_,_,_,_=>none
 |aQ+1,o,b,c,d,e,f,g,h,i,j,k,l,m,n,p,q,r,s,t,u,v,w=>cond (decide (b<(↑w.length:Int))) ((idx w b).bind λ x=>
(qJ F (aP.mk c d e f g h i) (aN.mk j k l m n) x).bind λ y=>
(D8 F F o b y 0 c d e f g h i j k l m n p q r s t u v w).bind λ a=>
D7 F aQ a.1.1 (ap (a.1.2.2.2.2.2.2.1+1)) a.2.1.1 a.2.1.2.1 a.2.1.2.2.1 a.2.1.2.2.2.1 a.2.1.2.2.2.2.1 a.2.1.2.2.2.2.2.1 a.2.1.2.2.2.2.2.2.1 a.2.2.1.1 a.2.2.1.2.1 a.2.2.1.2.2.1 a.2.2.1.2.2.2.1 a.2.2.1.2.2.2.2.1 a.2.2.2.1.1 a.2.2.2.1.2.1 a.2.2.2.1.2.2.1 a.2.2.2.1.2.2.2.1 a.2.2.2.1.2.2.2.2.1 a.2.2.2.1.2.2.2.2.2.1 a.2.2.2.1.2.2.2.2.2.2.1 a.2.2.2.2.2.1) (
some ((o,(),(),(),(),()),(c,d,e,f,g,h,i,()),(j,k,l,m,n,()),(p,q,r,s,t,u,v,()),((),()),w,()))
def atU(F:Nat):aS aE:=(atT F).gm 15 6 F ⟨[2,3,4,6,8,9,14],[lO,.p (.B 0),.p (.B 1),.p (.B 2),.p (.B 3),.f 41 [.B 0,.B 3],lL],[fi,lb,fi,.c 22 [.R 4],.r 3 false],[⟨.nm,[2,3,4,6,8],[lO,.p (.B 0),.p (.B 1),.p (.B 2),.p (.B 3)],[fi,lb,fi,.c 22 [.R 4],.r 3 false]⟩],λ k d=>D7 F k d.1.1 d.1.2.2.2.2.2.2.1 d.2.1.1 d.2.1.2.1 d.2.1.2.2.1 d.2.1.2.2.2.1 d.2.1.2.2.2.2.1 d.2.1.2.2.2.2.2.1 d.2.1.2.2.2.2.2.2.1 d.2.2.1.1 d.2.2.1.2.1 d.2.2.1.2.2.1 d.2.2.1.2.2.2.1 d.2.2.1.2.2.2.2.1 d.2.2.2.1.1 d.2.2.2.1.2.1 d.2.2.2.1.2.2.1 d.2.2.2.1.2.2.2.1 d.2.2.2.1.2.2.2.2.1 d.2.2.2.1.2.2.2.2.2.1 d.2.2.2.1.2.2.2.2.2.2.1 d.2.2.2.2.2.1⟩ ⟨λ d=>by kernel_rfl,λ k da db=>by kernel_rfl⟩
def D2(F:Nat)(c:List Int)(d:Int)(e:Int)(f:Int)(g:Int)(h:List Int)(i:Int)(j:List al)(k:List Int)(l:List (List I.Field))(m:List (List (List UInt8)))(n:List (List I.Target))(o:List Int):Option ((lB×List Int×Unit)×Unit):=(D4 F F o 0 c d e f g h i j k l m n [] 0 0 0 0 [] 0 []).bind λ kB=>
(D5 F F kB.1.1 0 kB.2.1.1 kB.2.1.2.1 kB.2.1.2.2.1 kB.2.1.2.2.2.1 kB.2.1.2.2.2.2.1 kB.2.1.2.2.2.2.2.1
 kB.2.1.2.2.2.2.2.2.1 kB.2.2.1.1 kB.2.2.1.2.1 kB.2.2.1.2.2.1 kB.2.2.1.2.2.2.1 kB.2.2.1.2.2.2.2.1 kB.2.2.2.1.1
 kB.2.2.2.1.2.1 kB.2.2.2.1.2.2.1 kB.2.2.2.1.2.2.2.1 kB.2.2.2.1.2.2.2.2.1 kB.2.2.2.1.2.2.2.2.2.1
 kB.2.2.2.1.2.2.2.2.2.2.1 kB.2.2.2.2.2.1).bind λ a=>
(D7 F F a.1.1 0 a.2.1.1 a.2.1.2.1 a.2.1.2.2.1 a.2.1.2.2.2.1 a.2.1.2.2.2.2.1 a.2.1.2.2.2.2.2.1
 a.2.1.2.2.2.2.2.2.1 a.2.2.1.1 a.2.2.1.2.1 a.2.2.1.2.2.1 a.2.2.1.2.2.2.1 a.2.2.1.2.2.2.2.1 a.2.2.2.1.1
 a.2.2.2.1.2.1 a.2.2.2.1.2.2.1 a.2.2.2.1.2.2.2.1 a.2.2.2.1.2.2.2.2.1 a.2.2.2.1.2.2.2.2.2.1
 a.2.2.2.1.2.2.2.2.2.2.1 a.2.2.2.2.2.1).bind λ b=>
(tD F b.2.1.1 b.2.1.2.1 b.2.1.2.2.1 b.2.1.2.2.2.1 b.2.1.2.2.2.2.1 b.2.1.2.2.2.2.2.1 b.2.1.2.2.2.2.2.2.1
 b.2.2.1.1 b.2.2.1.2.1 b.2.2.1.2.2.1 b.2.2.1.2.2.2.1 b.2.2.1.2.2.2.2.1 b.2.2.2.2.2.1 b.2.1.2.2.2.2.1 b.1.1).bind λ C4=>
some (((C4.1.1.1,C4.1.1.2.1,C4.1.1.2.2.1,C4.1.1.2.2.2.1,C4.1.1.2.2.2.2.1,C4.1.1.2.2.2.2.2.1,C4.1.1.2.2.2.2.2.2.1,()),C4.1.2.1,()),())
def atV(F:Nat):aS aE:=(atU F).fn 15 ⟨[MX,aao,lO],[],[MX,lO],[],λ d=>D2 F d.1.1.1 d.1.1.2.1 d.1.1.2.2.1 d.1.1.2.2.2.1 d.1.1.2.2.2.2.1 d.1.1.2.2.2.2.2.1 d.1.1.2.2.2.2.2.2.1 d.1.2.1.1 d.1.2.1.2.1 d.1.2.1.2.2.1 d.1.2.1.2.2.2.1 d.1.2.1.2.2.2.2.1 d.1.2.2.1⟩ λ da db=>by kernel_rfl
def avQ(F:Nat)(Th:List Int)(c:Int)(d:Int)(e:Int)(f:Int)(g:List Int)(h:Int)(i:List al)(j:List Int)(k:List (List I.Field))(l:List (List (List UInt8)))(m:List (List I.Target))(n:List Int):Option ((Bool×Unit)×Unit):=(aex F Th c d e f g h i j k l m n).bind λ a=>
(tx F (aP.mk Th c d e f g h) (aN.mk i j k l m) n).bind λ b=>
cond (decide (b=0)) (cond (decide (ap (ap (ap (ap (ap (c+d)+1)-f)-e)+1)<0)) ((ma F (aP.mk a.1.1.1 a.1.1.2.1 a.1.1.2.2.1 a.1.1.2.2.2.1 a.1.1.2.2.2.2.1 a.1.1.2.2.2.2.2.1 a.1.1.2.2.2.2.2.2.1)
 a.1.2.2.1 8 (aP.mk [] 0 0 0 0 [] 0)).bind λ o=>
cond o ((ka F a.1.2.1 []).bind λ p=>
some ((p,()),())) (
some ((false,()),()))) (
cond (decide (b=0)) ((D2 F Th c d e f g h i j k l m n).bind λ C5=>
(ma F (aP.mk a.1.1.1 a.1.1.2.1 a.1.1.2.2.1 a.1.1.2.2.2.1 a.1.1.2.2.2.2.1 a.1.1.2.2.2.2.2.1 a.1.1.2.2.2.2.2.2.1)
 a.1.2.2.1 b
 (aP.mk C5.1.1.1 C5.1.1.2.1 C5.1.1.2.2.1 C5.1.1.2.2.2.1 C5.1.1.2.2.2.2.1 C5.1.1.2.2.2.2.2.1 C5.1.1.2.2.2.2.2.2.1)).bind λ q=>
cond q ((ka F a.1.2.1 C5.1.2.1).bind λ r=>
some ((r,()),())) (
some ((false,()),()))) (
(ma F (aP.mk a.1.1.1 a.1.1.2.1 a.1.1.2.2.1 a.1.1.2.2.2.1 a.1.1.2.2.2.2.1 a.1.1.2.2.2.2.2.1 a.1.1.2.2.2.2.2.2.1)
 a.1.2.2.1 b (aP.mk [] 0 0 0 0 [] 0)).bind λ s=>
cond s ((ka F a.1.2.1 []).bind λ t=>
some ((t,()),())) (
some ((false,()),()))))) (
cond (decide (b=0)) ((D2 F Th c d e f g h i j k l m n).bind λ C6=>
(ma F (aP.mk a.1.1.1 a.1.1.2.1 a.1.1.2.2.1 a.1.1.2.2.2.1 a.1.1.2.2.2.2.1 a.1.1.2.2.2.2.2.1 a.1.1.2.2.2.2.2.2.1)
 a.1.2.2.1 b
 (aP.mk C6.1.1.1 C6.1.1.2.1 C6.1.1.2.2.1 C6.1.1.2.2.2.1 C6.1.1.2.2.2.2.1 C6.1.1.2.2.2.2.2.1 C6.1.1.2.2.2.2.2.2.1)).bind λ u=>
cond u ((ka F a.1.2.1 C6.1.2.1).bind λ v=>
some ((v,()),())) (
some ((false,()),()))) (
(ma F (aP.mk a.1.1.1 a.1.1.2.1 a.1.1.2.2.1 a.1.1.2.2.2.1 a.1.1.2.2.2.2.1 a.1.1.2.2.2.2.2.1 a.1.1.2.2.2.2.2.2.1)
 a.1.2.2.1 b (aP.mk [] 0 0 0 0 [] 0)).bind λ w=>
cond w ((ka F a.1.2.1 []).bind λ x=>
some ((x,()),())) (
some ((false,()),()))))
@[reducible] def aQG(F:Nat):er bf:=⟨[MX,aao,lO],[],[lQ],[],λ d=>avQ F d.1.1.1 d.1.1.2.1 d.1.1.2.2.1 d.1.1.2.2.2.1 d.1.1.2.2.2.2.1 d.1.1.2.2.2.2.2.1 d.1.1.2.2.2.2.2.2.1 d.1.2.1.1 d.1.2.1.2.1 d.1.2.1.2.2.1 d.1.2.1.2.2.2.1 d.1.2.1.2.2.2.2.1 d.1.2.2.1⟩
set_option maxRecDepth 100000
@[reducible] def aQO:bJ:=.c 24 [.l 3,lS,lS,lS,lS,.l 3,lS]
@[reducible] def aHr:cy:=.a [.l 3,lS,lS,lS,lS,.l 3,lS]
@[reducible] def aQP:bJ:=.c 30 [.l 134,.l 3,.l 124,.l 120,.l 121]
@[reducible] def aHs:cy:=.a [.l 134,.l 3,.l 124,.l 120,.l 121]
abbrev aet:=(List al×List Int×List (List I.Field)×List (List (List UInt8))×List (List I.Target)×Unit)
abbrev aeu:=(List Int×Int×Int×Int×Int×List Int×Int×Unit)
def Ht(F:Nat)(b:Int)(a:List Int):Option ((Int×Unit)×(Unit×Unit)×List Int×Unit):=cond (decide (b=0)) (some ((0,()),((),()),a,())) (
(Eb F a b).bind λ c=>
cond (decide (c.1.1<0)) ((bE 8 a [b]).bind λ d=>
some (((ap (ap ((↑d.length:Int)-1)+1)),()),((),()),d,())) (
some (((ap (c.1.1+1)),()),((),()),a,())))
def UM(F:Nat):Nat->(List Int)->(Int)->(List Int)->(Int)->(Int)->(Int)->(Int)->(List Int)->(Int)->(List al)->(List Int)->(List (List I.Field))->(List (List (List UInt8)))->(List (List I.Target))->(List Int)->(List Int)->Option ((Unit×Unit×Unit×Unit×(Unit×Unit)×Unit)×
 aeu×aet×(Unit×Unit)×List Int×List Int×Unit)
 |0,_,_,_,_,_,_,_,_,_,_,_,_,_,_,_,_=>none
 |aQ+1,a,b,c,d,e,f,g,h,i,j,k,l,m,n,o,p=>cond (decide (b<(↑a.length:Int))) ((idx a b).bind λ r=>
(Ht F r o).bind λ q=>
(bE 8 p [q.1.1]).bind λ s=>
UM F aQ a (ap (b+1)) c d e f g h i j k l m n q.2.2.1 s) (
some (((),(),(),(),((),()),()),(c,d,e,f,g,h,i,()),(j,k,l,m,n,()),((),()),o,p,()))
def OW(F:Nat):Nat->(Int)->(Int)->(Int)->(List Int)->(Int)->(Int)->(Int)->(Int)->(List Int)->(Int)->(List al)->(List Int)->(List (List I.Field))->(List (List (List UInt8)))->(List (List I.Target))->(List Int)->(List Int)->Option ((Unit×Unit×Unit×Unit×(Unit×Unit)×Int×Unit)×
 aeu×aet×(Unit×Unit)×List Int×List Int×Unit)
 |0,_,_,_,_,_,_,_,_,_,_,_,_,_,_,_,_,_=>none
 |aQ+1,h,qv,b,a,i,j,k,l,m,n,c,d,e,f,g,o,p=>(idx a (ap (qv+1))).bind λ r=>
cond (decide (b<r)) ((idx a (ap (ap (qv+3)+b))).bind λ q=>
(idx a qv).bind λ s=>
(vK (aN.mk c d e f g) s b).bind λ t=>
cond t ((Ht F q o).bind λ nE=>
(bE 8 p [nE.1.1]).bind λ oA=>
OW F aQ h qv (ap (b+1)) a i j k l m n c d e f g nE.2.2.1 oA) (
(bE 8 p [q]).bind λ u=>
OW F aQ h qv (ap (b+1)) a i j k l m n c d e f g o u)) (
some (((),(),(),(),((),()),h,()),(a,i,j,k,l,m,n,()),(c,d,e,f,g,()),((),()),o,p,()))
def Hu(F:Nat):Nat->(Int)->(List Int)->(Int)->(Int)->(Int)->(Int)->(List Int)->(Int)->(List al)->(List Int)->(List (List I.Field))->(List (List (List UInt8)))->(List (List I.Target))->(List Int)->(List Int)->Option ((Unit×Unit)×aeu×aet×(Unit×Unit)×List Int×List Int×Unit)
 |0,_,_,_,_,_,_,_,_,_,_,_,_,_,_,_=>none
 |aQ+1,e,b,f,g,h,i,j,k,l,m,n,o,p,c,q=>cond (decide (e<(↑c.length:Int))) ((idx c e).bind λ d=>
(idx b d).bind λ pk=>
(idx b (ap (d+1))).bind λ r=>
(idx b (ap (d+2))).bind λ s=>
(bE 8 q [pk,r,s]).bind λ t=>
(OW F F e d 0 b f g h i j k l m n o p c t).bind λ a=>
Hu F aQ (ap (a.1.2.2.2.2.2.1+1)) a.2.1.1 a.2.1.2.1 a.2.1.2.2.1 a.2.1.2.2.2.1 a.2.1.2.2.2.2.1 a.2.1.2.2.2.2.2.1 a.2.1.2.2.2.2.2.2.1 a.2.2.1.1 a.2.2.1.2.1 a.2.2.1.2.2.1 a.2.2.1.2.2.2.1 a.2.2.1.2.2.2.2.1 a.2.2.2.2.1 a.2.2.2.2.2.1) (
some (((),()),(b,f,g,h,i,j,k,()),(l,m,n,o,p,()),((),()),c,q,()))
def Hs(F:Nat)(b:List Int)(c:Int)(d:Int)(e:Int)(f:Int)(g:List Int)(h:Int)(i:List al)(j:List Int)(k:List (List I.Field))(l:List (List (List UInt8)))(eg:List (List I.Target))(m:List Int):Option ((List Int×Unit)×Unit):=(UM F F m 0 b c d e f g h i j k l eg [] []).bind λ a=>
(Hu F F 0 a.2.1.1 a.2.1.2.1 a.2.1.2.2.1 a.2.1.2.2.2.1 a.2.1.2.2.2.2.1 a.2.1.2.2.2.2.2.1 a.2.1.2.2.2.2.2.2.1 a.2.2.1.1
 a.2.2.1.2.1 a.2.2.1.2.2.1 a.2.2.1.2.2.2.1 a.2.2.1.2.2.2.2.1 a.2.2.2.2.1 a.2.2.2.2.2.1).bind λ n=>
some ((n.2.2.2.2.2.1,()),())
def UL(F:Nat)(s:List Int)(t:Int)(u:Int)(v:Int)(w:Int)(x:List Int)(y:Int)(a:List al)(b:List Int)(c:List (List I.Field))(d:List (List (List UInt8)))(e:List (List I.Target))(r:List Int)(f:List Int)(g:Int)(h:Int)(i:Int)(j:Int)(k:List Int)(l:Int)(m:List Int):Option ((Bool×Unit)×Unit):=(r5 F (aP.mk f g h i j k l) (aN.mk a b c d e)).bind λ n=>
cond (decide (n=0)) ((AM F (aP.mk f g h i j k l) (aN.mk a b c d e) m).bind λ o=>
cond (decide (o=0)&&decide ((↑r.length:Int)=(↑m.length:Int))) ((Hs F s t u v w x y a b c d e r).bind λ p=>
(Hs F f g h i j k l a b c d e m).bind λ q=>
(ka F p.1.1 q.1.1).bind λ z=>
some ((z,()),())) (
some ((false,()),()))) (
some ((false,()),()))
def avR(F:Nat)(TE:List Int)(c:Int)(d:Int)(e:Int)(f:Int)(g:List Int)(b:Int)(h:List al)(i:List Int)(j:List (List I.Field))(k:List (List (List UInt8)))(l:List (List I.Target))(vn:List Int):Option ((Bool×Unit)×Unit):=(aex F TE c d e f g b h i j k l vn).bind λ a=>
cond (!decide (a.1.2.2.1=0)) (some (((decide ((↑(hr a.1.2.1):Int)=0)),()),())) (
(UL F TE c d e f g b h i j k l vn a.1.1.1 a.1.1.2.1 a.1.1.2.2.1 a.1.1.2.2.2.1 a.1.1.2.2.2.2.1 a.1.1.2.2.2.2.2.1
 a.1.1.2.2.2.2.2.2.1 a.1.2.1).bind λ m=>
some (((m.1.1&&decide (a.1.1.2.2.2.1=1)&&decide ((↑(hr a.1.1.2.2.2.2.2.1):Int)=0)&&decide (a.1.1.2.2.2.2.2.2.1=b)),()),()))
@[reducible] def aQH(F:Nat):er bf:=⟨[aHr,aHs,lO],[],[lQ],[],λ d=>avR F d.1.1.1 d.1.1.2.1 d.1.1.2.2.1 d.1.1.2.2.2.1 d.1.1.2.2.2.2.1 d.1.1.2.2.2.2.2.1 d.1.1.2.2.2.2.2.2.1 d.1.2.1.1 d.1.2.1.2.1 d.1.2.1.2.2.1 d.1.2.1.2.2.2.1 d.1.2.1.2.2.2.2.1 d.1.2.2.1⟩
set_option maxRecDepth 100000
@[reducible] def Jj:bJ:=.c 24 [.l 3,lS,lS,lS,lS,.l 3,lS]
@[reducible] def aap:cy:=.a [.l 3,lS,lS,lS,lS,.l 3,lS]
@[reducible] def Jk:bJ:=.c 30 [.l 134,.l 3,.l 124,.l 120,.l 121]
@[reducible] def al5:cy:=.a [.l 134,.l 3,.l 124,.l 120,.l 121]
def atW(F:Nat):aS aE:=(atV F).fn 88 ⟨[lL,.p (.B 0)],[.c 22 [.R 1],.r 3 false],[lL],[.c 22 [.R 1],.r 3 false],λ d=>Ht F d.1.1 d.2.2.1⟩ λ da db=>by kernel_rfl
def atX(F:Nat):aS aE:=(atW F).gm 52 0 F ⟨[2,3,4,7,8,9,10],[lO,.p (.B 0),.p (.B 1),.p (.B 2),.p (.R 4),.f 88 [.B 2],lL],[Jj,Jk,.c 22 [.R 3],.r 3 false,.r 3 false],[⟨.nm,[3,4,7,8,9],[.p (.B 0),.p (.B 1),.p (.B 2),.p (.R 4),.f 88 [.B 2]],[Jj,Jk,.c 22 [.R 3],.r 3 false,.r 3 false]⟩],λ k d=>UM F k d.1.1 d.1.2.2.2.2.2.2.1 d.2.1.1 d.2.1.2.1 d.2.1.2.2.1 d.2.1.2.2.2.1 d.2.1.2.2.2.2.1 d.2.1.2.2.2.2.2.1 d.2.1.2.2.2.2.2.2.1 d.2.2.1.1 d.2.2.1.2.1 d.2.2.1.2.2.1 d.2.2.1.2.2.2.1 d.2.2.1.2.2.2.2.1 d.2.2.2.2.1 d.2.2.2.2.2.1⟩ ⟨λ d=>by kernel_rfl,λ k da db=>by kernel_rfl⟩
def atY(F:Nat):aS aE:=(atX F).gm 52 4 F ⟨[3,4,7,8,9,11,12,13],[.p (.B 0),.p (.B 1),.p (.B 2),.p (.R 4),.f 88 [.B 2],lL,lL,lL],[Jj,Jk,.c 22 [.R 3],.r 3 false,.r 3 false],[⟨.nm,[3,4,7,8,9,11],[.p (.B 0),.p (.B 1),.p (.B 2),.p (.R 4),.f 88 [.B 2],lL],[Jj,Jk,.c 22 [.R 3],.r 3 false,.r 3 false]⟩],λ k d=>OW F k d.1.2.2.2.2.2.1 d.1.2.2.2.2.2.2.1 d.1.2.2.2.2.2.2.2.1 d.2.1.1 d.2.1.2.1 d.2.1.2.2.1 d.2.1.2.2.2.1 d.2.1.2.2.2.2.1 d.2.1.2.2.2.2.2.1 d.2.1.2.2.2.2.2.2.1 d.2.2.1.1 d.2.2.1.2.1 d.2.2.1.2.2.1 d.2.2.1.2.2.2.1 d.2.2.1.2.2.2.2.1 d.2.2.2.2.1 d.2.2.2.2.2.1⟩ ⟨λ d=>by kernel_rfl,λ k da db=>by kernel_rfl⟩
def atZ(F:Nat):aS aE:=(atY F).gm 52 2 F ⟨[3,4,7,8,9,11],[.p (.B 0),.p (.B 1),.p (.B 2),.p (.R 4),.f 88 [.B 2],lL],[Jj,Jk,.c 22 [.R 3],.r 3 false,.r 3 false],[⟨.nm,[8],[.p (.R 4)],[Jj,Jk,.c 22 [.R 3],.r 3 false,.r 3 false]⟩],λ k d=>Hu F k d.1.2.2.2.2.2.1 d.2.1.1 d.2.1.2.1 d.2.1.2.2.1 d.2.1.2.2.2.1 d.2.1.2.2.2.2.1 d.2.1.2.2.2.2.2.1 d.2.1.2.2.2.2.2.2.1 d.2.2.1.1 d.2.2.1.2.1 d.2.2.1.2.2.1 d.2.2.1.2.2.2.1 d.2.2.1.2.2.2.2.1 d.2.2.2.2.1 d.2.2.2.2.2.1⟩ ⟨λ d=>by kernel_rfl,λ k da db=>by kernel_rfl⟩
def at0(F:Nat):aS aE:=(atZ F).fn 52 ⟨[aap,al5,lO],[],[lO],[],λ d=>Hs F d.1.1.1 d.1.1.2.1 d.1.1.2.2.1 d.1.1.2.2.2.1 d.1.1.2.2.2.2.1 d.1.1.2.2.2.2.2.1 d.1.1.2.2.2.2.2.2.1 d.1.2.1.1 d.1.2.1.2.1 d.1.2.1.2.2.1 d.1.2.1.2.2.2.1 d.1.2.1.2.2.2.2.1 d.1.2.2.1⟩ λ da db=>by kernel_rfl
def at2(F:Nat):aS aE:=(at0 F).fn 21 ⟨[aap,al5,lO,aap,lO],[],[lQ],[],λ d=>UL F d.1.1.1 d.1.1.2.1 d.1.1.2.2.1 d.1.1.2.2.2.1 d.1.1.2.2.2.2.1 d.1.1.2.2.2.2.2.1 d.1.1.2.2.2.2.2.2.1 d.1.2.1.1 d.1.2.1.2.1 d.1.2.1.2.2.1 d.1.2.1.2.2.2.1 d.1.2.1.2.2.2.2.1 d.1.2.2.1 d.1.2.2.2.1.1 d.1.2.2.2.1.2.1 d.1.2.2.2.1.2.2.1 d.1.2.2.2.1.2.2.2.1 d.1.2.2.2.1.2.2.2.2.1 d.1.2.2.2.1.2.2.2.2.2.1 d.1.2.2.2.1.2.2.2.2.2.2.1 d.1.2.2.2.2.1⟩ λ da db=>by kernel_rfl
end Go.Proofs.YteeliipnilghaaaGreat
