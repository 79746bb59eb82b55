/- Part 5 of the proof that is ended in the last text: small logic, what the functions compute, walks, plain laws. -/
import Derived.Test.YteeliipnilghaaaGreatGk4
open Int renaming le_refl->k2
open List renaming length->iv,length_pos_iff->lD,mem_append->b_,mem_singleton->dR,replicate->fN,take->mf
open Nat renaming mul_one->jB,zero_add->jx,zero_le->gK
open Option renaming map->dV,map_eq_some_iff->cu,some.injEq->aF
namespace Go.Proofs.YteeliipnilghaaaGreat
open Go Go.RowKit aw I bc
set_option maxRecDepth 100000
@[reducible] def GG{α:Type}(x:List UInt8×List UInt8×List I.Field×List I.Method×α):I.ao:=⟨x.1,x.2.1,x.2.2.1,x.2.2.2.1⟩
@[reducible] def dQ{α:Type}(x:List Int×Int×Int×Int×Int×List Int×Int×α):I.aU:=⟨x.1,x.2.1,x.2.2.1,x.2.2.2.1,x.2.2.2.2.1,x.2.2.2.2.2.1,x.2.2.2.2.2.2.1⟩
@[reducible] def KQ{α:Type}(x:Int×List UInt8×α):I.Kind:=⟨x.1,x.2.1⟩
@[reducible] def e6{α:Type}(x:List I.ao×List Int×List (List I.Field)×List (List (List UInt8))×List (List I.Target)×α):I.aR:=⟨x.1,x.2.1,x.2.2.1,x.2.2.2.1,x.2.2.2.2.1⟩
@[reducible] def uC{α:Type}(x:List UInt8×Bool×List I.Kind×Int×List UInt8×Int×Int×List UInt8×List I.Handler×α):I.Method:=⟨x.1,x.2.1,x.2.2.1,⟨x.2.2.2.1,x.2.2.2.2.1⟩,x.2.2.2.2.2.1,x.2.2.2.2.2.2.1,x.2.2.2.2.2.2.2.1,x.2.2.2.2.2.2.2.2.1⟩
@[reducible] def gO{α:Type}(x:List I.ao×List Int×List (List I.Field)×List (List (List UInt8))×List (List I.Target)×α):I.b9:=⟨⟨x.1,x.2.1,x.2.2.1,x.2.2.2.1,x.2.2.2.2.1⟩⟩
@[reducible] def fx:bI:=.c 72 [.l 3,.i .i64,.i .i64,.i .i64,.i .i64,.l 3,.i .i64,.l 134,.l 3,.l 124,.l 120,.l 121,.l 3,.l 3,.M 1]
@[reducible] def h7:bI:=.c 72 [.l 3,.i .i64,.i .i64,.i .i64,.i .i64,.l 3,.i .i64,.l 134,.l 3,.l 124,.l 120,.l 121,.l 3,.l 3,.M 2]
@[reducible] def l5:bI:=.c 131 [.s,.b,.l 128,.i .i64,.s,.i .i64,.i .i64,.s,.l 157]
@[reducible] def ai_:bI:=.c 24 [.R 1,.i .i64,.i .i64,.i .i64,.i .i64,.l 3,.i .i64]
@[reducible] def iF:bI:=.c 24 [.l 3,.i .i64,.i .i64,.i .i64,.i .i64,.l 3,.i .i64]
@[reducible] def Pb:cL:=.a [.s,.b,.l 128,.i .i64,.s,.i .i64,.i .i64,.s,.l 157]
@[reducible] def jf:cL:=.a [.l 3,.i .i64,.i .i64,.i .i64,.i .i64,.l 3,.i .i64]
@[reducible] def dP:bI:=.c 30 [.l 134,.l 3,.l 124,.l 120,.l 121]
@[reducible] def hr:cL:=.a [.l 134,.l 3,.l 124,.l 120,.l 121]
@[reducible] def ai':bI:=.c 30 [.l 134,.l 3,.R 4,.R 5,.R 6]
@[reducible] def ai7:bI:=.c 30 [.l 134,.R 2,.R 3,.R 4,.R 5]
@[reducible] def h8:bI:=.c 134 [.s,.s,.l 136,.l 131]
@[reducible] def ai8:bI:=.c 134 [.s,.s,.R 2,.R 3]
@[reducible] def kI:bI:=.c 117 [.l 134,.M 1,.R 2]
@[reducible] def ep:bI:=.c 117 [.l 134,.M 1,.l 3]
@[reducible] def ai9:bI:=.c 117 [.l 134,.M 2,.l 3]
noncomputable def asp(F:Nat):aP aE:=⟨LN F,λ _=>as9 F,rfl⟩
noncomputable def Ur(k:Nat)(a:List UInt8)(b:Int)(ak:Int):=dg ((a.length:Int)=ak/\True) (bf (Cy a k b))
theorem Yy(k:Nat)(a:List UInt8)(b:Int):bf (Cy a k b)=Ur k a b (a.length:Int):=(dA ⟨rfl,trivial⟩).symm
noncomputable def aos(F:Nat):aP aE:=(asp F).bY 140 0 F ⟨[0,6,7,8],[.p (.s),.p (.l 5),.p (.i .i64),.p (.i .i64)],[],
 [⟨⟨.nm,[0],[.p (.s)],[]⟩,Unit,λ d r=>((d.1.1,()),())⟩,
  ⟨⟨.rt,[2],[.p (.b)],[]⟩,Bool,λ d r=>((r,()),())⟩],
 λ k d=>Ur k d.1.2.1 d.1.2.2.2.1 d.1.2.2.1⟩ (bL.bV (λ d=>dz) λ k da db q h=>by
 obtain⟨(v0:List UInt8),(v1:List UInt8),(b:Int),(v3:Int),_⟩:=da
 obtain⟨a,_⟩:=ea h
 dsimp only at a
 obtain⟨rfl,_⟩:=a
 conv=>rhs;change dV (α:=Unit⊕Bool) _ (Ur (k+1) v1 v3 (v1.length:Int));rw[<-Yy (k+1) v1 v3];simp only[Cy,a_,Yy];simp only[bT]
 kernel_rfl)
noncomputable def acw(F:Nat):aP aE:=(aos F).rt 140 ⟨[.p (.s)],[],[.p (.b)],[],Bool,λ d=>n9 F d.1.1,λ d r=>((r,()),())⟩ λ da db=>by
 obtain⟨(v0:List UInt8),_⟩:=da;conv=>rhs;simp only[n9,a_,Yy]
 kernel_rfl
noncomputable def aq'(F:Nat):aP aE:=(acw F).rt 162 ⟨[.p (.i .i64)],[],[.p (.b)],[],Bool,λ d=>NS d.1.1,λ d r=>((r,()),())⟩ λ da db=>by
 conv=>rhs;simp only[NS,a_]
 kernel_rfl
noncomputable def arm(F:Nat):aP aE:=(aq' F).rt 141 ⟨[.a [.i .i64,.s]],[],[.p (.b)],[],Bool,λ d=>wg F (KQ d.1.1),λ d r=>((r,()),())⟩ λ da db=>by
 conv=>rhs;simp only[wg,a_]
 kernel_rfl
noncomputable def arx(F:Nat):aP aE:=(arm F).rt 163 ⟨[.p (.i .i64),.p (.i .i64),.p (.i .i64)],[],[.p (.b)],[],Bool,λ d=>mI d.1.1 d.1.2.1 d.1.2.2.1,λ d r=>((r,()),())⟩ λ da db=>by
 conv=>rhs;simp only[mI,a_]
 kernel_rfl
noncomputable def Us(F:Nat)(k:Nat)(a:I.Method)(b:Int)(c:Int)(dq:List I.Kind):=dg ((a.cA.length:Int)=c/\(a.cA:List I.Kind)=dq/\True) (bf (yU F a k b))
theorem Yz(F:Nat)(k:Nat)(a:I.Method)(b:Int):bf (yU F a k b)=Us F k a b (a.cA.length:Int) a.cA:=(dA ⟨rfl,rfl,trivial⟩).symm
noncomputable def arI(F:Nat):aP aE:=(arx F).bY 142 1 F ⟨[1,41,42,43],[.p (.B 0),.p (.l 128),.p (.i .i64),.p (.i .i64)],[l5],
 [⟨⟨.nm,[1],[.p (.B 0)],[l5]⟩,Unit,λ d r=>(((),()),(d.2.1,()))⟩,
  ⟨⟨.rt,[2],[.p (.i .i64)],[.d]⟩,Int,λ d r=>((r,()),((),()))⟩],
 λ k d=>Us F k (⟨d.2.1.1,d.2.1.2.1,d.1.2.1,(KQ d.2.1.2.2.2),d.2.1.2.2.2.2.2.1,d.2.1.2.2.2.2.2.2.1,d.2.1.2.2.2.2.2.2.2.1,d.2.1.2.2.2.2.2.2.2.2.1⟩:I.Method) d.1.2.2.2.1 d.1.2.2.1 d.2.1.2.2.1⟩ (bL.bV (λ d=>dz) λ k da db q h=>by
 obtain⟨_,(v0:List I.Kind),(v1:Int),(c:Int),_⟩:=da
 obtain⟨⟨(v3:List UInt8),(v4:Bool),(v5:List I.Kind),(e:Int),(f:List UInt8),(cE:Int),(v9:Int),(a:List UInt8),(b:List I.Handler),_⟩,_⟩:=db
 obtain⟨g,_⟩:=ea h
 dsimp only at g
 obtain⟨rfl,rfl,_⟩:=g
 conv=>rhs;change dV (α:=Unit⊕Int) _ (Us F (k+1) (⟨v3,v4,v0,(⟨e,f⟩:I.Kind),cE,v9,a,b⟩:I.Method) c (v0.length:Int) (v0));rw[<-Yz F (k+1) (⟨v3,v4,v0,(⟨e,f⟩:I.Kind),cE,v9,a,b⟩:I.Method) c];simp only[yU,a_,Yz];simp only[bT]
 kernel_rfl)
noncomputable def M8(F:Nat)(k:Nat)(a:I.Method)(b:Int)(c:Int):=dg ((a.cG.length:Int)=c/\True) (bf (rU F a k b))
theorem Pu(F:Nat)(k:Nat)(a:I.Method)(b:Int):bf (rU F a k b)=M8 F k (⟨[],false,[],(⟨0,[]⟩:I.Kind),0,0,[],a.cG⟩:I.Method) b (a.cG.length:Int):=(show bf (rU F a k b)=bf (rU F (⟨[],false,[],(⟨0,[]⟩:I.Kind),0,0,[],a.cG⟩:I.Method) k b) by kernel_rfl).trans (dA ⟨rfl,trivial⟩).symm
theorem aEc(F:Nat)(k:Nat)(a:I.Method)(b:Int):bf (CC F a k b)=M8 F k (⟨[],false,[],(⟨0,[]⟩:I.Kind),0,0,[],a.cG⟩:I.Method) b (a.cG.length:Int):=(show bf (CC F a k b)=bf (rU F a k b) by kernel_rfl).trans (Pu F k a b)
noncomputable def arT(F:Nat):aP aE:=(arI F).bY 142 3 F ⟨[62,63,64],[.p (.l 157),.p (.i .i64),.p (.i .i64)],[],
 [⟨⟨.nm,[],[],[]⟩,Unit,λ d r=>((),())⟩,
  ⟨⟨.rt,[2],[.p (.i .i64)],[]⟩,Int,λ d r=>((r,()),())⟩],
 λ k d=>M8 F k (⟨[],false,[],(⟨0,[]⟩:I.Kind),0,0,[],d.1.1⟩:I.Method) d.1.2.2.1 d.1.2.1⟩ (bL.bV (λ d=>dz) λ k da db q h=>by
 obtain⟨(v0:List I.Handler),(v1:Int),(a:Int),_⟩:=da
 obtain⟨b,_⟩:=ea h
 dsimp only at b
 obtain⟨rfl,_⟩:=b
 conv=>rhs;change dV (α:=Unit⊕Int) _ (M8 F (k+1) (⟨[],false,[],(⟨0,[]⟩:I.Kind),0,0,[],v0⟩:I.Method) a (v0.length:Int));rw[<-Pu F (k+1) (⟨[],false,[],(⟨0,[]⟩:I.Kind),0,0,[],v0⟩:I.Method) a];simp only[rU,a_,Pu];simp only[bT]
 kernel_rfl)
noncomputable def ar4(F:Nat):aP aE:=(arT F).rt 142 ⟨[Pb],[],[.p (.i .i64)],[],Int,λ d=>CB F (uC d.1.1),λ d r=>((r,()),())⟩ λ da db=>by
 obtain⟨⟨(v0:List UInt8),(v1:Bool),(a:List I.Kind),(v3:Int),(v4:List UInt8),(v5:Int),(b:Int),(c:List UInt8),(cE:List I.Handler),_⟩,_⟩:=da;conv=>rhs;simp only[CB,a_,Yz,Pu,aEc]
 kernel_rfl
noncomputable def M6(F:Nat)(k:Nat)(c_:I.ao)(a:Int)(b:Int)(dq:List I.Field):=dg ((c_.Fields.length:Int)=b/\(c_.Fields:List I.Field)=dq/\True) (bf (wc F c_ k a))
theorem Ps(F:Nat)(k:Nat)(c_:I.ao)(a:Int):bf (wc F c_ k a)=M6 F k c_ a (c_.Fields.length:Int) c_.Fields:=(dA ⟨rfl,rfl,trivial⟩).symm
theorem aEa(F:Nat)(k:Nat)(c_:I.ao)(a:Int):bf (Cz F c_ k a)=M6 F k c_ a (c_.Fields.length:Int) c_.Fields:=(show bf (Cz F c_ k a)=bf (wc F c_ k a) by kernel_rfl).trans (Ps F k c_ a)
noncomputable def asd(F:Nat):aP aE:=(ar4 F).bY 107 1 F ⟨[1,36,37,38],[.p (.B 0),.p (.l 136),.p (.i .i64),.p (.i .i64)],[h8],
 [⟨⟨.nm,[1],[.p (.B 0)],[h8]⟩,Unit,λ d r=>(((),()),(d.2.1,()))⟩,
  ⟨⟨.rt,[2],[.p (.i .i64)],[.d]⟩,Int,λ d r=>((r,()),((),()))⟩],
 λ k d=>M6 F k (⟨d.2.1.1,d.2.1.2.1,d.1.2.1,d.2.1.2.2.2.1⟩:I.ao) d.1.2.2.2.1 d.1.2.2.1 d.2.1.2.2.1⟩ (bL.bV (λ d=>dz) λ k da db q h=>by
 obtain⟨_,(v0:List I.Field),(v1:Int),(a:Int),_⟩:=da
 obtain⟨⟨(v3:List UInt8),(v4:List UInt8),(v5:List I.Field),(b:List I.Method),_⟩,_⟩:=db
 obtain⟨c,_⟩:=ea h
 dsimp only at c
 obtain⟨rfl,rfl,_⟩:=c
 conv=>rhs;change dV (α:=Unit⊕Int) _ (M6 F (k+1) (⟨v3,v4,v0,b⟩:I.ao) a (v0.length:Int) (v0));rw[<-Ps F (k+1) (⟨v3,v4,v0,b⟩:I.ao) a];simp only[wc,a_,Ps];simp only[bT]
 kernel_rfl)
noncomputable def M7(F:Nat)(k:Nat)(c_:I.ao)(a:Int)(b:Int):=dg ((c_.bn.length:Int)=b/\True) (bf (rT F c_ k a))
theorem Pt(F:Nat)(k:Nat)(c_:I.ao)(a:Int):bf (rT F c_ k a)=M7 F k (⟨[],[],[],c_.bn⟩:I.ao) a (c_.bn.length:Int):=(show bf (rT F c_ k a)=bf (rT F (⟨[],[],[],c_.bn⟩:I.ao) k a) by kernel_rfl).trans (dA ⟨rfl,trivial⟩).symm
theorem aEb(F:Nat)(k:Nat)(c_:I.ao)(a:Int):bf (CA F c_ k a)=M7 F k (⟨[],[],[],c_.bn⟩:I.ao) a (c_.bn.length:Int):=(show bf (CA F c_ k a)=bf (rT F c_ k a) by kernel_rfl).trans (Pt F k c_ a)
noncomputable def aot(F:Nat):aP aE:=(asd F).bY 107 4 F ⟨[54,55,56],[.p (.l 131),.p (.i .i64),.p (.i .i64)],[],
 [⟨⟨.nm,[],[],[]⟩,Unit,λ d r=>((),())⟩,
  ⟨⟨.rt,[2],[.p (.i .i64)],[]⟩,Int,λ d r=>((r,()),())⟩],
 λ k d=>M7 F k (⟨[],[],[],d.1.1⟩:I.ao) d.1.2.2.1 d.1.2.1⟩ (bL.bV (λ d=>dz) λ k da db q h=>by
 obtain⟨(v0:List I.Method),(v1:Int),(a:Int),_⟩:=da
 obtain⟨b,_⟩:=ea h
 dsimp only at b
 obtain⟨rfl,_⟩:=b
 conv=>rhs;change dV (α:=Unit⊕Int) _ (M7 F (k+1) (⟨[],[],[],v0⟩:I.ao) a (v0.length:Int));rw[<-Pt F (k+1) (⟨[],[],[],v0⟩:I.ao) a];simp only[rT,a_,Pt];simp only[bT]
 kernel_rfl)
noncomputable def aoE(F:Nat):aP aE:=(aot F).rt 107 ⟨[.a [.s,.s,.l 136,.l 131]],[],[.p (.i .i64)],[],Int,λ d=>Jp F (GG d.1.1),λ d r=>((r,()),())⟩ λ da db=>by
 obtain⟨⟨(v0:List UInt8),(v1:List UInt8),(a:List I.Field),(v3:List I.Method),_⟩,_⟩:=da;conv=>rhs;simp only[Jp,a_,Ps,aEa,Pt,aEb]
 kernel_rfl
noncomputable def Uq(F:Nat)(k:Nat)(a:List I.ao)(b:Int)(c:Int):=dg ((a.length:Int)=c/\True) (bf (yT F a k b))
theorem Yx(F:Nat)(k:Nat)(a:List I.ao)(b:Int):bf (yT F a k b)=Uq F k a b (a.length:Int):=(dA ⟨rfl,trivial⟩).symm
noncomputable def aoP(F:Nat):aP aE:=(aoE F).bY 74 0 F ⟨[9,10,11],[.p (.l 134),.p (.i .i64),.p (.i .i64)],[],
 [⟨⟨.nm,[],[],[]⟩,Unit,λ d r=>((),())⟩,
  ⟨⟨.rt,[2],[.p (.i .i64)],[]⟩,Int,λ d r=>((r,()),())⟩],
 λ k d=>Uq F k d.1.1 d.1.2.2.1 d.1.2.1⟩ (bL.bV (λ d=>dz) λ k da db q h=>by
 obtain⟨(v0:List I.ao),(v1:Int),(a:Int),_⟩:=da
 obtain⟨b,_⟩:=ea h
 dsimp only at b
 obtain⟨rfl,_⟩:=b
 conv=>rhs;change dV (α:=Unit⊕Int) _ (Uq F (k+1) v0 a (v0.length:Int));rw[<-Yx F (k+1) v0 a];simp only[yT,a_,Yx];simp only[bT]
 kernel_rfl)
noncomputable def ao0(F:Nat):aP aE:=(aoP F).rt 74 ⟨[.p (.l 134)],[],[.p (.i .i64)],[],Int,λ d=>Jo F d.1.1,λ d r=>((r,()),())⟩ λ da db=>by
 obtain⟨(v0:List I.ao),_⟩:=da;conv=>rhs;simp only[Jo,a_,Yx]
 kernel_rfl
noncomputable def ao'(F:Nat):aP aE:=(ao0 F).bY 75 2 F ⟨[3,5,8,9,10,23,24,25],[.p (.R 0),.p (.B 1),.p (.l 134),.p (.i .i64),.p (.i .i64),.p (.R 3),.p (.i .i64),.p (.i .i64)],[.r 134 false,ai8,.r 136 true,.r 131 true],
 [⟨⟨.nm,[3,5,8,9,10],[.p (.R 0),.p (.B 1),.p (.l 134),.p (.i .i64),.p (.i .i64)],[.r 134 false,ai8,.r 136 true,.r 131 true]⟩,List I.Method,λ d r=>(((),(),d.1.2.2.1,d.1.2.2.2.1,d.1.2.2.2.2.1,()),(d.2.1,(d.2.2.1.1,d.2.2.1.2.1,(),(),()),d.2.2.2.1,r,()))⟩],
 λ k d=>tX k d.2.2.2.2.1 d.1.2.2.2.2.2.2.1 d.1.2.2.2.2.2.2.2.1⟩ (bL.bV (λ d=>rfl) λ k da db q h=>by
 obtain⟨_,_,(v0:List I.ao),(v1:Int),(a:Int),_,(v3:Int),(v4:Int),_⟩:=da
 obtain⟨(v5:List I.ao),⟨(b:List UInt8),(c:List UInt8),_,_,_⟩,(cE:List I.Field),(v9:List I.Method),_⟩:=db
 conv=>rhs;simp only[tX,a_,ZZ,Z0];simp only[bT]
 kernel_rfl)
noncomputable def UM(F:Nat)(k:Nat)(a:List I.ao)(b:List I.ao)(c:Int)(d:Int):=dg ((a.length:Int)=d/\True) (r7 F a k b c)
theorem YT(F:Nat)(k:Nat)(a:List I.ao)(b:List I.ao)(c:Int):r7 F a k b c=UM F k a b c (a.length:Int):=(dA ⟨rfl,trivial⟩).symm
noncomputable def apk(F:Nat):aP aE:=(ao' F).bY 75 0 F ⟨[3,8,9,10],[.p (.R 0),.p (.l 134),.p (.i .i64),.p (.i .i64)],[.r 134 false],
 [⟨⟨.nm,[3],[.p (.R 0)],[.r 134 false]⟩,List I.ao,λ d r=>(((),()),(r,()))⟩],
 λ k d=>UM F k d.1.2.1 d.2.1 d.1.2.2.2.1 d.1.2.2.1⟩ (bL.bV (λ d=>dz) λ k da db q h=>by
 obtain⟨_,(v0:List I.ao),(v1:Int),(a:Int),_⟩:=da
 obtain⟨(v3:List I.ao),_⟩:=db
 obtain⟨b,_⟩:=ea h
 dsimp only at b
 obtain⟨rfl,_⟩:=b
 conv=>rhs;change dV (α:=List I.ao) _ (UM F (k+1) v0 v3 a (v0.length:Int));rw[<-YT F (k+1) v0 v3 a];simp only[r7,a_,YT,ZY,Z1];simp only[bT]
 kernel_rfl)
noncomputable def apv(F:Nat):aP aE:=(apk F).rt 75 ⟨[.p (.l 134)],[],[.p (.l 134)],[],List I.ao,λ d=>JF F d.1.1,λ d r=>((r,()),())⟩ λ da db=>by
 obtain⟨(v0:List I.ao),_⟩:=da;conv=>rhs;simp only[JF,a_,YT]
 kernel_rfl
noncomputable def UC(k:Nat)(a:I.bs)(b:List ((List UInt8)×Int))(c:Int)(d:Int)(aS:List I.ao):=dg ((a.l.length:Int)=d/\(a.l:List I.ao)=aS/\True) (bf (pg a k b c))
theorem YJ(k:Nat)(a:I.bs)(b:List ((List UInt8)×Int))(c:Int):bf (pg a k b c)=UC k (⟨a.l,[],a.du⟩:I.bs) b c (a.l.length:Int) a.l:=(show bf (pg a k b c)=bf (pg (⟨a.l,[],a.du⟩:I.bs) k b c) by kernel_rfl).trans (dA ⟨rfl,rfl,trivial⟩).symm
noncomputable def apG(F:Nat):aP aE:=(apv F).bY 76 0 F ⟨[0,14,15,16],[.p (.B 0),.p (.l 134),.p (.i .i64),.p (.i .i64)],[kI,.m 9 3,.r 3 true],
 [⟨⟨.nm,[0],[.p (.B 0)],[kI,.m 9 3,.r 3 true]⟩,List ((List UInt8)×Int),λ d r=>(((),()),((d.2.1.1,(),(),()),r,d.2.2.2.1,()))⟩,
  ⟨⟨.rt,[2],[.p (.i .i64)],[kI,.m 9 3,.r 3 true]⟩,Int×I.bs,λ d r=>((r.1,()),((d.2.1.1,(),(),()),r.2.bZ,d.2.2.2.1,()))⟩],
 λ k d=>UC k (⟨d.1.2.1,[],d.2.2.2.1⟩:I.bs) d.2.2.1 d.1.2.2.2.1 d.1.2.2.1 d.2.1.1⟩ (bL.bV (λ d=>dz) λ k da db q h=>by
 obtain⟨_,(v0:List I.ao),(v1:Int),(a:Int),_⟩:=da
 obtain⟨⟨(v3:List I.ao),_,_,_⟩,(v4:List ((List UInt8)×Int)),(v5:List Int),_⟩:=db
 obtain⟨b,_⟩:=ea h
 dsimp only at b
 obtain⟨rfl,rfl,_⟩:=b
 conv=>rhs;change dV (α:=(List ((List UInt8)×Int))⊕(Int×I.bs)) _ (UC (k+1) (⟨v0,[],v5⟩:I.bs) v4 a (v0.length:Int) (v0));rw[<-YJ (k+1) (⟨v0,[],v5⟩:I.bs) v4 a];simp only[pg,a_,YJ];simp only[bT]
 kernel_rfl)
noncomputable def apR(F:Nat):aP aE:=(apG F).rt 76 ⟨[.p (.B 0)],[kI,.m 9 3,.r 3 true],[.p (.i .i64)],[kI,.m 9 3,.r 3 true],Int×I.bs,λ d=>FO F (⟨d.2.1.1,d.2.2.1,d.2.2.2.1⟩:I.bs),λ d r=>((r.1,()),((d.2.1.1,(),(),()),r.2.bZ,d.2.2.2.1,()))⟩ λ da db=>by
 obtain⟨_,_⟩:=da;obtain⟨⟨(v0:List I.ao),_,_,_⟩,(v1:List ((List UInt8)×Int)),(a:List Int),_⟩:=db;conv=>rhs;simp only[FO,a_,YJ]
 kernel_rfl
noncomputable def Uu(k:Nat)(a:I.bs)(b:Int)(c:Int)(aS:List I.ao):=dg ((a.l.length:Int)=c/\(a.l:List I.ao)=aS/\True) (bf (wI a k b))
theorem YB(k:Nat)(a:I.bs)(b:Int):bf (wI a k b)=Uu k a b (a.l.length:Int) a.l:=(dA ⟨rfl,rfl,trivial⟩).symm
noncomputable def ap2(F:Nat):aP aE:=(apR F).bY 77 0 F ⟨[0,14,15,16],[.p (.B 0),.p (.l 134),.p (.i .i64),.p (.i .i64)],[kI,.m 9 3,.r 3 true],
 [⟨⟨.nm,[0],[.p (.B 0)],[kI,.m 9 3,.r 3 true]⟩,Unit,λ d r=>(((),()),((d.2.1.1,(),(),()),d.2.2.1,d.2.2.2.1,()))⟩,
  ⟨⟨.rt,[2],[.p (.i .i64)],[kI,.m 9 3,.r 3 true]⟩,Int×I.bs,λ d r=>((r.1,()),((d.2.1.1,(),(),()),d.2.2.1,r.2.du,()))⟩],
 λ k d=>Uu k (⟨d.1.2.1,d.2.2.1,d.2.2.2.1⟩:I.bs) d.1.2.2.2.1 d.1.2.2.1 d.2.1.1⟩ (bL.bV (λ d=>dz) λ k da db q h=>by
 obtain⟨_,(v0:List I.ao),(v1:Int),(a:Int),_⟩:=da
 obtain⟨⟨(v3:List I.ao),_,_,_⟩,(v4:List ((List UInt8)×Int)),(v5:List Int),_⟩:=db
 obtain⟨b,_⟩:=ea h
 dsimp only at b
 obtain⟨rfl,rfl,_⟩:=b
 conv=>rhs;change dV (α:=Unit⊕(Int×I.bs)) _ (Uu (k+1) (⟨v0,v4,v5⟩:I.bs) a (v0.length:Int) (v0));rw[<-YB (k+1) (⟨v0,v4,v5⟩:I.bs) a];simp only[wI,a_,YB];simp only[bT]
 kernel_rfl)
noncomputable def Uv(k:Nat)(a:I.bs)(b:List Int)(c:Int)(d:Int)(aS:List I.ao):=dg ((a.l.length:Int)=d/\(a.l:List I.ao)=aS/\True) (bf (mQ a k b c))
theorem YC(k:Nat)(a:I.bs)(b:List Int)(c:Int):bf (mQ a k b c)=Uv k (⟨a.l,a.bZ,[]⟩:I.bs) b c (a.l.length:Int) a.l:=(show bf (mQ a k b c)=bf (mQ (⟨a.l,a.bZ,[]⟩:I.bs) k b c) by kernel_rfl).trans (dA ⟨rfl,rfl,trivial⟩).symm
noncomputable def aqb(F:Nat):aP aE:=(ap2 F).bY 77 2 F ⟨[0,31,32,33],[.p (.B 0),.p (.l 134),.p (.i .i64),.p (.i .i64)],[kI,.m 9 3,.r 3 false],
 [⟨⟨.nm,[0],[.p (.B 0)],[kI,.m 9 3,.r 3 false]⟩,List Int,λ d r=>(((),()),((d.2.1.1,(),(),()),d.2.2.1,r,()))⟩,
  ⟨⟨.rt,[2],[.p (.i .i64)],[kI,.m 9 3,.r 3 false]⟩,Int×I.bs,λ d r=>((r.1,()),((d.2.1.1,(),(),()),d.2.2.1,r.2.du,()))⟩],
 λ k d=>Uv k (⟨d.1.2.1,d.2.2.1,[]⟩:I.bs) d.2.2.2.1 d.1.2.2.2.1 d.1.2.2.1 d.2.1.1⟩ (bL.bV (λ d=>dz) λ k da db q h=>by
 obtain⟨_,(v0:List I.ao),(v1:Int),(a:Int),_⟩:=da
 obtain⟨⟨(v3:List I.ao),_,_,_⟩,(v4:List ((List UInt8)×Int)),(v5:List Int),_⟩:=db
 obtain⟨b,_⟩:=ea h
 dsimp only at b
 obtain⟨rfl,rfl,_⟩:=b
 conv=>rhs;change dV (α:=(List Int)⊕(Int×I.bs)) _ (Uv (k+1) (⟨v0,v4,[]⟩:I.bs) v5 a (v0.length:Int) (v0));rw[<-YC (k+1) (⟨v0,v4,[]⟩:I.bs) v5 a];simp only[mQ,a_,YC];simp only[bT]
 kernel_rfl)
noncomputable def Ux(k:Nat)(a:I.bs)(b:List Int)(wR:Int)(wS:Int)(c:Int)(aS:Int):=dg ((a.l.length:Int)=c/\(a.l.length:Int)=aS/\True) (tV a b k wR wS)
theorem YE(k:Nat)(a:I.bs)(b:List Int)(wR:Int)(wS:Int):tV a b k wR wS=Ux k (⟨a.l,a.bZ,[]⟩:I.bs) b wR wS (a.l.length:Int) (a.l.length:Int):=(show tV a b k wR wS=tV (⟨a.l,a.bZ,[]⟩:I.bs) b k wR wS by kernel_rfl).trans (dA ⟨rfl,rfl,trivial⟩).symm
noncomputable def aql(F:Nat):aP aE:=(aqb F).bY 77 7 F ⟨[0,10,69,70,78,79],[.p (.B 0),.p (.i .i64),.p (.i .i64),.p (.i .i64),.p (.i .i64),.p (.i .i64)],[kI,.m 9 3,.r 3 true],
 [⟨⟨.nm,[0,10,69,70],[.p (.B 0),.p (.i .i64),.p (.i .i64),.p (.i .i64)],[kI,.m 9 3,.r 3 true]⟩,Int,λ d r=>(((),r,d.1.2.2.1,d.1.2.2.2.1,()),((d.2.1.1,(),(),()),d.2.2.1,d.2.2.2.1,()))⟩],
 λ k d=>Ux k (⟨d.2.1.1,d.2.2.1,[]⟩:I.bs) d.2.2.2.1 d.1.2.1 d.1.2.2.2.2.2.1 d.1.2.2.1 d.1.2.2.2.2.1⟩ (bL.bV (λ d=>dz) λ k da db q h=>by
 obtain⟨_,(v0:Int),(v1:Int),(e:Int),(v3:Int),(v4:Int),_⟩:=da
 obtain⟨⟨(v5:List I.ao),_,_,_⟩,(a:List ((List UInt8)×Int)),(b:List Int),_⟩:=db
 obtain⟨c,_⟩:=ea h
 dsimp only at c
 obtain⟨rfl,rfl,_⟩:=c
 conv=>rhs;change dV (α:=Int) _ (Ux (k+1) (⟨v5,a,[]⟩:I.bs) b v0 v4 (v5.length:Int) (v5.length:Int));rw[<-YE (k+1) (⟨v5,a,[]⟩:I.bs) b v0 v4];simp only[tV,a_,YE];simp only[bT]
 kernel_rfl)
noncomputable def Uw(F:Nat)(k:Nat)(a:I.bs)(b:List Int)(c:Int)(d:Int):=dg ((a.l.length:Int)=d/\True) (bf (r0 F a b k c))
theorem YD(F:Nat)(k:Nat)(a:I.bs)(b:List Int)(c:Int):bf (r0 F a b k c)=Uw F k (⟨a.l,a.bZ,[]⟩:I.bs) b c (a.l.length:Int):=(show bf (r0 F a b k c)=bf (r0 F (⟨a.l,a.bZ,[]⟩:I.bs) b k c) by kernel_rfl).trans (dA ⟨rfl,trivial⟩).symm
noncomputable def aqw(F:Nat):aP aE:=(aql F).bY 77 5 F ⟨[0,69,70],[.p (.B 0),.p (.i .i64),.p (.i .i64)],[kI,.m 9 3,.r 3 true],
 [⟨⟨.nm,[],[],[kI,.m 9 3,.r 3 true]⟩,Unit,λ d r=>((),((d.2.1.1,(),(),()),d.2.2.1,d.2.2.2.1,()))⟩,
  ⟨⟨.rt,[2],[.p (.i .i64)],[kI,.m 9 3,.r 3 true]⟩,Int×I.bs,λ d r=>((r.1,()),((d.2.1.1,(),(),()),d.2.2.1,r.2.du,()))⟩],
 λ k d=>Uw F k (⟨d.2.1.1,d.2.2.1,[]⟩:I.bs) d.2.2.2.1 d.1.2.2.1 d.1.2.1⟩ (bL.bV (λ d=>dz) λ k da db q h=>by
 obtain⟨_,(v0:Int),(v1:Int),_⟩:=da
 obtain⟨⟨(a:List I.ao),_,_,_⟩,(v3:List ((List UInt8)×Int)),(v4:List Int),_⟩:=db
 obtain⟨b,_⟩:=ea h
 dsimp only at b
 obtain⟨rfl,_⟩:=b
 conv=>rhs;change dV (α:=Unit⊕(Int×I.bs)) _ (Uw F (k+1) (⟨a,v3,[]⟩:I.bs) v4 v1 (a.length:Int));rw[<-YD F (k+1) (⟨a,v3,[]⟩:I.bs) v4 v1];simp only[r0,a_,YE,YD];simp only[bT]
 kernel_rfl)
noncomputable def aqH(F:Nat):aP aE:=(aqw F).rt 77 ⟨[.p (.B 0)],[kI,.m 9 3,.r 3 false],[.p (.i .i64)],[kI,.m 9 3,.r 3 false],Int×I.bs,λ d=>On F (⟨d.2.1.1,d.2.2.1,d.2.2.2.1⟩:I.bs),λ d r=>((r.1,()),((d.2.1.1,(),(),()),d.2.2.1,r.2.du,()))⟩ λ da db=>by
 obtain⟨_,_⟩:=da;obtain⟨⟨(v0:List I.ao),_,_,_⟩,(v1:List ((List UInt8)×Int)),(a:List Int),_⟩:=db;conv=>rhs;simp only[On,a_,YB,YC,YD]
 kernel_rfl
noncomputable def aqS(F:Nat):aP aE:=(aqH F).rt 78 ⟨[.p (.B 0)],[ep,.m 9 3],[.p (.i .i64)],[ep,.m 9 3],Int,λ d=>Oo F (⟨d.2.1.1,d.2.2.1,d.2.1.2.2.1⟩:I.bs),λ d r=>((r,()),((d.2.1.1,(),d.2.1.2.2.1,()),d.2.2.1,()))⟩ λ da db=>by
 conv=>rhs;simp only[Oo,a_]
 kernel_rfl
noncomputable def aqW(F:Nat):aP aE:=(aqS F).rt 112 ⟨[.a [.i .i64,.s],.p (.B 0)],[.c 120 [.R 1],.r 9 false],[],[.c 120 [.R 1],.r 9 false],List (List UInt8),λ d=>CW (KQ d.1.1) d.2.2.1,λ d r=>((),(((),()),r,()))⟩ λ da db=>by
 conv=>rhs;simp only[CW,a_]
 kernel_rfl
noncomputable def UH(k:Nat)(a:I.ao)(c:List (List UInt8))(d:Int)(bN:Int)(b:List I.Field):=dg ((a.Fields.length:Int)=bN/\(a.Fields:List I.Field)=b/\True) (wL a k c d)
theorem YO(k:Nat)(a:I.ao)(b:List (List UInt8))(c:Int):wL a k b c=UH k a b c (a.Fields.length:Int) a.Fields:=(dA ⟨rfl,rfl,trivial⟩).symm
noncomputable def aqX(F:Nat):aP aE:=(aqW F).bY 79 2 F ⟨[0,3,4,6,23,24,25,30,31,32],[.p (.B 0),.p (.B 2),.f 112 [.B 2],.p (.B 4),.p (.l 134),.p (.i .i64),.p (.i .i64),.p (.l 136),.p (.i .i64),.p (.i .i64)],[ep,.m 9 3,.c 120 [.R 3],.r 9 false,h8],
 [⟨⟨.nm,[0,3,4,6,23,24,25],[.p (.B 0),.p (.B 2),.f 112 [.B 2],.p (.B 4),.p (.l 134),.p (.i .i64),.p (.i .i64)],[ep,.m 9 3,.c 120 [.R 3],.r 9 false,h8]⟩,List (List UInt8),λ d r=>(((),(),((),()),(),d.1.2.2.2.2.1,d.1.2.2.2.2.2.1,d.1.2.2.2.2.2.2.1,()),((d.2.1.1,(),d.2.1.2.2.1,()),d.2.2.1,((),()),r,d.2.2.2.2.2.1,()))⟩],
 λ k d=>UH k (⟨d.2.2.2.2.2.1.1,d.2.2.2.2.2.1.2.1,d.1.2.2.2.2.2.2.2.1,d.2.2.2.2.2.1.2.2.2.1⟩:I.ao) d.2.2.2.2.1 d.1.2.2.2.2.2.2.2.2.2.1 d.1.2.2.2.2.2.2.2.2.1 d.2.2.2.2.2.1.2.2.1⟩ (bL.bV (λ d=>dz) λ k da db q h=>by
 obtain⟨_,_,⟨_,_⟩,_,(v0:List I.ao),(v1:Int),(g:Int),(v3:List I.Field),(v4:Int),(v5:Int),_⟩:=da
 obtain⟨⟨(i:List I.ao),_,(j:List Int),_⟩,(cE:List ((List UInt8)×Int)),⟨_,_⟩,(v9:List (List UInt8)),⟨(a:List UInt8),(b:List UInt8),(f:List I.Field),(c:List I.Method),_⟩,_⟩:=db
 obtain⟨e,_⟩:=ea h
 dsimp only at e
 obtain⟨rfl,rfl,_⟩:=e
 conv=>rhs;change dV (α:=List (List UInt8)) _ (UH (k+1) (⟨a,b,v3,c⟩:I.ao) v9 v5 (v3.length:Int) (v3));rw[<-YO (k+1) (⟨a,b,v3,c⟩:I.ao) v9 v5];simp only[wL,a_,YO];simp only[bT]
 kernel_rfl)
noncomputable def UJ(k:Nat)(gp:I.Method)(b:List (List UInt8))(c:Int)(d:Int)(a:List I.Kind):=dg ((gp.cA.length:Int)=d/\(gp.cA:List I.Kind)=a/\True) (wM gp k b c)
theorem YQ(k:Nat)(gp:I.Method)(a:List (List UInt8))(b:Int):wM gp k a b=UJ k gp a b (gp.cA.length:Int) gp.cA:=(dA ⟨rfl,rfl,trivial⟩).symm
noncomputable def aq6(F:Nat):aP aE:=(aqX F).bY 79 6 F ⟨[0,3,4,10,23,24,25,42,43,44,49,50,51],[.p (.B 0),.p (.B 2),.f 112 [.B 2],.p (.B 4),.p (.l 134),.p (.i .i64),.p (.i .i64),.p (.l 131),.p (.i .i64),.p (.i .i64),.p (.l 128),.p (.i .i64),.p (.i .i64)],[ep,.m 9 3,.c 120 [.R 3],.r 9 false,l5],
 [⟨⟨.nm,[0,3,4,10,23,24,25,42,43,44],[.p (.B 0),.p (.B 2),.f 112 [.B 2],.p (.B 4),.p (.l 134),.p (.i .i64),.p (.i .i64),.p (.l 131),.p (.i .i64),.p (.i .i64)],[ep,.m 9 3,.c 120 [.R 3],.r 9 false,l5]⟩,List (List UInt8),λ d r=>(((),(),((),()),(),d.1.2.2.2.2.1,d.1.2.2.2.2.2.1,d.1.2.2.2.2.2.2.1,d.1.2.2.2.2.2.2.2.1,d.1.2.2.2.2.2.2.2.2.1,d.1.2.2.2.2.2.2.2.2.2.1,()),((d.2.1.1,(),d.2.1.2.2.1,()),d.2.2.1,((),()),r,d.2.2.2.2.2.1,()))⟩],
 λ k d=>UJ k (⟨d.2.2.2.2.2.1.1,d.2.2.2.2.2.1.2.1,d.1.2.2.2.2.2.2.2.2.2.2.1,(KQ d.2.2.2.2.2.1.2.2.2),d.2.2.2.2.2.1.2.2.2.2.2.1,d.2.2.2.2.2.1.2.2.2.2.2.2.1,d.2.2.2.2.2.1.2.2.2.2.2.2.2.1,d.2.2.2.2.2.1.2.2.2.2.2.2.2.2.1⟩:I.Method) d.2.2.2.2.1 d.1.2.2.2.2.2.2.2.2.2.2.2.2.1 d.1.2.2.2.2.2.2.2.2.2.2.2.1 d.2.2.2.2.2.1.2.2.1⟩ (bL.bV (λ d=>dz) λ k da db q h=>by
 obtain⟨_,_,⟨_,_⟩,_,(v0:List I.ao),(v1:Int),(p:Int),(v3:List I.Method),(v4:Int),(v5:Int),(f:List I.Kind),(s:Int),(cE:Int),_⟩:=da
 obtain⟨⟨(v9:List I.ao),_,(n:List Int),_⟩,(o:List ((List UInt8)×Int)),⟨_,_⟩,(a:List (List UInt8)),⟨(g:List UInt8),(i:Bool),(t:List I.Kind),(gn:Int),(b:List UInt8),(j:Int),(l:Int),(c:List UInt8),(e:List I.Handler),_⟩,_⟩:=db
 obtain⟨m,_⟩:=ea h
 dsimp only at m
 obtain⟨rfl,rfl,_⟩:=m
 conv=>rhs;change dV (α:=List (List UInt8)) _ (UJ (k+1) (⟨g,i,f,(⟨gn,b⟩:I.Kind),j,l,c,e⟩:I.Method) a cE (f.length:Int) (f));rw[<-YQ (k+1) (⟨g,i,f,(⟨gn,b⟩:I.Kind),j,l,c,e⟩:I.Method) a cE];simp only[wM,a_,YQ];simp only[bT]
 kernel_rfl)
noncomputable def UK(k:Nat)(gp:I.Method)(a:List (List UInt8))(b:Int)(c:Int):=dg ((gp.cG.length:Int)=c/\True) (r6 gp k a b)
theorem YR(k:Nat)(gp:I.Method)(a:List (List UInt8))(b:Int):r6 gp k a b=UK k (⟨[],false,[],(⟨0,[]⟩:I.Kind),0,0,[],gp.cG⟩:I.Method) a b (gp.cG.length:Int):=(show r6 gp k a b=r6 (⟨[],false,[],(⟨0,[]⟩:I.Kind),0,0,[],gp.cG⟩:I.Method) k a b by kernel_rfl).trans (dA ⟨rfl,trivial⟩).symm
noncomputable def aq9(F:Nat):aP aE:=(aq6 F).bY 79 8 F ⟨[0,3,4,23,24,25,42,43,44,64,65,66],[.p (.B 0),.p (.B 2),.f 112 [.B 2],.p (.l 134),.p (.i .i64),.p (.i .i64),.p (.l 131),.p (.i .i64),.p (.i .i64),.p (.l 157),.p (.i .i64),.p (.i .i64)],[ep,.m 9 3,.c 120 [.R 3],.r 9 false],
 [⟨⟨.nm,[0,3,4,23,24,25,42,43,44],[.p (.B 0),.p (.B 2),.f 112 [.B 2],.p (.l 134),.p (.i .i64),.p (.i .i64),.p (.l 131),.p (.i .i64),.p (.i .i64)],[ep,.m 9 3,.c 120 [.R 3],.r 9 false]⟩,List (List UInt8),λ d r=>(((),(),((),()),d.1.2.2.2.1,d.1.2.2.2.2.1,d.1.2.2.2.2.2.1,d.1.2.2.2.2.2.2.1,d.1.2.2.2.2.2.2.2.1,d.1.2.2.2.2.2.2.2.2.1,()),((d.2.1.1,(),d.2.1.2.2.1,()),d.2.2.1,((),()),r,()))⟩],
 λ k d=>UK k (⟨[],false,[],(⟨0,[]⟩:I.Kind),0,0,[],d.1.2.2.2.2.2.2.2.2.2.1⟩:I.Method) d.2.2.2.2.1 d.1.2.2.2.2.2.2.2.2.2.2.2.1 d.1.2.2.2.2.2.2.2.2.2.2.1⟩ (bL.bV (λ d=>dz) λ k da db q h=>by
 obtain⟨_,_,⟨_,_⟩,(v0:List I.ao),(v1:Int),(g:Int),(v3:List I.Method),(v4:Int),(v5:Int),(b:List I.Handler),(i:Int),(cE:Int),_⟩:=da
 obtain⟨⟨(v9:List I.ao),_,(e:List Int),_⟩,(f:List ((List UInt8)×Int)),⟨_,_⟩,(a:List (List UInt8)),_⟩:=db
 obtain⟨c,_⟩:=ea h
 dsimp only at c
 obtain⟨rfl,_⟩:=c
 conv=>rhs;change dV (α:=List (List UInt8)) _ (UK (k+1) (⟨[],false,[],(⟨0,[]⟩:I.Kind),0,0,[],b⟩:I.Method) a cE (b.length:Int));rw[<-YR (k+1) (⟨[],false,[],(⟨0,[]⟩:I.Kind),0,0,[],b⟩:I.Method) a cE];simp only[r6,a_,YR];simp only[bT]
 kernel_rfl)
noncomputable def UI(F:Nat)(k:Nat)(a:I.ao)(b:List (List UInt8))(c:Int)(bN:Int):=dg ((a.bn.length:Int)=bN/\True) (r5 F a k b c)
theorem YP(F:Nat)(k:Nat)(a:I.ao)(b:List (List UInt8))(c:Int):r5 F a k b c=UI F k (⟨[],[],[],a.bn⟩:I.ao) b c (a.bn.length:Int):=(show r5 F a k b c=r5 F (⟨[],[],[],a.bn⟩:I.ao) k b c by kernel_rfl).trans (dA ⟨rfl,trivial⟩).symm
noncomputable def aq_(F:Nat):aP aE:=(aq9 F).bY 79 4 F ⟨[0,3,4,23,24,25,42,43,44],[.p (.B 0),.p (.B 2),.f 112 [.B 2],.p (.l 134),.p (.i .i64),.p (.i .i64),.p (.l 131),.p (.i .i64),.p (.i .i64)],[ep,.m 9 3,.c 120 [.R 3],.r 9 false],
 [⟨⟨.nm,[0,3,4,23,24,25],[.p (.B 0),.p (.B 2),.f 112 [.B 2],.p (.l 134),.p (.i .i64),.p (.i .i64)],[ep,.m 9 3,.c 120 [.R 3],.r 9 false]⟩,List (List UInt8),λ d r=>(((),(),((),()),d.1.2.2.2.1,d.1.2.2.2.2.1,d.1.2.2.2.2.2.1,()),((d.2.1.1,(),d.2.1.2.2.1,()),d.2.2.1,((),()),r,()))⟩],
 λ k d=>UI F k (⟨[],[],[],d.1.2.2.2.2.2.2.1⟩:I.ao) d.2.2.2.2.1 d.1.2.2.2.2.2.2.2.2.1 d.1.2.2.2.2.2.2.2.1⟩ (bL.bV (λ d=>dz) λ k da db q h=>by
 obtain⟨_,_,⟨_,_⟩,(v0:List I.ao),(v1:Int),(b:Int),(v3:List I.Method),(v4:Int),(v5:Int),_⟩:=da
 obtain⟨⟨(c:List I.ao),_,(e:List Int),_⟩,(cE:List ((List UInt8)×Int)),⟨_,_⟩,(v9:List (List UInt8)),_⟩:=db
 obtain⟨a,_⟩:=ea h
 dsimp only at a
 obtain⟨rfl,_⟩:=a
 conv=>rhs;change dV (α:=List (List UInt8)) _ (UI F (k+1) (⟨[],[],[],v3⟩:I.ao) v9 v5 (v3.length:Int));rw[<-YP F (k+1) (⟨[],[],[],v3⟩:I.ao) v9 v5];simp only[r5,a_,YQ,YR,YP];simp only[bT]
 kernel_rfl)
noncomputable def UG(F:Nat)(k:Nat)(a:I.bs)(b:List (List UInt8))(c:Int)(d:Int)(aS:List I.ao):=dg ((a.l.length:Int)=d/\(a.l:List I.ao)=aS/\True) (wK F a k b c)
theorem YN(F:Nat)(k:Nat)(a:I.bs)(b:List (List UInt8))(c:Int):wK F a k b c=UG F k a b c (a.l.length:Int) a.l:=(dA ⟨rfl,rfl,trivial⟩).symm
noncomputable def ara(F:Nat):aP aE:=(aq_ F).bY 79 0 F ⟨[0,3,4,23,24,25],[.p (.B 0),.p (.B 2),.f 112 [.B 2],.p (.l 134),.p (.i .i64),.p (.i .i64)],[ep,.m 9 3,.c 120 [.R 3],.r 9 false],
 [⟨⟨.nm,[0,3],[.p (.B 0),.p (.B 2)],[ep,.m 9 3,.c 120 [.R 3],.r 9 false]⟩,List (List UInt8),λ d r=>(((),(),()),((d.2.1.1,(),d.2.1.2.2.1,()),d.2.2.1,((),()),r,()))⟩],
 λ k d=>UG F k (⟨d.1.2.2.2.1,d.2.2.1,d.2.1.2.2.1⟩:I.bs) d.2.2.2.2.1 d.1.2.2.2.2.2.1 d.1.2.2.2.2.1 d.2.1.1⟩ (bL.bV (λ d=>dz) λ k da db q h=>by
 obtain⟨_,_,⟨_,_⟩,(v0:List I.ao),(v1:Int),(a:Int),_⟩:=da
 obtain⟨⟨(v3:List I.ao),_,(v4:List Int),_⟩,(v5:List ((List UInt8)×Int)),⟨_,_⟩,(b:List (List UInt8)),_⟩:=db
 obtain⟨c,_⟩:=ea h
 dsimp only at c
 obtain⟨rfl,rfl,_⟩:=c
 conv=>rhs;change dV (α:=List (List UInt8)) _ (UG F (k+1) (⟨v0,v5,v4⟩:I.bs) b a (v0.length:Int) (v0));rw[<-YN F (k+1) (⟨v0,v5,v4⟩:I.bs) b a];simp only[wK,a_,YO,YP,YN];simp only[bT]
 kernel_rfl)
noncomputable def UL(k:Nat)(b:I.bs)(a:List (List UInt8))(c:Int)(d:Int):=dg ((a.length:Int)=d/\True) (bf (y9 b a k c))
theorem YS(k:Nat)(b:I.bs)(a:List (List UInt8))(c:Int):bf (y9 b a k c)=UL k b a c (a.length:Int):=(dA ⟨rfl,trivial⟩).symm
noncomputable def arb(F:Nat):aP aE:=(ara F).bY 79 10 F ⟨[0,78,79,80],[.p (.B 0),.p (.R 2),.p (.i .i64),.p (.i .i64)],[ep,.m 9 3,.r 9 true],
 [⟨⟨.nm,[],[],[ep,.m 9 3,.d]⟩,Unit,λ d r=>((),((d.2.1.1,(),d.2.1.2.2.1,()),d.2.2.1,(),()))⟩,
  ⟨⟨.rt,[2],[.p (.i .i64)],[ep,.m 9 3,.d]⟩,Int,λ d r=>((r,()),((d.2.1.1,(),d.2.1.2.2.1,()),d.2.2.1,(),()))⟩],
 λ k d=>UL k (⟨d.2.1.1,d.2.2.1,d.2.1.2.2.1⟩:I.bs) d.2.2.2.1 d.1.2.2.2.1 d.1.2.2.1⟩ (bL.bV (λ d=>dz) λ k da db q h=>by
 obtain⟨_,_,(v0:Int),(v1:Int),_⟩:=da
 obtain⟨⟨(a:List I.ao),_,(v3:List Int),_⟩,(v4:List ((List UInt8)×Int)),(v5:List (List UInt8)),_⟩:=db
 obtain⟨b,_⟩:=ea h
 dsimp only at b
 obtain⟨rfl,_⟩:=b
 conv=>rhs;change dV (α:=Unit⊕Int) _ (UL (k+1) (⟨a,v4,v3⟩:I.bs) v5 v1 (v5.length:Int));rw[<-YS (k+1) (⟨a,v4,v3⟩:I.bs) v5 v1];simp only[y9,a_,YS];simp only[bT]
 kernel_rfl)
noncomputable def arc(F:Nat):aP aE:=(arb F).rt 79 ⟨[.p (.B 0)],[ep,.m 9 3],[.p (.i .i64)],[ep,.m 9 3],Int,λ d=>JE F (⟨d.2.1.1,d.2.2.1,d.2.1.2.2.1⟩:I.bs),λ d r=>((r,()),((d.2.1.1,(),d.2.1.2.2.1,()),d.2.2.1,()))⟩ λ da db=>by
 obtain⟨_,_⟩:=da;obtain⟨⟨(v0:List I.ao),_,(v1:List Int),_⟩,(a:List ((List UInt8)×Int)),_⟩:=db;conv=>rhs;simp only[JE,a_,YN,YS]
 kernel_rfl
noncomputable def UN(k:Nat)(a:List (List UInt8))(b:List ((List UInt8)×Bool))(c:Int)(d:List (List UInt8))(ak:Int):=dg ((a:List (List UInt8))=d/\(a.length:Int)=ak/\True) (y_ a k b c)
theorem YU(k:Nat)(a:List (List UInt8))(b:List ((List UInt8)×Bool))(c:Int):y_ a k b c=UN k a b c a (a.length:Int):=(dA ⟨rfl,rfl,trivial⟩).symm
noncomputable def ard(F:Nat):aP aE:=(arc F).bY 113 0 F ⟨[0,3,7,8,9],[.p (.l 9),.p (.M 0),.p (.l 9),.p (.i .i64),.p (.i .i64)],[.m 9 4],
 [⟨⟨.nm,[0,3],[.p (.l 9),.p (.M 0)],[.m 9 4]⟩,List ((List UInt8)×Bool),λ d r=>((d.1.1,(),()),(r,()))⟩],
 λ k d=>UN k d.1.1 d.2.1 d.1.2.2.2.2.1 d.1.2.2.1 d.1.2.2.2.1⟩ (bL.bV (λ d=>dz) λ k da db q h=>by
 obtain⟨(v0:List (List UInt8)),_,(v1:List (List UInt8)),(b:Int),(v3:Int),_⟩:=da
 obtain⟨(v4:List ((List UInt8)×Bool)),_⟩:=db
 obtain⟨a,_⟩:=ea h
 dsimp only at a
 obtain⟨rfl,rfl,_⟩:=a
 conv=>rhs;change dV (α:=List ((List UInt8)×Bool)) _ (UN (k+1) v0 v4 v3 (v0) (v0.length:Int));rw[<-YU (k+1) v0 v4 v3];simp only[y_,a_,YU];simp only[bT]
 kernel_rfl)
noncomputable def arf(F:Nat):aP aE:=(ard F).rt 113 ⟨[.p (.l 9)],[],[.p (.b)],[],Bool,λ d=>FQ F d.1.1,λ d r=>((r,()),())⟩ λ da db=>by
 obtain⟨(v0:List (List UInt8)),_⟩:=da;conv=>rhs;simp only[FQ,a_,YU]
 kernel_rfl
noncomputable def UE(k:Nat)(b:List I.Field)(c:List (List UInt8))(d:Int)(aS:Int)(a:List (List UInt8)):=dg ((b.length:Int)=aS/\([]:List (List UInt8))=a/\True) (wJ b k c d)
theorem YL(k:Nat)(a:List I.Field)(b:List (List UInt8))(c:Int):wJ a k b c=UE k a b c (a.length:Int) []:=(dA ⟨rfl,rfl,trivial⟩).symm
noncomputable def arh(F:Nat):aP aE:=(arf F).bY 80 2 F ⟨[0,4,5,6,14,15,16,23,24,25],[.p (.B 0),.p (.B 2),.p (.R 3),.p (.R 4),.p (.l 134),.p (.i .i64),.p (.i .i64),.p (.R 5),.p (.i .i64),.p (.i .i64)],[ep,.m 9 3,h8,.r 9 false,.r 9 false,.r 136 true],
 [⟨⟨.nm,[0,4,5,6,14,15,16],[.p (.B 0),.p (.B 2),.p (.R 3),.p (.R 4),.p (.l 134),.p (.i .i64),.p (.i .i64)],[ep,.m 9 3,h8,.r 9 false,.r 9 false,.d]⟩,List (List UInt8),λ d r=>(((),(),(),(),d.1.2.2.2.2.1,d.1.2.2.2.2.2.1,d.1.2.2.2.2.2.2.1,()),((d.2.1.1,(),d.2.1.2.2.1,()),d.2.2.1,d.2.2.2.1,r,d.2.2.2.2.2.1,(),()))⟩],
 λ k d=>UE k d.2.2.2.2.2.2.1 d.2.2.2.2.1 d.1.2.2.2.2.2.2.2.2.2.1 d.1.2.2.2.2.2.2.2.2.1 d.2.2.2.2.2.1⟩ (bL.bV (λ d=>dz) λ k da db q h=>by
 obtain⟨_,_,_,_,(v0:List I.ao),(v1:Int),(g:Int),_,(v3:Int),(v4:Int),_⟩:=da
 obtain⟨⟨(v5:List I.ao),_,(i:List Int),_⟩,(j:List ((List UInt8)×Int)),⟨(cE:List UInt8),(v9:List UInt8),(e:List I.Field),(f:List I.Method),_⟩,(a:List (List UInt8)),(l:List (List UInt8)),(b:List I.Field),_⟩:=db
 obtain⟨c,_⟩:=ea h
 dsimp only at c
 obtain⟨rfl,rfl,_⟩:=c
 conv=>rhs;change dV (α:=List (List UInt8)) _ (UE (k+1) b a v4 (b.length:Int) ([]));rw[<-YL (k+1) b a v4];simp only[wJ,a_,YL];simp only[bT]
 kernel_rfl)
noncomputable def UF(k:Nat)(a:I.ao)(b:List (List UInt8))(c:Int)(bN:Int):=dg ((a.bn.length:Int)=bN/\True) (r4 a k b c)
theorem YM(k:Nat)(a:I.ao)(b:List (List UInt8))(c:Int):r4 a k b c=UF k (⟨[],[],[],a.bn⟩:I.ao) b c (a.bn.length:Int):=(show r4 a k b c=r4 (⟨[],[],[],a.bn⟩:I.ao) k b c by kernel_rfl).trans (dA ⟨rfl,trivial⟩).symm
noncomputable def ari(F:Nat):aP aE:=(arh F).bY 80 4 F ⟨[0,5,6,14,15,16,36,37,38],[.p (.B 0),.p (.R 2),.p (.R 3),.p (.l 134),.p (.i .i64),.p (.i .i64),.p (.l 131),.p (.i .i64),.p (.i .i64)],[ep,.m 9 3,.r 9 false,.r 9 false],
 [⟨⟨.nm,[0,5,6,14,15,16],[.p (.B 0),.p (.R 2),.p (.R 3),.p (.l 134),.p (.i .i64),.p (.i .i64)],[ep,.m 9 3,.r 9 false,.r 9 false]⟩,List (List UInt8),λ d r=>(((),(),(),d.1.2.2.2.1,d.1.2.2.2.2.1,d.1.2.2.2.2.2.1,()),((d.2.1.1,(),d.2.1.2.2.1,()),d.2.2.1,d.2.2.2.1,r,()))⟩],
 λ k d=>UF k (⟨[],[],[],d.1.2.2.2.2.2.2.1⟩:I.ao) d.2.2.2.2.1 d.1.2.2.2.2.2.2.2.2.1 d.1.2.2.2.2.2.2.2.1⟩ (bL.bV (λ d=>dz) λ k da db q h=>by
 obtain⟨_,_,_,(v0:List I.ao),(v1:Int),(c:Int),(v3:List I.Method),(v4:Int),(v5:Int),_⟩:=da
 obtain⟨⟨(e:List I.ao),_,(f:List Int),_⟩,(cE:List ((List UInt8)×Int)),(v9:List (List UInt8)),(a:List (List UInt8)),_⟩:=db
 obtain⟨b,_⟩:=ea h
 dsimp only at b
 obtain⟨rfl,_⟩:=b
 conv=>rhs;change dV (α:=List (List UInt8)) _ (UF (k+1) (⟨[],[],[],v3⟩:I.ao) a v5 (v3.length:Int));rw[<-YM (k+1) (⟨[],[],[],v3⟩:I.ao) a v5];simp only[r4,a_,YM];simp only[bT]
 kernel_rfl)
noncomputable def UD(F:Nat)(k:Nat)(a:I.bs)(b:Int)(c:Int)(aS:List I.ao):=dg ((a.l.length:Int)=c/\(a.l:List I.ao)=aS/\True) (bf (y6 F a k b))
theorem YK(F:Nat)(k:Nat)(a:I.bs)(b:Int):bf (y6 F a k b)=UD F k a b (a.l.length:Int) a.l:=(dA ⟨rfl,rfl,trivial⟩).symm
noncomputable def arj(F:Nat):aP aE:=(ari F).bY 80 0 F ⟨[0,14,15,16],[.p (.B 0),.p (.l 134),.p (.i .i64),.p (.i .i64)],[ep,.m 9 3],
 [⟨⟨.nm,[],[],[ep,.m 9 3]⟩,Unit,λ d r=>((),((d.2.1.1,(),d.2.1.2.2.1,()),d.2.2.1,()))⟩,
  ⟨⟨.rt,[2],[.p (.i .i64)],[ep,.m 9 3]⟩,Int,λ d r=>((r,()),((d.2.1.1,(),d.2.1.2.2.1,()),d.2.2.1,()))⟩],
 λ k d=>UD F k (⟨d.1.2.1,d.2.2.1,d.2.1.2.2.1⟩:I.bs) d.1.2.2.2.1 d.1.2.2.1 d.2.1.1⟩ (bL.bV (λ d=>dz) λ k da db q h=>by
 obtain⟨_,(v0:List I.ao),(v1:Int),(a:Int),_⟩:=da
 obtain⟨⟨(v3:List I.ao),_,(v4:List Int),_⟩,(v5:List ((List UInt8)×Int)),_⟩:=db
 obtain⟨b,_⟩:=ea h
 dsimp only at b
 obtain⟨rfl,rfl,_⟩:=b
 conv=>rhs;change dV (α:=Unit⊕Int) _ (UD F (k+1) (⟨v0,v5,v4⟩:I.bs) a (v0.length:Int) (v0));rw[<-YK F (k+1) (⟨v0,v5,v4⟩:I.bs) a];simp only[y6,a_,YL,YM,YK];simp only[bT]
 kernel_rfl)
noncomputable def ark(F:Nat):aP aE:=(arj F).rt 80 ⟨[.p (.B 0)],[ep,.m 9 3],[.p (.i .i64)],[ep,.m 9 3],Int,λ d=>JD F (⟨d.2.1.1,d.2.2.1,d.2.1.2.2.1⟩:I.bs),λ d r=>((r,()),((d.2.1.1,(),d.2.1.2.2.1,()),d.2.2.1,()))⟩ λ da db=>by
 obtain⟨_,_⟩:=da;obtain⟨⟨(v0:List I.ao),_,(v1:List Int),_⟩,(a:List ((List UInt8)×Int)),_⟩:=db;conv=>rhs;simp only[JD,a_,YK]
 kernel_rfl
noncomputable def arl(F:Nat):aP aE:=(ark F).bY 114 0 F ⟨[0,1,5],[.p (.B 0),.p (.i .i64),.p (.R 2)],[ep,.m 9 3,.r 3 false],
 [⟨⟨.nm,[5],[.p (.R 2)],[ep,.m 9 3,.r 3 false]⟩,List Int,λ d r=>(((),()),((d.2.1.1,(),d.2.1.2.2.1,()),d.2.2.1,r,()))⟩],
 λ k d=>r2 (⟨d.2.1.1,d.2.2.1,d.2.1.2.2.1⟩:I.bs) k d.2.2.2.1 d.1.2.1⟩ (bL.bV (λ d=>rfl) λ k da db q h=>by
 conv=>rhs;simp only[r2,a_];simp only[bT]
 kernel_rfl)
noncomputable def arn(F:Nat):aP aE:=(arl F).rt 114 ⟨[.p (.B 0),.p (.i .i64)],[ep,.m 9 3],[.p (.l 3)],[ep,.m 9 3],List Int,λ d=>r1 F (⟨d.2.1.1,d.2.2.1,d.2.1.2.2.1⟩:I.bs) d.1.2.1,λ d r=>((r,()),((d.2.1.1,(),d.2.1.2.2.1,()),d.2.2.1,()))⟩ λ da db=>by
 conv=>rhs;simp only[r1,a_]
 kernel_rfl
noncomputable def UW(k:Nat)(a:List I.Kind)(b:List I.Kind)(c:Int)(ak:Int):=dg ((a.length:Int)=ak/\True) (bf (Dn a b k c))
theorem Y2(k:Nat)(a:List I.Kind)(b:List I.Kind)(c:Int):bf (Dn a b k c)=UW k a b c (a.length:Int):=(dA ⟨rfl,trivial⟩).symm
noncomputable def aro(F:Nat):aP aE:=(arn F).bY 143 0 F ⟨[0,1,12,13],[.p (.l 128),.p (.l 128),.p (.i .i64),.p (.i .i64)],[],
 [⟨⟨.nm,[],[],[]⟩,Unit,λ d r=>((),())⟩,
  ⟨⟨.rt,[4],[.p (.b)],[]⟩,Bool,λ d r=>((r,()),())⟩],
 λ k d=>UW k d.1.1 d.1.2.1 d.1.2.2.2.1 d.1.2.2.1⟩ (bL.bV (λ d=>dz) λ k da db q h=>by
 obtain⟨(v0:List I.Kind),(v1:List I.Kind),(b:Int),(v3:Int),_⟩:=da
 obtain⟨a,_⟩:=ea h
 dsimp only at a
 obtain⟨rfl,_⟩:=a
 conv=>rhs;change dV (α:=Unit⊕Bool) _ (UW (k+1) v0 v1 v3 (v0.length:Int));rw[<-Y2 (k+1) v0 v1 v3];simp only[Dn,a_,Y2];simp only[bT]
 kernel_rfl)
noncomputable def arp(F:Nat):aP aE:=(aro F).rt 143 ⟨[.p (.l 128),.p (.l 128)],[],[.p (.b)],[],Bool,λ d=>KE F d.1.1 d.1.2.1,λ d r=>((r,()),())⟩ λ da db=>by
 obtain⟨(v0:List I.Kind),(v1:List I.Kind),_⟩:=da;conv=>rhs;simp only[KE,a_,Y2]
 kernel_rfl
noncomputable def arq(F:Nat):aP aE:=(arp F).rt 115 ⟨[Pb,Pb],[],[.p (.b)],[],Bool,λ d=>Om F (uC d.1.1) (uC d.1.2.1),λ d r=>((r,()),())⟩ λ da db=>by
 obtain⟨⟨(v0:List UInt8),(v1:Bool),(f:List I.Kind),(v3:Int),(v4:List UInt8),(v5:Int),(g:Int),(h:List UInt8),(cE:List I.Handler),_⟩,⟨(v9:List UInt8),(a:Bool),(b:List I.Kind),(c:Int),(i:List UInt8),(j:Int),(k:Int),(gn:List UInt8),(e:List I.Handler),_⟩,_⟩:=da;conv=>rhs;simp only[Om,a_,aCM]
 kernel_rfl
noncomputable def UB(F:Nat)(k:Nat)(b:I.Method)(a:I.ao)(c:Int)(EW:Int):=dg ((a.bn.length:Int)=EW/\True) (bf (r3 F b a k c))
theorem YI(F:Nat)(k:Nat)(b:I.Method)(a:I.ao)(c:Int):bf (r3 F b a k c)=UB F k b (⟨[],[],[],a.bn⟩:I.ao) c (a.bn.length:Int):=(show bf (r3 F b a k c)=bf (r3 F b (⟨[],[],[],a.bn⟩:I.ao) k c) by kernel_rfl).trans (dA ⟨rfl,trivial⟩).symm
noncomputable def arr(F:Nat):aP aE:=(arq F).bY 81 6 F ⟨[0,4,6,8,14,15,16,24,25,26,31,32,33,44,45,46],[.p (.B 0),.p (.B 2),.p (.i .i64),.p (.B 3),.p (.l 134),.p (.i .i64),.p (.i .i64),.p (.l 3),.p (.i .i64),.p (.i .i64),.p (.l 131),.p (.i .i64),.p (.i .i64),.p (.l 131),.p (.i .i64),.p (.i .i64)],[ep,.m 9 3,h8,l5],
 [⟨⟨.nm,[0,4,6,14,15,16,24,25,26,31,32,33],[.p (.B 0),.p (.B 2),.p (.i .i64),.p (.l 134),.p (.i .i64),.p (.i .i64),.p (.l 3),.p (.i .i64),.p (.i .i64),.p (.l 131),.p (.i .i64),.p (.i .i64)],[ep,.m 9 3,h8,l5]⟩,Unit,λ d r=>(((),(),d.1.2.2.1,d.1.2.2.2.2.1,d.1.2.2.2.2.2.1,d.1.2.2.2.2.2.2.1,d.1.2.2.2.2.2.2.2.1,d.1.2.2.2.2.2.2.2.2.1,d.1.2.2.2.2.2.2.2.2.2.1,d.1.2.2.2.2.2.2.2.2.2.2.1,d.1.2.2.2.2.2.2.2.2.2.2.2.1,d.1.2.2.2.2.2.2.2.2.2.2.2.2.1,()),((d.2.1.1,(),d.2.1.2.2.1,()),d.2.2.1,d.2.2.2.1,d.2.2.2.2.1,()))⟩,
  ⟨⟨.rt,[2],[.p (.i .i64)],[ep,.m 9 3,.d,.d]⟩,Int,λ d r=>((r,()),((d.2.1.1,(),d.2.1.2.2.1,()),d.2.2.1,(),(),()))⟩],
 λ k d=>UB F k (uC d.2.2.2.2.1) (⟨[],[],[],d.1.2.2.2.2.2.2.2.2.2.2.2.2.2.1⟩:I.ao) d.1.2.2.2.2.2.2.2.2.2.2.2.2.2.2.2.1 d.1.2.2.2.2.2.2.2.2.2.2.2.2.2.2.1⟩ (bL.bV (λ d=>dz) λ k da db q h=>by
 obtain⟨_,_,(v0:Int),_,(v1:List I.ao),(p:Int),(v3:Int),(v4:List Int),(v5:Int),(s:Int),(t:List I.Method),(cE:Int),(v9:Int),(a:List I.Method),(n:Int),(b:Int),_⟩:=da
 obtain⟨⟨(u:List I.ao),_,(v:List Int),_⟩,(w:List ((List UInt8)×Int)),⟨(gn:List UInt8),(o:List UInt8),(x:List I.Field),(y:List I.Method),_⟩,⟨(c:List UInt8),(e:Bool),(v22:List I.Kind),(f:Int),(g:List UInt8),(v25:Int),(i:Int),(j:List UInt8),(l:List I.Handler),_⟩,_⟩:=db
 obtain⟨m,_⟩:=ea h
 dsimp only at m
 obtain⟨rfl,_⟩:=m
 conv=>rhs;change dV (α:=Unit⊕Int) _ (UB F (k+1) (⟨c,e,v22,(⟨f,g⟩:I.Kind),v25,i,j,l⟩:I.Method) (⟨[],[],[],a⟩:I.ao) b (a.length:Int));rw[<-YI F (k+1) (⟨c,e,v22,(⟨f,g⟩:I.Kind),v25,i,j,l⟩:I.Method) (⟨[],[],[],a⟩:I.ao) b];simp only[r3,a_,YI];simp only[bT]
 kernel_rfl)
noncomputable def UA(F:Nat)(k:Nat)(a:I.bs)(b:I.ao)(d:Int)(e:Int)(ak:Int)(f:Int)(EV:List I.ao)(c:List I.Method):=dg ((a.l.length:Int)=ak/\(b.bn.length:Int)=f/\(a.l:List I.ao)=EV/\(b.bn:List I.Method)=c/\True) (bf (y5 F a b d k e))
theorem YH(F:Nat)(k:Nat)(a:I.bs)(b:I.ao)(c:Int)(d:Int):bf (y5 F a b c k d)=UA F k a b c d (a.l.length:Int) (b.bn.length:Int) a.l b.bn:=(dA ⟨rfl,rfl,rfl,rfl,trivial⟩).symm
noncomputable def ars(F:Nat):aP aE:=(arr F).bY 81 4 F ⟨[0,4,6,14,15,16,24,25,26,31,32,33],[.p (.B 0),.p (.B 2),.p (.i .i64),.p (.l 134),.p (.i .i64),.p (.i .i64),.p (.l 3),.p (.i .i64),.p (.i .i64),.p (.l 131),.p (.i .i64),.p (.i .i64)],[ep,.m 9 3,h8],
 [⟨⟨.nm,[0,4,14,15,16,24,25,26],[.p (.B 0),.p (.B 2),.p (.l 134),.p (.i .i64),.p (.i .i64),.p (.l 3),.p (.i .i64),.p (.i .i64)],[ep,.m 9 3,h8]⟩,Unit,λ d r=>(((),(),d.1.2.2.2.1,d.1.2.2.2.2.1,d.1.2.2.2.2.2.1,d.1.2.2.2.2.2.2.1,d.1.2.2.2.2.2.2.2.1,d.1.2.2.2.2.2.2.2.2.1,()),((d.2.1.1,(),d.2.1.2.2.1,()),d.2.2.1,d.2.2.2.1,()))⟩,
  ⟨⟨.rt,[2],[.p (.i .i64)],[ep,.m 9 3,.d]⟩,Int,λ d r=>((r,()),((d.2.1.1,(),d.2.1.2.2.1,()),d.2.2.1,(),()))⟩],
 λ k d=>UA F k (⟨d.1.2.2.2.1,d.2.2.1,d.2.1.2.2.1⟩:I.bs) (⟨d.2.2.2.1.1,d.2.2.2.1.2.1,d.2.2.2.1.2.2.1,d.1.2.2.2.2.2.2.2.2.2.1⟩:I.ao) d.1.2.2.1 d.1.2.2.2.2.2.2.2.2.2.2.2.1 d.1.2.2.2.2.1 d.1.2.2.2.2.2.2.2.2.2.2.1 d.2.1.1 d.2.2.2.1.2.2.2.1⟩ (bL.bV (λ d=>dz) λ k da db q h=>by
 obtain⟨_,_,(v0:Int),(v1:List I.ao),(l:Int),(v3:Int),(v4:List Int),(v5:Int),(m:Int),(c:List I.Method),(cE:Int),(v9:Int),_⟩:=da
 obtain⟨⟨(j:List I.ao),_,(a:List Int),_⟩,(b:List ((List UInt8)×Int)),⟨(e:List UInt8),(f:List UInt8),(g:List I.Field),(gn:List I.Method),_⟩,_⟩:=db
 obtain⟨i,_⟩:=ea h
 dsimp only at i
 obtain⟨rfl,rfl,rfl,rfl,_⟩:=i
 conv=>rhs;change dV (α:=Unit⊕Int) _ (UA F (k+1) (⟨v1,b,a⟩:I.bs) (⟨e,f,g,c⟩:I.ao) v0 v9 (v1.length:Int) (c.length:Int) (v1) (c));rw[<-YH F (k+1) (⟨v1,b,a⟩:I.bs) (⟨e,f,g,c⟩:I.ao) v0 v9];simp only[y5,a_,YI,YH];simp only[bT]
 kernel_rfl)
noncomputable def Uz(F:Nat)(k:Nat)(a:I.bs)(c:I.ao)(b:List Int)(d:Int)(e:Int)(bN:Int)(eH:List I.ao):=dg ((a.l.length:Int)=e/\(b.length:Int)=bN/\(a.l:List I.ao)=eH/\True) (bf (y4 F a c b k d))
theorem YG(F:Nat)(k:Nat)(a:I.bs)(c:I.ao)(b:List Int)(d:Int):bf (y4 F a c b k d)=Uz F k a c b d (a.l.length:Int) (b.length:Int) a.l:=(dA ⟨rfl,rfl,rfl,trivial⟩).symm
noncomputable def art(F:Nat):aP aE:=(ars F).bY 81 2 F ⟨[0,4,14,15,16,24,25,26],[.p (.B 0),.p (.B 2),.p (.l 134),.p (.i .i64),.p (.i .i64),.p (.l 3),.p (.i .i64),.p (.i .i64)],[ep,.m 9 3,h8],
 [⟨⟨.nm,[0,14,15,16],[.p (.B 0),.p (.l 134),.p (.i .i64),.p (.i .i64)],[ep,.m 9 3,h8]⟩,Unit,λ d r=>(((),d.1.2.2.1,d.1.2.2.2.1,d.1.2.2.2.2.1,()),((d.2.1.1,(),d.2.1.2.2.1,()),d.2.2.1,d.2.2.2.1,()))⟩,
  ⟨⟨.rt,[2],[.p (.i .i64)],[ep,.m 9 3,.d]⟩,Int,λ d r=>((r,()),((d.2.1.1,(),d.2.1.2.2.1,()),d.2.2.1,(),()))⟩],
 λ k d=>Uz F k (⟨d.1.2.2.1,d.2.2.1,d.2.1.2.2.1⟩:I.bs) (GG d.2.2.2.1) d.1.2.2.2.2.2.1 d.1.2.2.2.2.2.2.2.1 d.1.2.2.2.1 d.1.2.2.2.2.2.2.1 d.2.1.1⟩ (bL.bV (λ d=>dz) λ k da db q h=>by
 obtain⟨_,_,(v0:List I.ao),(v1:Int),(g:Int),(v3:List Int),(v4:Int),(v5:Int),_⟩:=da
 obtain⟨⟨(i:List I.ao),_,(e:List Int),_⟩,(cE:List ((List UInt8)×Int)),⟨(v9:List UInt8),(a:List UInt8),(b:List I.Field),(c:List I.Method),_⟩,_⟩:=db
 obtain⟨f,_⟩:=ea h
 dsimp only at f
 obtain⟨rfl,rfl,rfl,_⟩:=f
 conv=>rhs;change dV (α:=Unit⊕Int) _ (Uz F (k+1) (⟨v0,cE,e⟩:I.bs) (⟨v9,a,b,c⟩:I.ao) v3 v5 (v0.length:Int) (v3.length:Int) (v0));rw[<-YG F (k+1) (⟨v0,cE,e⟩:I.bs) (⟨v9,a,b,c⟩:I.ao) v3 v5];simp only[y4,a_,YH,YG];simp only[bT]
 kernel_rfl)
noncomputable def Uy(F:Nat)(k:Nat)(a:I.bs)(b:Int)(c:Int)(aS:List I.ao):=dg ((a.l.length:Int)=c/\(a.l:List I.ao)=aS/\True) (bf (y3 F a k b))
theorem YF(F:Nat)(k:Nat)(a:I.bs)(b:Int):bf (y3 F a k b)=Uy F k a b (a.l.length:Int) a.l:=(dA ⟨rfl,rfl,trivial⟩).symm
noncomputable def aru(F:Nat):aP aE:=(art F).bY 81 0 F ⟨[0,14,15,16],[.p (.B 0),.p (.l 134),.p (.i .i64),.p (.i .i64)],[ep,.m 9 3],
 [⟨⟨.nm,[],[],[ep,.m 9 3]⟩,Unit,λ d r=>((),((d.2.1.1,(),d.2.1.2.2.1,()),d.2.2.1,()))⟩,
  ⟨⟨.rt,[2],[.p (.i .i64)],[ep,.m 9 3]⟩,Int,λ d r=>((r,()),((d.2.1.1,(),d.2.1.2.2.1,()),d.2.2.1,()))⟩],
 λ k d=>Uy F k (⟨d.1.2.1,d.2.2.1,d.2.1.2.2.1⟩:I.bs) d.1.2.2.2.1 d.1.2.2.1 d.2.1.1⟩ (bL.bV (λ d=>dz) λ k da db q h=>by
 obtain⟨_,(v0:List I.ao),(v1:Int),(a:Int),_⟩:=da
 obtain⟨⟨(v3:List I.ao),_,(v4:List Int),_⟩,(v5:List ((List UInt8)×Int)),_⟩:=db
 obtain⟨b,_⟩:=ea h
 dsimp only at b
 obtain⟨rfl,rfl,_⟩:=b
 conv=>rhs;change dV (α:=Unit⊕Int) _ (Uy F (k+1) (⟨v0,v5,v4⟩:I.bs) a (v0.length:Int) (v0));rw[<-YF F (k+1) (⟨v0,v5,v4⟩:I.bs) a];simp only[y3,a_,YG,YF];simp only[bT]
 kernel_rfl)
noncomputable def arv(F:Nat):aP aE:=(aru F).rt 81 ⟨[.p (.B 0)],[ep,.m 9 3],[.p (.i .i64)],[ep,.m 9 3],Int,λ d=>JC F (⟨d.2.1.1,d.2.2.1,d.2.1.2.2.1⟩:I.bs),λ d r=>((r,()),((d.2.1.1,(),d.2.1.2.2.1,()),d.2.2.1,()))⟩ λ da db=>by
 obtain⟨_,_⟩:=da;obtain⟨⟨(v0:List I.ao),_,(v1:List Int),_⟩,(a:List ((List UInt8)×Int)),_⟩:=db;conv=>rhs;simp only[JC,a_,YF]
 kernel_rfl
noncomputable def Ut(F:Nat)(k:Nat)(a:List I.ao)(c:Int×I.bs)(b:Int×I.bs)(wl:List (List I.Target))(wm:List (List (List UInt8)))(wo:List (List I.Field))(d:Int)(e:Int)(ak:List I.ao)(aS:List Int)(bN:List (List I.Field))(dq:List (List (List UInt8)))(eH:List (List I.Target))(EV:List I.ao)(EW:List Int):=dg ((a.length:Int)=e/\([]:List I.ao)=ak/\([]:List Int)=aS/\([]:List (List I.Field))=bN/\([]:List (List (List UInt8)))=dq/\([]:List (List I.Target))=eH/\(a:List I.ao)=EV/\(b.2.du:List Int)=EW/\True) (bf (oa F a c b k wl wm wo d))
theorem YA(F:Nat)(k:Nat)(a:List I.ao)(c:Int×I.bs)(b:Int×I.bs)(wl:List (List I.Target))(wm:List (List (List UInt8)))(wo:List (List I.Field))(d:Int):bf (oa F a c b k wl wm wo d)=Ut F k a (0,(⟨[],c.2.bZ,[]⟩:I.bs)) (0,(⟨[],[],b.2.du⟩:I.bs)) wl wm wo d (a.length:Int) [] [] [] [] [] a b.2.du:=(show bf (oa F a c b k wl wm wo d)=bf (oa F a (0,(⟨[],c.2.bZ,[]⟩:I.bs)) (0,(⟨[],[],b.2.du⟩:I.bs)) k wl wm wo d) by kernel_rfl).trans (dA ⟨rfl,rfl,rfl,rfl,rfl,rfl,rfl,rfl,trivial⟩).symm
noncomputable def arw(F:Nat):aP aE:=(arv F).bY 46 2 F ⟨[2,5,9,62,63],[.p (.B 0),.p (.B 1),.p (.B 3),.p (.i .i64),.p (.i .i64)],[dP,ai9,.m 9 3,ai',.r 124 false,.r 120 false,.r 121 false],
 [⟨⟨.nm,[2,9],[.p (.B 0),.p (.B 3)],[dP,ai9,.m 9 3,ai',.r 124 false,.r 120 false,.r 121 false]⟩,(List (List I.Target))×(List (List (List UInt8)))×(List (List I.Field)),λ d r=>(((),(),()),(d.2.1,(d.2.2.1.1,(),d.2.2.1.2.2.1,()),d.2.2.2.1,(d.2.2.2.2.1.1,d.2.2.2.2.1.2.1,(),(),(),()),r.2.2,r.2.1,r.1,()))⟩,
  ⟨⟨.rt,[2,3],[.p (.B 0),.p (.i .i64)],[dP,.d,.d,.d,.d,.d,.d]⟩,I.aR×Int,λ d r=>(((),r.2,()),((r.1.a8,r.1.aZ,r.1.Fields,r.1.Names,r.1.a1,()),(),(),(),(),(),(),()))⟩],
 λ k d=>Ut F k d.2.2.1.1 (0,(⟨[],d.2.2.2.1,[]⟩:I.bs)) (0,(⟨[],[],d.2.2.1.2.2.1⟩:I.bs)) d.2.2.2.2.2.2.2.1 d.2.2.2.2.2.2.1 d.2.2.2.2.2.1 d.1.2.2.2.2.1 d.1.2.2.2.1 d.2.1.1 d.2.1.2.1 d.2.1.2.2.1 d.2.1.2.2.2.1 d.2.1.2.2.2.2.1 d.2.2.2.2.1.1 d.2.2.2.2.1.2.1⟩ (bL.bV (λ d=>dz) λ k da db q h=>by
 obtain⟨_,_,_,(v0:Int),(v1:Int),_⟩:=da
 obtain⟨⟨(j:List I.ao),(v3:List Int),(v4:List (List I.Field)),(v5:List (List (List UInt8))),(l:List (List I.Target)),_⟩,⟨(b:List I.ao),_,(cE:List Int),_⟩,(v9:List ((List UInt8)×Int)),⟨(g:List I.ao),(i:List Int),_,_,_,_⟩,(a:List (List I.Field)),(c:List (List (List UInt8))),(e:List (List I.Target)),_⟩:=db
 obtain⟨f,_⟩:=ea h
 dsimp only at f
 obtain⟨rfl,rfl,rfl,rfl,rfl,rfl,rfl,rfl,_⟩:=f
 conv=>rhs;change dV (α:=((List (List I.Target))×(List (List (List UInt8)))×(List (List I.Field)))⊕(I.aR×Int)) _ (Ut F (k+1) b (0,(⟨[],v9,[]⟩:I.bs)) (0,(⟨[],[],cE⟩:I.bs)) e c a v1 (b.length:Int) ([]) ([]) ([]) ([]) ([]) (b) ((0,(⟨[],[],cE⟩:I.bs)).2.du));rw[<-YA F (k+1) b (0,(⟨[],v9,[]⟩:I.bs)) (0,(⟨[],[],cE⟩:I.bs)) e c a v1];simp only[oa,a_,YA];simp only[bT]
 kernel_rfl)
noncomputable def ary(F:Nat):aP aE:=(arw F).rt 46 ⟨[.p (.l 134)],[],[hr,.p (.i .i64)],[],I.aR×Int,λ d=>CU F d.1.1,λ d r=>(((r.1.a8,r.1.aZ,r.1.Fields,r.1.Names,r.1.a1,()),r.2,()),())⟩ λ da db=>by
 obtain⟨(v0:List I.ao),_⟩:=da;conv=>rhs;simp only[CU,a_,YA]
 kernel_rfl
noncomputable def UY(k:Nat)(a:List Int)(b:List Int)(c:Int)(ak:Int):=dg ((a.length:Int)=ak/\True) (bf (zT a b k c))
theorem Y4(k:Nat)(a:List Int)(b:List Int)(c:Int):bf (zT a b k c)=UY k a b c (a.length:Int):=(dA ⟨rfl,trivial⟩).symm
noncomputable def arz(F:Nat):aP aE:=(ary F).bY 126 0 F ⟨[0,1,12,13],[.p (.l 3),.p (.l 3),.p (.i .i64),.p (.i .i64)],[],
 [⟨⟨.nm,[],[],[]⟩,Unit,λ d r=>((),())⟩,
  ⟨⟨.rt,[4],[.p (.b)],[]⟩,Bool,λ d r=>((r,()),())⟩],
 λ k d=>UY k d.1.1 d.1.2.1 d.1.2.2.2.1 d.1.2.2.1⟩ (bL.bV (λ d=>dz) λ k da db q h=>by
 obtain⟨(v0:List Int),(v1:List Int),(b:Int),(v3:Int),_⟩:=da
 obtain⟨a,_⟩:=ea h
 dsimp only at a
 obtain⟨rfl,_⟩:=a
 conv=>rhs;change dV (α:=Unit⊕Bool) _ (UY (k+1) v0 v1 v3 (v0.length:Int));rw[<-Y4 (k+1) v0 v1 v3];simp only[zT,a_,Y4];simp only[bT]
 kernel_rfl)
noncomputable def arA(F:Nat):aP aE:=(arz F).rt 126 ⟨[.p (.l 3),.p (.l 3)],[],[.p (.b)],[],Bool,λ d=>KG F d.1.1 d.1.2.1,λ d r=>((r,()),())⟩ λ da db=>by
 obtain⟨(v0:List Int),(v1:List Int),_⟩:=da;conv=>rhs;simp only[KG,a_,Y4]
 kernel_rfl
noncomputable def UU(k:Nat)(a:List I.Field)(b:List I.Field)(c:Int)(ak:Int):=dg ((a.length:Int)=ak/\True) (bf (zR a b k c))
theorem Y1(k:Nat)(a:List I.Field)(b:List I.Field)(c:Int):bf (zR a b k c)=UU k a b c (a.length:Int):=(dA ⟨rfl,trivial⟩).symm
noncomputable def arB(F:Nat):aP aE:=(arA F).bY 128 0 F ⟨[0,1,12,13],[.p (.l 136),.p (.l 136),.p (.i .i64),.p (.i .i64)],[],
 [⟨⟨.nm,[],[],[]⟩,Unit,λ d r=>((),())⟩,
  ⟨⟨.rt,[4],[.p (.b)],[]⟩,Bool,λ d r=>((r,()),())⟩],
 λ k d=>UU k d.1.1 d.1.2.1 d.1.2.2.2.1 d.1.2.2.1⟩ (bL.bV (λ d=>dz) λ k da db q h=>by
 obtain⟨(v0:List I.Field),(v1:List I.Field),(b:Int),(v3:Int),_⟩:=da
 obtain⟨a,_⟩:=ea h
 dsimp only at a
 obtain⟨rfl,_⟩:=a
 conv=>rhs;change dV (α:=Unit⊕Bool) _ (UU (k+1) v0 v1 v3 (v0.length:Int));rw[<-Y1 (k+1) v0 v1 v3];simp only[zR,a_,Y1];simp only[bT]
 kernel_rfl)
noncomputable def arC(F:Nat):aP aE:=(arB F).rt 128 ⟨[.p (.l 136),.p (.l 136)],[],[.p (.b)],[],Bool,λ d=>KD F d.1.1 d.1.2.1,λ d r=>((r,()),())⟩ λ da db=>by
 obtain⟨(v0:List I.Field),(v1:List I.Field),_⟩:=da;conv=>rhs;simp only[KD,a_,Y1]
 kernel_rfl
noncomputable def UR(F:Nat)(k:Nat)(a:List (List I.Field))(b:List (List I.Field))(gB:Int)(ak:Int):=dg ((a.length:Int)=ak/\True) (bf (zO F a b k gB))
theorem YY(F:Nat)(k:Nat)(a:List (List I.Field))(b:List (List I.Field))(gB:Int):bf (zO F a b k gB)=UR F k a b gB (a.length:Int):=(dA ⟨rfl,trivial⟩).symm
noncomputable def arD(F:Nat):aP aE:=(arC F).bY 127 0 F ⟨[1,2,15,16,17],[.p (.l 124),.f 128 [],.p (.l 124),.p (.i .i64),.p (.i .i64)],[],
 [⟨⟨.nm,[],[],[]⟩,Unit,λ d r=>((),())⟩,
  ⟨⟨.rt,[6],[.p (.b)],[]⟩,Bool,λ d r=>((r,()),())⟩],
 λ k d=>UR F k d.1.2.2.1 d.1.1 d.1.2.2.2.2.1 d.1.2.2.2.1⟩ (bL.bV (λ d=>dz) λ k da db q h=>by
 obtain⟨(v0:List (List I.Field)),_,(v1:List (List I.Field)),(b:Int),(v3:Int),_⟩:=da
 obtain⟨a,_⟩:=ea h
 dsimp only at a
 obtain⟨rfl,_⟩:=a
 conv=>rhs;change dV (α:=Unit⊕Bool) _ (UR F (k+1) v1 v0 v3 (v1.length:Int));rw[<-YY F (k+1) v1 v0 v3];simp only[zO,a_,YY];simp only[bT]
 kernel_rfl)
noncomputable def arE(F:Nat):aP aE:=(arD F).rt 127 ⟨[.p (.l 124),.p (.l 124),.f 128 []],[],[.p (.b)],[],Bool,λ d=>KA F d.1.1 d.1.2.1,λ d r=>((r,()),())⟩ λ da db=>by
 obtain⟨(v0:List (List I.Field)),(v1:List (List I.Field)),_,_⟩:=da;conv=>rhs;simp only[KA,a_,YY]
 kernel_rfl
noncomputable def UZ(k:Nat)(a:List (List UInt8))(b:List (List UInt8))(c:Int)(ak:Int):=dg ((a.length:Int)=ak/\True) (bf (zU a b k c))
theorem Y5(k:Nat)(a:List (List UInt8))(b:List (List UInt8))(c:Int):bf (zU a b k c)=UZ k a b c (a.length:Int):=(dA ⟨rfl,trivial⟩).symm
noncomputable def arF(F:Nat):aP aE:=(arE F).bY 130 0 F ⟨[0,1,12,13],[.p (.l 9),.p (.l 9),.p (.i .i64),.p (.i .i64)],[],
 [⟨⟨.nm,[],[],[]⟩,Unit,λ d r=>((),())⟩,
  ⟨⟨.rt,[4],[.p (.b)],[]⟩,Bool,λ d r=>((r,()),())⟩],
 λ k d=>UZ k d.1.1 d.1.2.1 d.1.2.2.2.1 d.1.2.2.1⟩ (bL.bV (λ d=>dz) λ k da db q h=>by
 obtain⟨(v0:List (List UInt8)),(v1:List (List UInt8)),(b:Int),(v3:Int),_⟩:=da
 obtain⟨a,_⟩:=ea h
 dsimp only at a
 obtain⟨rfl,_⟩:=a
 conv=>rhs;change dV (α:=Unit⊕Bool) _ (UZ (k+1) v0 v1 v3 (v0.length:Int));rw[<-Y5 (k+1) v0 v1 v3];simp only[zU,a_,Y5];simp only[bT]
 kernel_rfl)
noncomputable def arG(F:Nat):aP aE:=(arF F).rt 130 ⟨[.p (.l 9),.p (.l 9)],[],[.p (.b)],[],Bool,λ d=>KH F d.1.1 d.1.2.1,λ d r=>((r,()),())⟩ λ da db=>by
 obtain⟨(v0:List (List UInt8)),(v1:List (List UInt8)),_⟩:=da;conv=>rhs;simp only[KH,a_,Y5]
 kernel_rfl
noncomputable def UT(F:Nat)(k:Nat)(a:List (List (List UInt8)))(b:List (List (List UInt8)))(gB:Int)(ak:Int):=dg ((a.length:Int)=ak/\True) (bf (zQ F a b k gB))
theorem Y0(F:Nat)(k:Nat)(a:List (List (List UInt8)))(b:List (List (List UInt8)))(gB:Int):bf (zQ F a b k gB)=UT F k a b gB (a.length:Int):=(dA ⟨rfl,trivial⟩).symm
noncomputable def arH(F:Nat):aP aE:=(arG F).bY 129 0 F ⟨[1,2,15,16,17],[.p (.l 120),.f 130 [],.p (.l 120),.p (.i .i64),.p (.i .i64)],[],
 [⟨⟨.nm,[],[],[]⟩,Unit,λ d r=>((),())⟩,
  ⟨⟨.rt,[6],[.p (.b)],[]⟩,Bool,λ d r=>((r,()),())⟩],
 λ k d=>UT F k d.1.2.2.1 d.1.1 d.1.2.2.2.2.1 d.1.2.2.2.1⟩ (bL.bV (λ d=>dz) λ k da db q h=>by
 obtain⟨(v0:List (List (List UInt8))),_,(v1:List (List (List UInt8))),(b:Int),(v3:Int),_⟩:=da
 obtain⟨a,_⟩:=ea h
 dsimp only at a
 obtain⟨rfl,_⟩:=a
 conv=>rhs;change dV (α:=Unit⊕Bool) _ (UT F (k+1) v1 v0 v3 (v1.length:Int));rw[<-Y0 F (k+1) v1 v0 v3];simp only[zQ,a_,Y0];simp only[bT]
 kernel_rfl)
noncomputable def arJ(F:Nat):aP aE:=(arH F).rt 129 ⟨[.p (.l 120),.p (.l 120),.f 130 []],[],[.p (.b)],[],Bool,λ d=>KC F d.1.1 d.1.2.1,λ d r=>((r,()),())⟩ λ da db=>by
 obtain⟨(v0:List (List (List UInt8))),(v1:List (List (List UInt8))),_,_⟩:=da;conv=>rhs;simp only[KC,a_,Y0]
 kernel_rfl
noncomputable def UX(k:Nat)(a:List I.Target)(b:List I.Target)(c:Int)(ak:Int):=dg ((a.length:Int)=ak/\True) (bf (zS a b k c))
theorem Y3(k:Nat)(a:List I.Target)(b:List I.Target)(c:Int):bf (zS a b k c)=UX k a b c (a.length:Int):=(dA ⟨rfl,trivial⟩).symm
noncomputable def arK(F:Nat):aP aE:=(arJ F).bY 132 0 F ⟨[0,1,12,13],[.p (.l 166),.p (.l 166),.p (.i .i64),.p (.i .i64)],[],
 [⟨⟨.nm,[],[],[]⟩,Unit,λ d r=>((),())⟩,
  ⟨⟨.rt,[4],[.p (.b)],[]⟩,Bool,λ d r=>((r,()),())⟩],
 λ k d=>UX k d.1.1 d.1.2.1 d.1.2.2.2.1 d.1.2.2.1⟩ (bL.bV (λ d=>dz) λ k da db q h=>by
 obtain⟨(v0:List I.Target),(v1:List I.Target),(b:Int),(v3:Int),_⟩:=da
 obtain⟨a,_⟩:=ea h
 dsimp only at a
 obtain⟨rfl,_⟩:=a
 conv=>rhs;change dV (α:=Unit⊕Bool) _ (UX (k+1) v0 v1 v3 (v0.length:Int));rw[<-Y3 (k+1) v0 v1 v3];simp only[zS,a_,Y3];simp only[bT]
 kernel_rfl)
noncomputable def arL(F:Nat):aP aE:=(arK F).rt 132 ⟨[.p (.l 166),.p (.l 166)],[],[.p (.b)],[],Bool,λ d=>KF F d.1.1 d.1.2.1,λ d r=>((r,()),())⟩ λ da db=>by
 obtain⟨(v0:List I.Target),(v1:List I.Target),_⟩:=da;conv=>rhs;simp only[KF,a_,Y3]
 kernel_rfl
noncomputable def US(F:Nat)(k:Nat)(a:List (List I.Target))(b:List (List I.Target))(gB:Int)(ak:Int):=dg ((a.length:Int)=ak/\True) (bf (zP F a b k gB))
theorem YZ(F:Nat)(k:Nat)(a:List (List I.Target))(b:List (List I.Target))(gB:Int):bf (zP F a b k gB)=US F k a b gB (a.length:Int):=(dA ⟨rfl,trivial⟩).symm
noncomputable def arM(F:Nat):aP aE:=(arL F).bY 131 0 F ⟨[1,2,15,16,17],[.p (.l 121),.f 132 [],.p (.l 121),.p (.i .i64),.p (.i .i64)],[],
 [⟨⟨.nm,[],[],[]⟩,Unit,λ d r=>((),())⟩,
  ⟨⟨.rt,[6],[.p (.b)],[]⟩,Bool,λ d r=>((r,()),())⟩],
 λ k d=>US F k d.1.2.2.1 d.1.1 d.1.2.2.2.2.1 d.1.2.2.2.1⟩ (bL.bV (λ d=>dz) λ k da db q h=>by
 obtain⟨(v0:List (List I.Target)),_,(v1:List (List I.Target)),(b:Int),(v3:Int),_⟩:=da
 obtain⟨a,_⟩:=ea h
 dsimp only at a
 obtain⟨rfl,_⟩:=a
 conv=>rhs;change dV (α:=Unit⊕Bool) _ (US F (k+1) v1 v0 v3 (v1.length:Int));rw[<-YZ F (k+1) v1 v0 v3];simp only[zP,a_,YZ];simp only[bT]
 kernel_rfl)
noncomputable def arN(F:Nat):aP aE:=(arM F).rt 131 ⟨[.p (.l 121),.p (.l 121),.f 132 []],[],[.p (.b)],[],Bool,λ d=>KB F d.1.1 d.1.2.1,λ d r=>((r,()),())⟩ λ da db=>by
 obtain⟨(v0:List (List I.Target)),(v1:List (List I.Target)),_,_⟩:=da;conv=>rhs;simp only[KB,a_,YZ]
 kernel_rfl
noncomputable def arO(F:Nat):aP aE:=(arN F).rt 100 ⟨[hr,hr],[],[.p (.b)],[],Bool,λ d=>FP F (e6 d.1.1) (e6 d.1.2.1),λ d r=>((r,()),())⟩ λ da db=>by
 conv=>rhs;simp only[FP,a_]
 kernel_rfl
noncomputable def arP(F:Nat):aP aE:=(arO F).rt 64 ⟨[hr],[],[.p (.i .i64)],[],Int,λ d=>n' F (e6 d.1.1),λ d r=>((r,()),())⟩ λ da db=>by
 conv=>rhs;simp only[n',a_]
 kernel_rfl
noncomputable def arQ(F:Nat):aP aE:=(arP F).rt 84 ⟨[.p (.i .i64),.p (.i .i64),.p (.i .i64)],[],[.p (.b)],[],Bool,λ d=>o6 d.1.1 d.1.2.1 d.1.2.2.1,λ d r=>((r,()),())⟩ λ da db=>by
 conv=>rhs;simp only[o6,a_]
 kernel_rfl
noncomputable def arR(F:Nat):aP aE:=(arQ F).rt 101 ⟨[jf],[],[.p (.i .i64)],[],Int,λ d=>Fp (dQ d.1.1),λ d r=>((r,()),())⟩ λ da db=>by
 conv=>rhs;simp only[Fp,a_]
 kernel_rfl
noncomputable def arS(F:Nat):aP aE:=(arR F).rt 92 ⟨[hr,.p (.i .i64)],[],[.p (.b)],[],Bool,λ d=>vQ (gO d.1.1) d.1.2.1,λ d r=>((r,()),())⟩ λ da db=>by
 conv=>rhs;simp only[vQ,a_]
 kernel_rfl
noncomputable def arU(F:Nat):aP aE:=(arS F).rt 93 ⟨[hr,.p (.i .i64),.p (.i .i64)],[],[.p (.b)],[],Bool,λ d=>vR (gO d.1.1) d.1.2.1 d.1.2.2.1,λ d r=>((r,()),())⟩ λ da db=>by
 conv=>rhs;simp only[vR,a_]
 kernel_rfl
noncomputable def Un(k:Nat)(a:Int)(b:I.bj)(c:List Int)(d:List (Int×Bool))(e:Int):=dg (True) (bf (o5 a b k c d e))
theorem Yu(k:Nat)(b:Int)(a:I.bj)(c:List Int)(d:List (Int×Bool))(e:Int):bf (o5 b a k c d e)=Un k b (⟨(⟨a.H.Words,a.H.au,a.H.aN,a.H.aX,a.H.aW,a.H.aV,a.H.Next⟩:I.aU),(⟨(⟨a.S.K.a8,a.S.K.aZ,a.S.K.Fields,a.S.K.Names,a.S.K.a1⟩:I.aR)⟩:I.b9),a.au,a.aN,[]⟩:I.bj) c d e:=(show bf (o5 b a k c d e)=bf (o5 b (⟨(⟨a.H.Words,a.H.au,a.H.aN,a.H.aX,a.H.aW,a.H.aV,a.H.Next⟩:I.aU),(⟨(⟨a.S.K.a8,a.S.K.aZ,a.S.K.Fields,a.S.K.Names,a.S.K.a1⟩:I.aR)⟩:I.b9),a.au,a.aN,[]⟩:I.bj) k c d e) by kernel_rfl).trans (dA trivial).symm
noncomputable def arV(F:Nat):aP aE:=(arU F).bY 102 0 F ⟨[0,2,8,9],[.p (.B 0),.p (.i .i64),.p (.R 2),.p (.i .i64)],[fx,.m 3 4,.r 3 false],
 [⟨⟨.nm,[8],[.p (.R 2)],[fx,.m 3 4,.r 3 false]⟩,(List Int)×(List (Int×Bool)),λ d r=>(((),()),((d.2.1.1,d.2.1.2.1,d.2.1.2.2.1,d.2.1.2.2.2.1,d.2.1.2.2.2.2.1,d.2.1.2.2.2.2.2.1,d.2.1.2.2.2.2.2.2.1,d.2.1.2.2.2.2.2.2.2.1,d.2.1.2.2.2.2.2.2.2.2.1,d.2.1.2.2.2.2.2.2.2.2.2.1,d.2.1.2.2.2.2.2.2.2.2.2.2.1,d.2.1.2.2.2.2.2.2.2.2.2.2.2.1,d.2.1.2.2.2.2.2.2.2.2.2.2.2.2.1,d.2.1.2.2.2.2.2.2.2.2.2.2.2.2.2.1,(),()),r.2,r.1,()))⟩,
  ⟨⟨.rt,[6,7],[.p (.l 3),.p (.b)],[fx,.m 3 4,.d]⟩,(List Int)×Bool×I.bj,λ d r=>((r.1,r.2.1,()),((d.2.1.1,d.2.1.2.1,d.2.1.2.2.1,d.2.1.2.2.2.1,d.2.1.2.2.2.2.1,d.2.1.2.2.2.2.2.1,d.2.1.2.2.2.2.2.2.1,d.2.1.2.2.2.2.2.2.2.1,d.2.1.2.2.2.2.2.2.2.2.1,d.2.1.2.2.2.2.2.2.2.2.2.1,d.2.1.2.2.2.2.2.2.2.2.2.2.1,d.2.1.2.2.2.2.2.2.2.2.2.2.2.1,d.2.1.2.2.2.2.2.2.2.2.2.2.2.2.1,d.2.1.2.2.2.2.2.2.2.2.2.2.2.2.2.1,(),()),r.2.2.dH,(),()))⟩],
 λ k d=>Un k d.1.2.1 (⟨(dQ d.2.1),(gO d.2.1.2.2.2.2.2.2.2),d.2.1.2.2.2.2.2.2.2.2.2.2.2.2.1,d.2.1.2.2.2.2.2.2.2.2.2.2.2.2.2.1,[]⟩:I.bj) d.2.2.2.1 d.2.2.1 d.1.2.2.2.1⟩ (bL.bV (λ d=>dz) λ k da db q h=>by
 obtain⟨_,(v0:Int),_,(v1:Int),_⟩:=da
 obtain⟨⟨(f:List Int),(v3:Int),(v4:Int),(v5:Int),(g:Int),(i:List Int),(cE:Int),(v9:List I.ao),(a:List Int),(b:List (List I.Field)),(c:List (List (List UInt8))),(j:List (List I.Target)),(l:List Int),(m:List Int),_,_⟩,(gn:List (Int×Bool)),(e:List Int),_⟩:=db
 conv=>rhs;change dV (α:=((List Int)×(List (Int×Bool)))⊕((List Int)×Bool×I.bj)) _ (Un (k+1) v0 (⟨(⟨f,v3,v4,v5,g,i,cE⟩:I.aU),(⟨(⟨v9,a,b,c,j⟩:I.aR)⟩:I.b9),l,m,[]⟩:I.bj) e gn v1);rw[<-Yu (k+1) v0 (⟨(⟨f,v3,v4,v5,g,i,cE⟩:I.aU),(⟨(⟨v9,a,b,c,j⟩:I.aR)⟩:I.b9),l,m,[]⟩:I.bj) e gn v1];simp only[o5,a_,Yu];simp only[bT]
 kernel_rfl)
noncomputable def arW(F:Nat):aP aE:=(arV F).rt 102 ⟨[.p (.B 0),.p (.i .i64),.p (.i .i64)],[fx,.m 3 4],[.p (.l 3),.p (.b)],[fx,.m 3 4],(List Int)×Bool×I.bj,λ d=>mE F (⟨(dQ d.2.1),(gO d.2.1.2.2.2.2.2.2.2),d.2.1.2.2.2.2.2.2.2.2.2.2.2.2.1,d.2.1.2.2.2.2.2.2.2.2.2.2.2.2.2.1,d.2.2.1⟩:I.bj) d.1.2.1 d.1.2.2.1,λ d r=>((r.1,r.2.1,()),((d.2.1.1,d.2.1.2.1,d.2.1.2.2.1,d.2.1.2.2.2.1,d.2.1.2.2.2.2.1,d.2.1.2.2.2.2.2.1,d.2.1.2.2.2.2.2.2.1,d.2.1.2.2.2.2.2.2.2.1,d.2.1.2.2.2.2.2.2.2.2.1,d.2.1.2.2.2.2.2.2.2.2.2.1,d.2.1.2.2.2.2.2.2.2.2.2.2.1,d.2.1.2.2.2.2.2.2.2.2.2.2.2.1,d.2.1.2.2.2.2.2.2.2.2.2.2.2.2.1,d.2.1.2.2.2.2.2.2.2.2.2.2.2.2.2.1,(),()),r.2.2.dH,()))⟩ λ da db=>by
 obtain⟨_,(v0:Int),(v1:Int),_⟩:=da;obtain⟨⟨(e:List Int),(v3:Int),(v4:Int),(v5:Int),(f:Int),(g:List Int),(cE:Int),(v9:List I.ao),(a:List Int),(b:List (List I.Field)),(c:List (List (List UInt8))),(h:List (List I.Target)),(i:List Int),(j:List Int),_,_⟩,(gn:List (Int×Bool)),_⟩:=db;conv=>rhs;simp only[mE,a_,Yu]
 kernel_rfl
noncomputable def UP(k:Nat)(a:List (List Int))(b:Int)(c:Int)(ak:List (List Int))(aS:Int):=dg ((a:List (List Int))=ak/\(a.length:Int)=aS/\True) (w8 a k b c)
theorem YW(k:Nat)(a:List (List Int))(b:Int)(c:Int):w8 a k b c=UP k a b c a (a.length:Int):=(dA ⟨rfl,rfl,trivial⟩).symm
noncomputable def arX(F:Nat):aP aE:=(arW F).bY 135 0 F ⟨[0,3,9,10,11],[.p (.l 22),.p (.i .i64),.p (.l 22),.p (.i .i64),.p (.i .i64)],[],
 [⟨⟨.nm,[0,3],[.p (.l 22),.p (.i .i64)],[]⟩,Int,λ d r=>((d.1.1,r,()),())⟩],
 λ k d=>UP k d.1.1 d.1.2.1 d.1.2.2.2.2.1 d.1.2.2.1 d.1.2.2.2.1⟩ (bL.bV (λ d=>dz) λ k da db q h=>by
 obtain⟨(v0:List (List Int)),(v1:Int),(b:List (List Int)),(v3:Int),(v4:Int),_⟩:=da
 obtain⟨a,_⟩:=ea h
 dsimp only at a
 obtain⟨rfl,rfl,_⟩:=a
 conv=>rhs;change dV (α:=Int) _ (UP (k+1) v0 v1 v4 (v0) (v0.length:Int));rw[<-YW (k+1) v0 v1 v4];simp only[w8,a_,YW];simp only[bT]
 kernel_rfl)
noncomputable def UQ(k:Nat)(a:List (List Int))(b:List Int)(c:Int)(d:Int):=dg ((a.length:Int)=d/\True) (w9 a k b c)
theorem YX(k:Nat)(a:List (List Int))(b:List Int)(c:Int):w9 a k b c=UQ k a b c (a.length:Int):=(dA ⟨rfl,trivial⟩).symm
noncomputable def arY(F:Nat):aP aE:=(arX F).bY 135 2 F ⟨[6,25,26,27],[.p (.R 0),.p (.l 22),.p (.i .i64),.p (.i .i64)],[.r 3 false],
 [⟨⟨.nm,[6],[.p (.R 0)],[.r 3 false]⟩,List Int,λ d r=>(((),()),(r,()))⟩],
 λ k d=>UQ k d.1.2.1 d.2.1 d.1.2.2.2.1 d.1.2.2.1⟩ (bL.bV (λ d=>dz) λ k da db q h=>by
 obtain⟨_,(v0:List (List Int)),(v1:Int),(a:Int),_⟩:=da
 obtain⟨(v3:List Int),_⟩:=db
 obtain⟨b,_⟩:=ea h
 dsimp only at b
 obtain⟨rfl,_⟩:=b
 conv=>rhs;change dV (α:=List Int) _ (UQ (k+1) v0 v3 a (v0.length:Int));rw[<-YX (k+1) v0 v3 a];simp only[w9,a_,YX];simp only[bT]
 kernel_rfl)
noncomputable def arZ(F:Nat):aP aE:=(arY F).rt 135 ⟨[.p (.l 22)],[],[.p (.l 3)],[],List Int,λ d=>GB F d.1.1,λ d r=>((r,()),())⟩ λ da db=>by
 obtain⟨(v0:List (List Int)),_⟩:=da;conv=>rhs;simp only[GB,a_,YW,YX,PY]
 kernel_rfl
noncomputable def ar0(F:Nat):aP aE:=(arZ F).rt 133 ⟨[.p (.B 0)],[fx,.m 3 4],[.p (.l 3)],[fx,.m 3 4],List Int,λ d=>yH F (⟨(dQ d.2.1),(gO d.2.1.2.2.2.2.2.2.2),d.2.1.2.2.2.2.2.2.2.2.2.2.2.2.1,d.2.1.2.2.2.2.2.2.2.2.2.2.2.2.2.1,d.2.2.1⟩:I.bj),λ d r=>((r,()),((d.2.1.1,d.2.1.2.1,d.2.1.2.2.1,d.2.1.2.2.2.1,d.2.1.2.2.2.2.1,d.2.1.2.2.2.2.2.1,d.2.1.2.2.2.2.2.2.1,d.2.1.2.2.2.2.2.2.2.1,d.2.1.2.2.2.2.2.2.2.2.1,d.2.1.2.2.2.2.2.2.2.2.2.1,d.2.1.2.2.2.2.2.2.2.2.2.2.1,d.2.1.2.2.2.2.2.2.2.2.2.2.2.1,d.2.1.2.2.2.2.2.2.2.2.2.2.2.2.1,d.2.1.2.2.2.2.2.2.2.2.2.2.2.2.2.1,(),()),d.2.2.1,()))⟩ λ da db=>by
 conv=>rhs;simp only[yH,a_]
 kernel_rfl
noncomputable def Uk(k:Nat)(a:I.bj)(hs:List Int)(b:List (Int×Bool))(c:Int)(d:Int):=dg ((hs.length:Int)=d/\True) (bf (vT a hs k b c))
theorem Yr(k:Nat)(a:I.bj)(hs:List Int)(b:List (Int×Bool))(c:Int):bf (vT a hs k b c)=Uk k a hs b c (hs.length:Int):=(dA ⟨rfl,trivial⟩).symm
noncomputable def ar1(F:Nat):aP aE:=(ar0 F).bY 103 0 F ⟨[0,3,9,10,11],[.p (.B 0),.p (.M 2),.p (.l 3),.p (.i .i64),.p (.i .i64)],[fx,.m 3 4,.m 3 4],
 [⟨⟨.nm,[0,3],[.p (.B 0),.p (.M 2)],[fx,.m 3 4,.m 3 4]⟩,List (Int×Bool),λ d r=>(((),(),()),((d.2.1.1,d.2.1.2.1,d.2.1.2.2.1,d.2.1.2.2.2.1,d.2.1.2.2.2.2.1,d.2.1.2.2.2.2.2.1,d.2.1.2.2.2.2.2.2.1,d.2.1.2.2.2.2.2.2.2.1,d.2.1.2.2.2.2.2.2.2.2.1,d.2.1.2.2.2.2.2.2.2.2.2.1,d.2.1.2.2.2.2.2.2.2.2.2.2.1,d.2.1.2.2.2.2.2.2.2.2.2.2.2.1,d.2.1.2.2.2.2.2.2.2.2.2.2.2.2.1,d.2.1.2.2.2.2.2.2.2.2.2.2.2.2.2.1,(),()),d.2.2.1,r,()))⟩,
  ⟨⟨.rt,[2],[.p (.i .i64)],[fx,.m 3 4,.d]⟩,Int,λ d r=>((r,()),((d.2.1.1,d.2.1.2.1,d.2.1.2.2.1,d.2.1.2.2.2.1,d.2.1.2.2.2.2.1,d.2.1.2.2.2.2.2.1,d.2.1.2.2.2.2.2.2.1,d.2.1.2.2.2.2.2.2.2.1,d.2.1.2.2.2.2.2.2.2.2.1,d.2.1.2.2.2.2.2.2.2.2.2.1,d.2.1.2.2.2.2.2.2.2.2.2.2.1,d.2.1.2.2.2.2.2.2.2.2.2.2.2.1,d.2.1.2.2.2.2.2.2.2.2.2.2.2.2.1,d.2.1.2.2.2.2.2.2.2.2.2.2.2.2.2.1,(),()),d.2.2.1,(),()))⟩],
 λ k d=>Uk k (⟨(dQ d.2.1),(gO d.2.1.2.2.2.2.2.2.2),d.2.1.2.2.2.2.2.2.2.2.2.2.2.2.1,d.2.1.2.2.2.2.2.2.2.2.2.2.2.2.2.1,d.2.2.1⟩:I.bj) d.1.2.2.1 d.2.2.2.1 d.1.2.2.2.2.1 d.1.2.2.2.1⟩ (bL.bV (λ d=>dz) λ k da db q h=>by
 obtain⟨_,_,(v0:List Int),(v1:Int),(f:Int),_⟩:=da
 obtain⟨⟨(v3:List Int),(v4:Int),(v5:Int),(g:Int),(i:Int),(cE:List Int),(v9:Int),(a:List I.ao),(b:List Int),(c:List (List I.Field)),(j:List (List (List UInt8))),(l:List (List I.Target)),(m:List Int),(gn:List Int),_,_⟩,(e:List (Int×Bool)),(n:List (Int×Bool)),_⟩:=db
 obtain⟨o,_⟩:=ea h
 dsimp only at o
 obtain⟨rfl,_⟩:=o
 conv=>rhs;change dV (α:=(List (Int×Bool))⊕Int) _ (Uk (k+1) (⟨(⟨v3,v4,v5,g,i,cE,v9⟩:I.aU),(⟨(⟨a,b,c,j,l⟩:I.aR)⟩:I.b9),m,gn,e⟩:I.bj) v0 n f (v0.length:Int));rw[<-Yr (k+1) (⟨(⟨v3,v4,v5,g,i,cE,v9⟩:I.aU),(⟨(⟨a,b,c,j,l⟩:I.aR)⟩:I.b9),m,gn,e⟩:I.bj) v0 n f];simp only[vT,a_,Yr];simp only[bT]
 kernel_rfl)
noncomputable def ar2(F:Nat):aP aE:=(ar1 F).rt 103 ⟨[.p (.B 0)],[fx,.m 3 4],[.p (.i .i64)],[fx,.m 3 4],Int,λ d=>Fl F (⟨(dQ d.2.1),(gO d.2.1.2.2.2.2.2.2.2),d.2.1.2.2.2.2.2.2.2.2.2.2.2.2.1,d.2.1.2.2.2.2.2.2.2.2.2.2.2.2.2.1,d.2.2.1⟩:I.bj),λ d r=>((r,()),((d.2.1.1,d.2.1.2.1,d.2.1.2.2.1,d.2.1.2.2.2.1,d.2.1.2.2.2.2.1,d.2.1.2.2.2.2.2.1,d.2.1.2.2.2.2.2.2.1,d.2.1.2.2.2.2.2.2.2.1,d.2.1.2.2.2.2.2.2.2.2.1,d.2.1.2.2.2.2.2.2.2.2.2.1,d.2.1.2.2.2.2.2.2.2.2.2.2.1,d.2.1.2.2.2.2.2.2.2.2.2.2.2.1,d.2.1.2.2.2.2.2.2.2.2.2.2.2.2.1,d.2.1.2.2.2.2.2.2.2.2.2.2.2.2.2.1,(),()),d.2.2.1,()))⟩ λ da db=>by
 obtain⟨_,_⟩:=da;obtain⟨⟨(v0:List Int),(v1:Int),(e:Int),(v3:Int),(v4:Int),(v5:List Int),(f:Int),(g:List I.ao),(cE:List Int),(v9:List (List I.Field)),(a:List (List (List UInt8))),(b:List (List I.Target)),(c:List Int),(h:List Int),_,_⟩,(i:List (Int×Bool)),_⟩:=db;conv=>rhs;simp only[Fl,a_,Yr]
 kernel_rfl
noncomputable def ar3(F:Nat):aP aE:=(ar2 F).rt 99 ⟨[hr,.p (.i .i64),.p (.i .i64)],[],[.p (.b)],[],Bool,λ d=>rM (gO d.1.1) d.1.2.1 d.1.2.2.1,λ d r=>((r,()),())⟩ λ da db=>by
 conv=>rhs;simp only[rM,a_]
 kernel_rfl
noncomputable def ar5(F:Nat):aP aE:=(ar3 F).bY 134 0 F ⟨[0,1,5,15,16],[.p (.B 0),.p (.i .i64),.p (.R 2),.p (.i .i64),.p (.i .i64)],[fx,.m 3 4,.r 3 false],
 [⟨⟨.nm,[5],[.p (.R 2)],[fx,.m 3 4,.r 3 false]⟩,List Int,λ d r=>(((),()),((d.2.1.1,d.2.1.2.1,d.2.1.2.2.1,d.2.1.2.2.2.1,d.2.1.2.2.2.2.1,d.2.1.2.2.2.2.2.1,d.2.1.2.2.2.2.2.2.1,d.2.1.2.2.2.2.2.2.2.1,d.2.1.2.2.2.2.2.2.2.2.1,d.2.1.2.2.2.2.2.2.2.2.2.1,d.2.1.2.2.2.2.2.2.2.2.2.2.1,d.2.1.2.2.2.2.2.2.2.2.2.2.2.1,d.2.1.2.2.2.2.2.2.2.2.2.2.2.2.1,d.2.1.2.2.2.2.2.2.2.2.2.2.2.2.2.1,(),()),d.2.2.1,r,()))⟩],
 λ k d=>vS d.1.2.1 (⟨(dQ d.2.1),(gO d.2.1.2.2.2.2.2.2.2),d.2.1.2.2.2.2.2.2.2.2.2.2.2.2.1,d.2.1.2.2.2.2.2.2.2.2.2.2.2.2.2.1,d.2.2.1⟩:I.bj) d.1.2.2.2.1 k d.2.2.2.1 d.1.2.2.2.2.1⟩ (bL.bV (λ d=>rfl) λ k da db q h=>by
 conv=>rhs;simp only[vS,a_];simp only[bT]
 kernel_rfl)
noncomputable def ar6(F:Nat):aP aE:=(ar5 F).rt 134 ⟨[.p (.B 0),.p (.i .i64)],[fx,.m 3 4],[.p (.l 3)],[fx,.m 3 4],List Int,λ d=>qb F (⟨(dQ d.2.1),(gO d.2.1.2.2.2.2.2.2.2),d.2.1.2.2.2.2.2.2.2.2.2.2.2.2.1,d.2.1.2.2.2.2.2.2.2.2.2.2.2.2.2.1,d.2.2.1⟩:I.bj) d.1.2.1,λ d r=>((r,()),((d.2.1.1,d.2.1.2.1,d.2.1.2.2.1,d.2.1.2.2.2.1,d.2.1.2.2.2.2.1,d.2.1.2.2.2.2.2.1,d.2.1.2.2.2.2.2.2.1,d.2.1.2.2.2.2.2.2.2.1,d.2.1.2.2.2.2.2.2.2.2.1,d.2.1.2.2.2.2.2.2.2.2.2.1,d.2.1.2.2.2.2.2.2.2.2.2.2.1,d.2.1.2.2.2.2.2.2.2.2.2.2.2.1,d.2.1.2.2.2.2.2.2.2.2.2.2.2.2.1,d.2.1.2.2.2.2.2.2.2.2.2.2.2.2.2.1,(),()),d.2.2.1,()))⟩ λ da db=>by
 conv=>rhs;simp only[qb,a_]
 kernel_rfl
noncomputable def ar7(F:Nat):aP aE:=(ar6 F).rt 136 ⟨[.p (.i .i64)],[],[.p (.b)],[],Bool,λ d=>Vt d.1.1,λ d r=>((r,()),())⟩ λ da db=>by
 conv=>rhs;simp only[Vt,a_]
 kernel_rfl
noncomputable def ar8(F:Nat):aP aE:=(ar7 F).rt 137 ⟨[.p (.B 0),.p (.i .i64)],[fx,.m 3 4],[.p (.b)],[fx,.m 3 4],Bool,λ d=>Fk (⟨(dQ d.2.1),(gO d.2.1.2.2.2.2.2.2.2),d.2.1.2.2.2.2.2.2.2.2.2.2.2.2.1,d.2.1.2.2.2.2.2.2.2.2.2.2.2.2.2.1,d.2.2.1⟩:I.bj) d.1.2.1,λ d r=>((r,()),((d.2.1.1,d.2.1.2.1,d.2.1.2.2.1,d.2.1.2.2.2.1,d.2.1.2.2.2.2.1,d.2.1.2.2.2.2.2.1,d.2.1.2.2.2.2.2.2.1,d.2.1.2.2.2.2.2.2.2.1,d.2.1.2.2.2.2.2.2.2.2.1,d.2.1.2.2.2.2.2.2.2.2.2.1,d.2.1.2.2.2.2.2.2.2.2.2.2.1,d.2.1.2.2.2.2.2.2.2.2.2.2.2.1,d.2.1.2.2.2.2.2.2.2.2.2.2.2.2.1,d.2.1.2.2.2.2.2.2.2.2.2.2.2.2.2.1,(),()),d.2.2.1,()))⟩ λ da db=>by
 conv=>rhs;simp only[Fk,a_]
 kernel_rfl
noncomputable def ar9(F:Nat):aP aE:=(ar8 F).rt 139 ⟨[.p (.i .i64),.p (.B 0)],[.c 60 [.B 1],h7,.m 3 4],[.p (.b)],[.c 60 [.B 1],h7,.m 3 4],Bool,λ d=>Nr d.1.1 (⟨(dQ d.2.2.1),(gO d.2.2.1.2.2.2.2.2.2.2),d.2.2.1.2.2.2.2.2.2.2.2.2.2.2.2.1,d.2.2.1.2.2.2.2.2.2.2.2.2.2.2.2.2.1,d.2.2.2.1⟩:I.bj),λ d r=>((r,()),(((),()),(d.2.2.1.1,d.2.2.1.2.1,d.2.2.1.2.2.1,d.2.2.1.2.2.2.1,d.2.2.1.2.2.2.2.1,d.2.2.1.2.2.2.2.2.1,d.2.2.1.2.2.2.2.2.2.1,d.2.2.1.2.2.2.2.2.2.2.1,d.2.2.1.2.2.2.2.2.2.2.2.1,d.2.2.1.2.2.2.2.2.2.2.2.2.1,d.2.2.1.2.2.2.2.2.2.2.2.2.2.1,d.2.2.1.2.2.2.2.2.2.2.2.2.2.2.1,d.2.2.1.2.2.2.2.2.2.2.2.2.2.2.2.1,d.2.2.1.2.2.2.2.2.2.2.2.2.2.2.2.2.1,(),()),d.2.2.2.1,()))⟩ λ da db=>by
 conv=>rhs;simp only[Nr,a_]
 kernel_rfl
noncomputable def ar_(F:Nat):aP aE:=(ar9 F).rt 68 ⟨[.p (.B 0),.p (.i .i64)],[fx,.m 3 4],[.p (.b)],[fx,.m 3 4],Bool,λ d=>Fj (⟨(dQ d.2.1),(gO d.2.1.2.2.2.2.2.2.2),d.2.1.2.2.2.2.2.2.2.2.2.2.2.2.1,d.2.1.2.2.2.2.2.2.2.2.2.2.2.2.2.1,d.2.2.1⟩:I.bj) d.1.2.1,λ d r=>((r,()),((d.2.1.1,d.2.1.2.1,d.2.1.2.2.1,d.2.1.2.2.2.1,d.2.1.2.2.2.2.1,d.2.1.2.2.2.2.2.1,d.2.1.2.2.2.2.2.2.1,d.2.1.2.2.2.2.2.2.2.1,d.2.1.2.2.2.2.2.2.2.2.1,d.2.1.2.2.2.2.2.2.2.2.2.1,d.2.1.2.2.2.2.2.2.2.2.2.2.1,d.2.1.2.2.2.2.2.2.2.2.2.2.2.1,d.2.1.2.2.2.2.2.2.2.2.2.2.2.2.1,d.2.1.2.2.2.2.2.2.2.2.2.2.2.2.2.1,(),()),d.2.2.1,()))⟩ λ da db=>by
 conv=>rhs;simp only[Fj,a_]
 kernel_rfl
noncomputable def ar'(F:Nat):aP aE:=(ar_ F).rt 67 ⟨[.p (.i .i64),.p (.B 0)],[.c 60 [.B 1],h7,.m 3 4],[.p (.b)],[.c 60 [.B 1],h7,.m 3 4],Bool,λ d=>RJ d.1.1 (⟨(dQ d.2.2.1),(gO d.2.2.1.2.2.2.2.2.2.2),d.2.2.1.2.2.2.2.2.2.2.2.2.2.2.2.1,d.2.2.1.2.2.2.2.2.2.2.2.2.2.2.2.2.1,d.2.2.2.1⟩:I.bj),λ d r=>((r,()),(((),()),(d.2.2.1.1,d.2.2.1.2.1,d.2.2.1.2.2.1,d.2.2.1.2.2.2.1,d.2.2.1.2.2.2.2.1,d.2.2.1.2.2.2.2.2.1,d.2.2.1.2.2.2.2.2.2.1,d.2.2.1.2.2.2.2.2.2.2.1,d.2.2.1.2.2.2.2.2.2.2.2.1,d.2.2.1.2.2.2.2.2.2.2.2.2.1,d.2.2.1.2.2.2.2.2.2.2.2.2.2.1,d.2.2.1.2.2.2.2.2.2.2.2.2.2.2.1,d.2.2.1.2.2.2.2.2.2.2.2.2.2.2.2.1,d.2.2.1.2.2.2.2.2.2.2.2.2.2.2.2.2.1,(),()),d.2.2.2.1,()))⟩ λ da db=>by
 conv=>rhs;simp only[RJ,a_]
 kernel_rfl
noncomputable def U1(k:Nat)(s_:List Int)(a:Int)(b:Int):=dg ((s_.length:Int)=b/\True) (bf (zW s_ k a))
theorem Y7(k:Nat)(s_:List Int)(a:Int):bf (zW s_ k a)=U1 k s_ a (s_.length:Int):=(dA ⟨rfl,trivial⟩).symm
noncomputable def asa(F:Nat):aP aE:=(ar' F).bY 106 0 F ⟨[0,1,7,8],[.p (.l 3),.f 136 [],.p (.i .i64),.p (.i .i64)],[],
 [⟨⟨.nm,[],[],[]⟩,Unit,λ d r=>((),())⟩,
  ⟨⟨.rt,[4],[.p (.i .i64)],[]⟩,Int,λ d r=>((r,()),())⟩],
 λ k d=>U1 k d.1.1 d.1.2.2.2.1 d.1.2.2.1⟩ (bL.bV (λ d=>dz) λ k da db q h=>by
 obtain⟨(v0:List Int),_,(v1:Int),(a:Int),_⟩:=da
 obtain⟨b,_⟩:=ea h
 dsimp only at b
 obtain⟨rfl,_⟩:=b
 conv=>rhs;change dV (α:=Unit⊕Int) _ (U1 (k+1) v0 a (v0.length:Int));rw[<-Y7 (k+1) v0 a];simp only[zW,a_,Y7];simp only[bT]
 kernel_rfl)
noncomputable def asb(F:Nat):aP aE:=(asa F).rt 106 ⟨[.p (.l 3),.f 136 []],[],[.p (.i .i64)],[],Int,λ d=>P0 F d.1.1,λ d r=>((r,()),())⟩ λ da db=>by
 obtain⟨(v0:List Int),_,_⟩:=da;conv=>rhs;simp only[P0,a_,Y7]
 kernel_rfl
noncomputable def U0(k:Nat)(s_:List Int)(a:I.bj)(b:Int)(c:Int):=dg ((s_.length:Int)=c/\True) (bf (zV s_ a k b))
theorem Y6(k:Nat)(s_:List Int)(a:I.bj)(b:Int):bf (zV s_ a k b)=U0 k s_ a b (s_.length:Int):=(dA ⟨rfl,trivial⟩).symm
noncomputable def asc(F:Nat):aP aE:=(asb F).JK 106 0 F ⟨[0,1,7,8],[.p (.l 3),.f 139 [.B 0],.p (.i .i64),.p (.i .i64)],[.c 60 [.B 1],h7,.m 3 4],
 [⟨⟨.nm,[],[],[.c 60 [.B 1],h7,.m 3 4]⟩,Unit,λ d r=>((),(((),()),(d.2.2.1.1,d.2.2.1.2.1,d.2.2.1.2.2.1,d.2.2.1.2.2.2.1,d.2.2.1.2.2.2.2.1,d.2.2.1.2.2.2.2.2.1,d.2.2.1.2.2.2.2.2.2.1,d.2.2.1.2.2.2.2.2.2.2.1,d.2.2.1.2.2.2.2.2.2.2.2.1,d.2.2.1.2.2.2.2.2.2.2.2.2.1,d.2.2.1.2.2.2.2.2.2.2.2.2.2.1,d.2.2.1.2.2.2.2.2.2.2.2.2.2.2.1,d.2.2.1.2.2.2.2.2.2.2.2.2.2.2.2.1,d.2.2.1.2.2.2.2.2.2.2.2.2.2.2.2.2.1,(),()),d.2.2.2.1,()))⟩,
  ⟨⟨.rt,[4],[.p (.i .i64)],[.c 60 [.B 1],h7,.m 3 4]⟩,Int,λ d r=>((r,()),(((),()),(d.2.2.1.1,d.2.2.1.2.1,d.2.2.1.2.2.1,d.2.2.1.2.2.2.1,d.2.2.1.2.2.2.2.1,d.2.2.1.2.2.2.2.2.1,d.2.2.1.2.2.2.2.2.2.1,d.2.2.1.2.2.2.2.2.2.2.1,d.2.2.1.2.2.2.2.2.2.2.2.1,d.2.2.1.2.2.2.2.2.2.2.2.2.1,d.2.2.1.2.2.2.2.2.2.2.2.2.2.1,d.2.2.1.2.2.2.2.2.2.2.2.2.2.2.1,d.2.2.1.2.2.2.2.2.2.2.2.2.2.2.2.1,d.2.2.1.2.2.2.2.2.2.2.2.2.2.2.2.2.1,(),()),d.2.2.2.1,()))⟩],
 λ k d=>U0 k d.1.1 (⟨(dQ d.2.2.1),(gO d.2.2.1.2.2.2.2.2.2.2),d.2.2.1.2.2.2.2.2.2.2.2.2.2.2.2.1,d.2.2.1.2.2.2.2.2.2.2.2.2.2.2.2.2.1,d.2.2.2.1⟩:I.bj) d.1.2.2.2.1 d.1.2.2.1⟩ (bL.bV (λ d=>dz) λ k da db q h=>by
 obtain⟨(v0:List Int),⟨_,_⟩,(v1:Int),(f:Int),_⟩:=da
 obtain⟨⟨_,_⟩,⟨(v3:List Int),(v4:Int),(v5:Int),(g:Int),(i:Int),(cE:List Int),(v9:Int),(a:List I.ao),(b:List Int),(c:List (List I.Field)),(j:List (List (List UInt8))),(l:List (List I.Target)),(m:List Int),(gn:List Int),_,_⟩,(e:List (Int×Bool)),_⟩:=db
 obtain⟨n,_⟩:=ea h
 dsimp only at n
 obtain⟨rfl,_⟩:=n
 conv=>rhs;change dV (α:=Unit⊕Int) _ (U0 (k+1) v0 (⟨(⟨v3,v4,v5,g,i,cE,v9⟩:I.aU),(⟨(⟨a,b,c,j,l⟩:I.aR)⟩:I.b9),m,gn,e⟩:I.bj) f (v0.length:Int));rw[<-Y6 (k+1) v0 (⟨(⟨v3,v4,v5,g,i,cE,v9⟩:I.aU),(⟨(⟨a,b,c,j,l⟩:I.aR)⟩:I.b9),m,gn,e⟩:I.bj) f];simp only[zV,a_,Y6];simp only[bT]
 kernel_rfl)
noncomputable def ase(F:Nat):aP aE:=(asc F).vy 106 ⟨[.p (.l 3),.f 139 [.B 0]],[.c 60 [.B 1],h7,.m 3 4],[.p (.i .i64)],[.c 60 [.B 1],h7,.m 3 4],Int,λ d=>PZ F d.1.1 (⟨(dQ d.2.2.1),(gO d.2.2.1.2.2.2.2.2.2.2),d.2.2.1.2.2.2.2.2.2.2.2.2.2.2.2.1,d.2.2.1.2.2.2.2.2.2.2.2.2.2.2.2.2.1,d.2.2.2.1⟩:I.bj),λ d r=>((r,()),(((),()),(d.2.2.1.1,d.2.2.1.2.1,d.2.2.1.2.2.1,d.2.2.1.2.2.2.1,d.2.2.1.2.2.2.2.1,d.2.2.1.2.2.2.2.2.1,d.2.2.1.2.2.2.2.2.2.1,d.2.2.1.2.2.2.2.2.2.2.1,d.2.2.1.2.2.2.2.2.2.2.2.1,d.2.2.1.2.2.2.2.2.2.2.2.2.1,d.2.2.1.2.2.2.2.2.2.2.2.2.2.1,d.2.2.1.2.2.2.2.2.2.2.2.2.2.2.1,d.2.2.1.2.2.2.2.2.2.2.2.2.2.2.2.1,d.2.2.1.2.2.2.2.2.2.2.2.2.2.2.2.2.1,(),()),d.2.2.2.1,()))⟩ λ da db=>by
 obtain⟨(v0:List Int),⟨_,_⟩,_⟩:=da;obtain⟨⟨_,_⟩,⟨(v1:List Int),(e:Int),(v3:Int),(v4:Int),(v5:Int),(f:List Int),(g:Int),(cE:List I.ao),(v9:List Int),(a:List (List I.Field)),(b:List (List (List UInt8))),(c:List (List I.Target)),(h:List Int),(i:List Int),_,_⟩,(j:List (Int×Bool)),_⟩:=db;conv=>rhs;simp only[PZ,a_,Y6]
 kernel_rfl
noncomputable def U2(k:Nat)(s_:List Int)(a:I.bj)(b:Int)(c:Int):=dg ((s_.length:Int)=c/\True) (bf (zX s_ a k b))
theorem Y8(k:Nat)(s_:List Int)(a:I.bj)(b:Int):bf (zX s_ a k b)=U2 k s_ a b (s_.length:Int):=(dA ⟨rfl,trivial⟩).symm
noncomputable def asf(F:Nat):aP aE:=(ase F).JK 106 0 F ⟨[0,1,7,8],[.p (.l 3),.f 67 [.B 0],.p (.i .i64),.p (.i .i64)],[.c 60 [.B 1],h7,.m 3 4],
 [⟨⟨.nm,[],[],[.c 60 [.B 1],h7,.m 3 4]⟩,Unit,λ d r=>((),(((),()),(d.2.2.1.1,d.2.2.1.2.1,d.2.2.1.2.2.1,d.2.2.1.2.2.2.1,d.2.2.1.2.2.2.2.1,d.2.2.1.2.2.2.2.2.1,d.2.2.1.2.2.2.2.2.2.1,d.2.2.1.2.2.2.2.2.2.2.1,d.2.2.1.2.2.2.2.2.2.2.2.1,d.2.2.1.2.2.2.2.2.2.2.2.2.1,d.2.2.1.2.2.2.2.2.2.2.2.2.2.1,d.2.2.1.2.2.2.2.2.2.2.2.2.2.2.1,d.2.2.1.2.2.2.2.2.2.2.2.2.2.2.2.1,d.2.2.1.2.2.2.2.2.2.2.2.2.2.2.2.2.1,(),()),d.2.2.2.1,()))⟩,
  ⟨⟨.rt,[4],[.p (.i .i64)],[.c 60 [.B 1],h7,.m 3 4]⟩,Int,λ d r=>((r,()),(((),()),(d.2.2.1.1,d.2.2.1.2.1,d.2.2.1.2.2.1,d.2.2.1.2.2.2.1,d.2.2.1.2.2.2.2.1,d.2.2.1.2.2.2.2.2.1,d.2.2.1.2.2.2.2.2.2.1,d.2.2.1.2.2.2.2.2.2.2.1,d.2.2.1.2.2.2.2.2.2.2.2.1,d.2.2.1.2.2.2.2.2.2.2.2.2.1,d.2.2.1.2.2.2.2.2.2.2.2.2.2.1,d.2.2.1.2.2.2.2.2.2.2.2.2.2.2.1,d.2.2.1.2.2.2.2.2.2.2.2.2.2.2.2.1,d.2.2.1.2.2.2.2.2.2.2.2.2.2.2.2.2.1,(),()),d.2.2.2.1,()))⟩],
 λ k d=>U2 k d.1.1 (⟨(dQ d.2.2.1),(gO d.2.2.1.2.2.2.2.2.2.2),d.2.2.1.2.2.2.2.2.2.2.2.2.2.2.2.1,d.2.2.1.2.2.2.2.2.2.2.2.2.2.2.2.2.1,d.2.2.2.1⟩:I.bj) d.1.2.2.2.1 d.1.2.2.1⟩ (bL.bV (λ d=>dz) λ k da db q h=>by
 obtain⟨(v0:List Int),⟨_,_⟩,(v1:Int),(f:Int),_⟩:=da
 obtain⟨⟨_,_⟩,⟨(v3:List Int),(v4:Int),(v5:Int),(g:Int),(i:Int),(cE:List Int),(v9:Int),(a:List I.ao),(b:List Int),(c:List (List I.Field)),(j:List (List (List UInt8))),(l:List (List I.Target)),(m:List Int),(gn:List Int),_,_⟩,(e:List (Int×Bool)),_⟩:=db
 obtain⟨n,_⟩:=ea h
 dsimp only at n
 obtain⟨rfl,_⟩:=n
 conv=>rhs;change dV (α:=Unit⊕Int) _ (U2 (k+1) v0 (⟨(⟨v3,v4,v5,g,i,cE,v9⟩:I.aU),(⟨(⟨a,b,c,j,l⟩:I.aR)⟩:I.b9),m,gn,e⟩:I.bj) f (v0.length:Int));rw[<-Y8 (k+1) v0 (⟨(⟨v3,v4,v5,g,i,cE,v9⟩:I.aU),(⟨(⟨a,b,c,j,l⟩:I.aR)⟩:I.b9),m,gn,e⟩:I.bj) f];simp only[zX,a_,Y8];simp only[bT]
 kernel_rfl)
noncomputable def asg(F:Nat):aP aE:=(asf F).vy 106 ⟨[.p (.l 3),.f 67 [.B 0]],[.c 60 [.B 1],h7,.m 3 4],[.p (.i .i64)],[.c 60 [.B 1],h7,.m 3 4],Int,λ d=>P1 F d.1.1 (⟨(dQ d.2.2.1),(gO d.2.2.1.2.2.2.2.2.2.2),d.2.2.1.2.2.2.2.2.2.2.2.2.2.2.2.1,d.2.2.1.2.2.2.2.2.2.2.2.2.2.2.2.2.1,d.2.2.2.1⟩:I.bj),λ d r=>((r,()),(((),()),(d.2.2.1.1,d.2.2.1.2.1,d.2.2.1.2.2.1,d.2.2.1.2.2.2.1,d.2.2.1.2.2.2.2.1,d.2.2.1.2.2.2.2.2.1,d.2.2.1.2.2.2.2.2.2.1,d.2.2.1.2.2.2.2.2.2.2.1,d.2.2.1.2.2.2.2.2.2.2.2.1,d.2.2.1.2.2.2.2.2.2.2.2.2.1,d.2.2.1.2.2.2.2.2.2.2.2.2.2.1,d.2.2.1.2.2.2.2.2.2.2.2.2.2.2.1,d.2.2.1.2.2.2.2.2.2.2.2.2.2.2.2.1,d.2.2.1.2.2.2.2.2.2.2.2.2.2.2.2.2.1,(),()),d.2.2.2.1,()))⟩ λ da db=>by
 obtain⟨(v0:List Int),⟨_,_⟩,_⟩:=da;obtain⟨⟨_,_⟩,⟨(v1:List Int),(e:Int),(v3:Int),(v4:Int),(v5:Int),(f:List Int),(g:Int),(cE:List I.ao),(v9:List Int),(a:List (List I.Field)),(b:List (List (List UInt8))),(c:List (List I.Target)),(h:List Int),(i:List Int),_,_⟩,(j:List (Int×Bool)),_⟩:=db;conv=>rhs;simp only[P1,a_,Y8]
 kernel_rfl
noncomputable def ash(F:Nat):aP aE:=(asg F).rt 66 ⟨[.p (.l 3),.f 136 []],[],[.p (.b)],[],Bool,λ d=>PW F d.1.1,λ d r=>((r,()),())⟩ λ da db=>by
 conv=>rhs;simp only[PW,a_]
 kernel_rfl
noncomputable def asi(F:Nat):aP aE:=(ash F).vy 66 ⟨[.p (.l 3),.f 139 [.B 0]],[.c 60 [.B 1],h7,.m 3 4],[.p (.b)],[.c 60 [.B 1],h7,.m 3 4],Bool,λ d=>PV F d.1.1 (⟨(dQ d.2.2.1),(gO d.2.2.1.2.2.2.2.2.2.2),d.2.2.1.2.2.2.2.2.2.2.2.2.2.2.2.1,d.2.2.1.2.2.2.2.2.2.2.2.2.2.2.2.2.1,d.2.2.2.1⟩:I.bj),λ d r=>((r,()),(((),()),(d.2.2.1.1,d.2.2.1.2.1,d.2.2.1.2.2.1,d.2.2.1.2.2.2.1,d.2.2.1.2.2.2.2.1,d.2.2.1.2.2.2.2.2.1,d.2.2.1.2.2.2.2.2.2.1,d.2.2.1.2.2.2.2.2.2.2.1,d.2.2.1.2.2.2.2.2.2.2.2.1,d.2.2.1.2.2.2.2.2.2.2.2.2.1,d.2.2.1.2.2.2.2.2.2.2.2.2.2.1,d.2.2.1.2.2.2.2.2.2.2.2.2.2.2.1,d.2.2.1.2.2.2.2.2.2.2.2.2.2.2.2.1,d.2.2.1.2.2.2.2.2.2.2.2.2.2.2.2.2.1,(),()),d.2.2.2.1,()))⟩ λ da db=>by
 conv=>rhs;simp only[PV,a_]
 kernel_rfl
noncomputable def asj(F:Nat):aP aE:=(asi F).vy 66 ⟨[.p (.l 3),.f 67 [.B 0]],[.c 60 [.B 1],h7,.m 3 4],[.p (.b)],[.c 60 [.B 1],h7,.m 3 4],Bool,λ d=>PX F d.1.1 (⟨(dQ d.2.2.1),(gO d.2.2.1.2.2.2.2.2.2.2),d.2.2.1.2.2.2.2.2.2.2.2.2.2.2.2.1,d.2.2.1.2.2.2.2.2.2.2.2.2.2.2.2.2.1,d.2.2.2.1⟩:I.bj),λ d r=>((r,()),(((),()),(d.2.2.1.1,d.2.2.1.2.1,d.2.2.1.2.2.1,d.2.2.1.2.2.2.1,d.2.2.1.2.2.2.2.1,d.2.2.1.2.2.2.2.2.1,d.2.2.1.2.2.2.2.2.2.1,d.2.2.1.2.2.2.2.2.2.2.1,d.2.2.1.2.2.2.2.2.2.2.2.1,d.2.2.1.2.2.2.2.2.2.2.2.2.1,d.2.2.1.2.2.2.2.2.2.2.2.2.2.1,d.2.2.1.2.2.2.2.2.2.2.2.2.2.2.1,d.2.2.1.2.2.2.2.2.2.2.2.2.2.2.2.1,d.2.2.1.2.2.2.2.2.2.2.2.2.2.2.2.2.1,(),()),d.2.2.2.1,()))⟩ λ da db=>by
 conv=>rhs;simp only[PX,a_]
 kernel_rfl
noncomputable def Up(k:Nat)(b:I.bj)(a:List Int)(c:Int)(bN:Int):=dg ((a.length:Int)=bN/\True) (bf (vV b a k c))
theorem Yw(k:Nat)(b:I.bj)(a:List Int)(c:Int):bf (vV b a k c)=Up k b a c (a.length:Int):=(dA ⟨rfl,trivial⟩).symm
noncomputable def asl(F:Nat):aP aE:=(asj F).bY 104 2 F ⟨[0,10,11,12,18,19,20],[.p (.B 0),.p (.l 3),.p (.i .i64),.p (.i .i64),.p (.l 3),.p (.i .i64),.p (.i .i64)],[fx,.m 3 4],
 [⟨⟨.nm,[0,10,11,12],[.p (.B 0),.p (.l 3),.p (.i .i64),.p (.i .i64)],[fx,.m 3 4]⟩,Unit,λ d r=>(((),d.1.2.1,d.1.2.2.1,d.1.2.2.2.1,()),((d.2.1.1,d.2.1.2.1,d.2.1.2.2.1,d.2.1.2.2.2.1,d.2.1.2.2.2.2.1,d.2.1.2.2.2.2.2.1,d.2.1.2.2.2.2.2.2.1,d.2.1.2.2.2.2.2.2.2.1,d.2.1.2.2.2.2.2.2.2.2.1,d.2.1.2.2.2.2.2.2.2.2.2.1,d.2.1.2.2.2.2.2.2.2.2.2.2.1,d.2.1.2.2.2.2.2.2.2.2.2.2.2.1,d.2.1.2.2.2.2.2.2.2.2.2.2.2.2.1,d.2.1.2.2.2.2.2.2.2.2.2.2.2.2.2.1,(),()),d.2.2.1,()))⟩,
  ⟨⟨.rt,[2],[.p (.i .i64)],[fx,.m 3 4]⟩,Int,λ d r=>((r,()),((d.2.1.1,d.2.1.2.1,d.2.1.2.2.1,d.2.1.2.2.2.1,d.2.1.2.2.2.2.1,d.2.1.2.2.2.2.2.1,d.2.1.2.2.2.2.2.2.1,d.2.1.2.2.2.2.2.2.2.1,d.2.1.2.2.2.2.2.2.2.2.1,d.2.1.2.2.2.2.2.2.2.2.2.1,d.2.1.2.2.2.2.2.2.2.2.2.2.1,d.2.1.2.2.2.2.2.2.2.2.2.2.2.1,d.2.1.2.2.2.2.2.2.2.2.2.2.2.2.1,d.2.1.2.2.2.2.2.2.2.2.2.2.2.2.2.1,(),()),d.2.2.1,()))⟩],
 λ k d=>Up k (⟨(dQ d.2.1),(gO d.2.1.2.2.2.2.2.2.2),d.2.1.2.2.2.2.2.2.2.2.2.2.2.2.1,d.2.1.2.2.2.2.2.2.2.2.2.2.2.2.2.1,d.2.2.1⟩:I.bj) d.1.2.2.2.2.1 d.1.2.2.2.2.2.2.1 d.1.2.2.2.2.2.1⟩ (bL.bV (λ d=>dz) λ k da db q h=>by
 obtain⟨_,(v0:List Int),(v1:Int),(s:Int),(v3:List Int),(v4:Int),(v5:Int),_⟩:=da
 obtain⟨⟨(g:List Int),(i:Int),(cE:Int),(v9:Int),(a:Int),(b:List Int),(c:Int),(j:List I.ao),(l:List Int),(m:List (List I.Field)),(gn:List (List (List UInt8))),(e:List (List I.Target)),(n:List Int),(o:List Int),_,_⟩,(f:List (Int×Bool)),_⟩:=db
 obtain⟨p,_⟩:=ea h
 dsimp only at p
 obtain⟨rfl,_⟩:=p
 conv=>rhs;change dV (α:=Unit⊕Int) _ (Up (k+1) (⟨(⟨g,i,cE,v9,a,b,c⟩:I.aU),(⟨(⟨j,l,m,gn,e⟩:I.aR)⟩:I.b9),n,o,f⟩:I.bj) v3 v5 (v3.length:Int));rw[<-Yw (k+1) (⟨(⟨g,i,cE,v9,a,b,c⟩:I.aU),(⟨(⟨j,l,m,gn,e⟩:I.aR)⟩:I.b9),n,o,f⟩:I.bj) v3 v5];simp only[vV,a_,Yw,aCN];simp only[bT]
 kernel_rfl)
noncomputable def Uo(F:Nat)(k:Nat)(b:I.bj)(a:List Int)(c:Int)(d:Int):=dg ((a.length:Int)=d/\True) (bf (yI F b a k c))
theorem Yv(F:Nat)(k:Nat)(b:I.bj)(a:List Int)(c:Int):bf (yI F b a k c)=Uo F k b a c (a.length:Int):=(dA ⟨rfl,trivial⟩).symm
noncomputable def asm(F:Nat):aP aE:=(asl F).bY 104 0 F ⟨[0,10,11,12],[.p (.B 0),.p (.l 3),.p (.i .i64),.p (.i .i64)],[fx,.m 3 4],
 [⟨⟨.nm,[0],[.p (.B 0)],[fx,.m 3 4]⟩,Unit,λ d r=>(((),()),((d.2.1.1,d.2.1.2.1,d.2.1.2.2.1,d.2.1.2.2.2.1,d.2.1.2.2.2.2.1,d.2.1.2.2.2.2.2.1,d.2.1.2.2.2.2.2.2.1,d.2.1.2.2.2.2.2.2.2.1,d.2.1.2.2.2.2.2.2.2.2.1,d.2.1.2.2.2.2.2.2.2.2.2.1,d.2.1.2.2.2.2.2.2.2.2.2.2.1,d.2.1.2.2.2.2.2.2.2.2.2.2.2.1,d.2.1.2.2.2.2.2.2.2.2.2.2.2.2.1,d.2.1.2.2.2.2.2.2.2.2.2.2.2.2.2.1,(),()),d.2.2.1,()))⟩,
  ⟨⟨.rt,[2],[.p (.i .i64)],[fx,.m 3 4]⟩,Int,λ d r=>((r,()),((d.2.1.1,d.2.1.2.1,d.2.1.2.2.1,d.2.1.2.2.2.1,d.2.1.2.2.2.2.1,d.2.1.2.2.2.2.2.1,d.2.1.2.2.2.2.2.2.1,d.2.1.2.2.2.2.2.2.2.1,d.2.1.2.2.2.2.2.2.2.2.1,d.2.1.2.2.2.2.2.2.2.2.2.1,d.2.1.2.2.2.2.2.2.2.2.2.2.1,d.2.1.2.2.2.2.2.2.2.2.2.2.2.1,d.2.1.2.2.2.2.2.2.2.2.2.2.2.2.1,d.2.1.2.2.2.2.2.2.2.2.2.2.2.2.2.1,(),()),d.2.2.1,()))⟩],
 λ k d=>Uo F k (⟨(dQ d.2.1),(gO d.2.1.2.2.2.2.2.2.2),d.2.1.2.2.2.2.2.2.2.2.2.2.2.2.1,d.2.1.2.2.2.2.2.2.2.2.2.2.2.2.2.1,d.2.2.1⟩:I.bj) d.1.2.1 d.1.2.2.2.1 d.1.2.2.1⟩ (bL.bV (λ d=>dz) λ k da db q h=>by
 obtain⟨_,(v0:List Int),(v1:Int),(f:Int),_⟩:=da
 obtain⟨⟨(v3:List Int),(v4:Int),(v5:Int),(g:Int),(i:Int),(cE:List Int),(v9:Int),(a:List I.ao),(b:List Int),(c:List (List I.Field)),(j:List (List (List UInt8))),(l:List (List I.Target)),(m:List Int),(gn:List Int),_,_⟩,(e:List (Int×Bool)),_⟩:=db
 obtain⟨n,_⟩:=ea h
 dsimp only at n
 obtain⟨rfl,_⟩:=n
 conv=>rhs;change dV (α:=Unit⊕Int) _ (Uo F (k+1) (⟨(⟨v3,v4,v5,g,i,cE,v9⟩:I.aU),(⟨(⟨a,b,c,j,l⟩:I.aR)⟩:I.b9),m,gn,e⟩:I.bj) v0 f (v0.length:Int));rw[<-Yv F (k+1) (⟨(⟨v3,v4,v5,g,i,cE,v9⟩:I.aU),(⟨(⟨a,b,c,j,l⟩:I.aR)⟩:I.b9),m,gn,e⟩:I.bj) v0 f];simp only[yI,a_,Yw,Yv];simp only[bT]
 kernel_rfl)
noncomputable def asn(F:Nat):aP aE:=(asm F).rt 104 ⟨[.p (.B 0)],[fx,.m 3 4],[.p (.i .i64)],[fx,.m 3 4],Int,λ d=>Fo F (⟨(dQ d.2.1),(gO d.2.1.2.2.2.2.2.2.2),d.2.1.2.2.2.2.2.2.2.2.2.2.2.2.1,d.2.1.2.2.2.2.2.2.2.2.2.2.2.2.2.1,d.2.2.1⟩:I.bj),λ d r=>((r,()),((d.2.1.1,d.2.1.2.1,d.2.1.2.2.1,d.2.1.2.2.2.1,d.2.1.2.2.2.2.1,d.2.1.2.2.2.2.2.1,d.2.1.2.2.2.2.2.2.1,d.2.1.2.2.2.2.2.2.2.1,d.2.1.2.2.2.2.2.2.2.2.1,d.2.1.2.2.2.2.2.2.2.2.2.1,d.2.1.2.2.2.2.2.2.2.2.2.2.1,d.2.1.2.2.2.2.2.2.2.2.2.2.2.1,d.2.1.2.2.2.2.2.2.2.2.2.2.2.2.1,d.2.1.2.2.2.2.2.2.2.2.2.2.2.2.2.1,(),()),d.2.2.1,()))⟩ λ da db=>by
 obtain⟨_,_⟩:=da;obtain⟨⟨(v0:List Int),(v1:Int),(e:Int),(v3:Int),(v4:Int),(v5:List Int),(f:Int),(g:List I.ao),(cE:List Int),(v9:List (List I.Field)),(a:List (List (List UInt8))),(b:List (List I.Target)),(c:List Int),(h:List Int),_,_⟩,(i:List (Int×Bool)),_⟩:=db;conv=>rhs;simp only[Fo,a_,Yv]
 kernel_rfl
noncomputable def aso(F:Nat):aP aE:=(asn F).rt 172 ⟨[.p (.i .i64)],[],[.p (.b)],[],Bool,λ d=>cmp_isNaN_int d.1.1,λ d r=>((r,()),())⟩ λ da db=>by
 kernel_rfl
noncomputable def aou(F:Nat):aP aE:=(aso F).rt 160 ⟨[.p (.i .i64),.p (.i .i64)],[],[.p (.b)],[],Bool,λ d=>cmp_Less_int d.1.1 d.1.2.1,λ d r=>((r,()),())⟩ λ da db=>by
 conv=>rhs;simp only[cmp_Less_int,a_]
 kernel_rfl
noncomputable def aov(F:Nat):aP aE:=(aou F).rt 161 ⟨[.p (.i .i64)],[],[.p (.b)],[],Bool,λ d=>P2 d.1.1,λ d r=>((r,()),())⟩ λ da db=>by
 kernel_rfl
noncomputable def UO(k:Nat)(b:Int)(a:List Int)(c:Int)(d:Int)(ak:Int):=dg ((a.length:Int)=ak/\True) (uz b a k c d)
theorem YV(k:Nat)(b:Int)(a:List Int)(c:Int)(d:Int):uz b a k c d=UO k b a c d (a.length:Int):=(dA ⟨rfl,trivial⟩).symm
noncomputable def aow(F:Nat):aP aE:=(aov F).bY 138 0 F ⟨[0,1,6,7,8],[.p (.l 3),.p (.i .i64),.p (.i .i64),.p (.i .i64),.p (.i .i64)],[],
 [⟨⟨.nm,[0,1,6,7],[.p (.l 3),.p (.i .i64),.p (.i .i64),.p (.i .i64)],[]⟩,Int,λ d r=>((d.1.1,d.1.2.1,d.1.2.2.1,r,()),())⟩],
 λ k d=>UO k d.1.2.1 d.1.1 d.1.2.2.2.1 d.1.2.2.2.2.1 d.1.2.2.1⟩ (bL.bV (λ d=>dz) λ k da db q h=>by
 obtain⟨(v0:List Int),(v1:Int),(b:Int),(v3:Int),(v4:Int),_⟩:=da
 obtain⟨a,_⟩:=ea h
 dsimp only at a
 obtain⟨rfl,_⟩:=a
 conv=>rhs;change dV (α:=Int) _ (UO (k+1) v1 v0 v3 v4 (v0.length:Int));rw[<-YV (k+1) v1 v0 v3 v4];simp only[uz,a_,YV];simp only[bT]
 kernel_rfl)
noncomputable def aox(F:Nat):aP aE:=(aow F).rt 138 ⟨[.p (.l 3),.p (.i .i64)],[],[.p (.i .i64),.p (.b)],[],Int×Bool,λ d=>Kz F d.1.1 d.1.2.1,λ d r=>((r.1,r.2,()),())⟩ λ da db=>by
 obtain⟨(v0:List Int),(v1:Int),_⟩:=da;conv=>rhs;simp only[Kz,a_,YV]
 kernel_rfl
noncomputable def Ul(F:Nat)(k:Nat)(a:I.bj)(b:Int)(c:List Int)(ak:Int)(EY:List Int):=dg ((a.H.aV:List Int)=c/\(a.H.aV.length:Int)=ak/\(a.H.aV:List Int)=EY/\True) (bf (tD F a k b))
theorem Ys(F:Nat)(k:Nat)(a:I.bj)(b:Int):bf (tD F a k b)=Ul F k a b a.H.aV (a.H.aV.length:Int) a.H.aV:=(dA ⟨rfl,rfl,rfl,trivial⟩).symm
noncomputable def aoy(F:Nat):aP aE:=(aox F).bY 105 0 F ⟨[1,3,16,17,18],[.p (.B 0),.p (.l 3),.p (.l 3),.p (.i .i64),.p (.i .i64)],[.c 60 [.B 1],h7,.m 3 4],
 [⟨⟨.nm,[1,3],[.p (.B 0),.p (.l 3)],[.c 60 [.B 1],h7,.m 3 4]⟩,Unit,λ d r=>(((),d.1.2.1,()),(((),()),(d.2.2.1.1,d.2.2.1.2.1,d.2.2.1.2.2.1,d.2.2.1.2.2.2.1,d.2.2.1.2.2.2.2.1,d.2.2.1.2.2.2.2.2.1,d.2.2.1.2.2.2.2.2.2.1,d.2.2.1.2.2.2.2.2.2.2.1,d.2.2.1.2.2.2.2.2.2.2.2.1,d.2.2.1.2.2.2.2.2.2.2.2.2.1,d.2.2.1.2.2.2.2.2.2.2.2.2.2.1,d.2.2.1.2.2.2.2.2.2.2.2.2.2.2.1,d.2.2.1.2.2.2.2.2.2.2.2.2.2.2.2.1,d.2.2.1.2.2.2.2.2.2.2.2.2.2.2.2.2.1,(),()),d.2.2.2.1,()))⟩,
  ⟨⟨.rt,[2],[.p (.i .i64)],[.c 60 [.B 1],h7,.m 3 4]⟩,Int,λ d r=>((r,()),(((),()),(d.2.2.1.1,d.2.2.1.2.1,d.2.2.1.2.2.1,d.2.2.1.2.2.2.1,d.2.2.1.2.2.2.2.1,d.2.2.1.2.2.2.2.2.1,d.2.2.1.2.2.2.2.2.2.1,d.2.2.1.2.2.2.2.2.2.2.1,d.2.2.1.2.2.2.2.2.2.2.2.1,d.2.2.1.2.2.2.2.2.2.2.2.2.1,d.2.2.1.2.2.2.2.2.2.2.2.2.2.1,d.2.2.1.2.2.2.2.2.2.2.2.2.2.2.1,d.2.2.1.2.2.2.2.2.2.2.2.2.2.2.2.1,d.2.2.1.2.2.2.2.2.2.2.2.2.2.2.2.2.1,(),()),d.2.2.2.1,()))⟩],
 λ k d=>Ul F k (⟨(⟨d.2.2.1.1,d.2.2.1.2.1,d.2.2.1.2.2.1,d.2.2.1.2.2.2.1,d.2.2.1.2.2.2.2.1,d.1.2.1,d.2.2.1.2.2.2.2.2.2.1⟩:I.aU),(gO d.2.2.1.2.2.2.2.2.2.2),d.2.2.1.2.2.2.2.2.2.2.2.2.2.2.2.1,d.2.2.1.2.2.2.2.2.2.2.2.2.2.2.2.2.1,d.2.2.2.1⟩:I.bj) d.1.2.2.2.2.1 d.1.2.2.1 d.1.2.2.2.1 d.2.2.1.2.2.2.2.2.1⟩ (bL.bV (λ d=>dz) λ k da db q h=>by
 obtain⟨_,(v0:List Int),(v1:List Int),(o:Int),(v3:Int),_⟩:=da
 obtain⟨⟨_,_⟩,⟨(v4:List Int),(v5:Int),(f:Int),(g:Int),(cE:Int),(v9:List Int),(a:Int),(b:List I.ao),(c:List Int),(i:List (List I.Field)),(j:List (List (List UInt8))),(l:List (List I.Target)),(gn:List Int),(e:List Int),_,_⟩,(m:List (Int×Bool)),_⟩:=db
 obtain⟨n,_⟩:=ea h
 dsimp only at n
 obtain⟨rfl,rfl,rfl,_⟩:=n
 conv=>rhs;change dV (α:=Unit⊕Int) _ (Ul F (k+1) (⟨(⟨v4,v5,f,g,cE,v0,a⟩:I.aU),(⟨(⟨b,c,i,j,l⟩:I.aR)⟩:I.b9),gn,e,m⟩:I.bj) v3 (v0) (v0.length:Int) (v0));rw[<-Ys F (k+1) (⟨(⟨v4,v5,f,g,cE,v0,a⟩:I.aU),(⟨(⟨b,c,i,j,l⟩:I.aR)⟩:I.b9),gn,e,m⟩:I.bj) v3];simp only[tD,a_,Ys,XJ];simp only[bT]
 kernel_rfl)
noncomputable def Um(F:Nat)(k:Nat)(a:I.bj)(c:Int)(ak:Int)(EY:List Int)(b:List Int):=dg ((a.aN.length:Int)=ak/\(a.H.aV:List Int)=EY/\(a.aN:List Int)=b/\True) (bf (vU F a k c))
theorem Yt(F:Nat)(k:Nat)(a:I.bj)(b:Int):bf (vU F a k b)=Um F k a b (a.aN.length:Int) a.H.aV a.aN:=(dA ⟨rfl,rfl,rfl,trivial⟩).symm
noncomputable def aoz(F:Nat):aP aE:=(aoy F).bY 105 2 F ⟨[1,3,59,60,61],[.p (.B 0),.p (.l 3),.p (.l 3),.p (.i .i64),.p (.i .i64)],[.c 60 [.B 1],h7,.m 3 4],
 [⟨⟨.nm,[],[],[.c 60 [.B 1],h7,.m 3 4]⟩,Unit,λ d r=>((),(((),()),(d.2.2.1.1,d.2.2.1.2.1,d.2.2.1.2.2.1,d.2.2.1.2.2.2.1,d.2.2.1.2.2.2.2.1,d.2.2.1.2.2.2.2.2.1,d.2.2.1.2.2.2.2.2.2.1,d.2.2.1.2.2.2.2.2.2.2.1,d.2.2.1.2.2.2.2.2.2.2.2.1,d.2.2.1.2.2.2.2.2.2.2.2.2.1,d.2.2.1.2.2.2.2.2.2.2.2.2.2.1,d.2.2.1.2.2.2.2.2.2.2.2.2.2.2.1,d.2.2.1.2.2.2.2.2.2.2.2.2.2.2.2.1,d.2.2.1.2.2.2.2.2.2.2.2.2.2.2.2.2.1,(),()),d.2.2.2.1,()))⟩,
  ⟨⟨.rt,[2],[.p (.i .i64)],[.c 60 [.B 1],h7,.m 3 4]⟩,Int,λ d r=>((r,()),(((),()),(d.2.2.1.1,d.2.2.1.2.1,d.2.2.1.2.2.1,d.2.2.1.2.2.2.1,d.2.2.1.2.2.2.2.1,d.2.2.1.2.2.2.2.2.1,d.2.2.1.2.2.2.2.2.2.1,d.2.2.1.2.2.2.2.2.2.2.1,d.2.2.1.2.2.2.2.2.2.2.2.1,d.2.2.1.2.2.2.2.2.2.2.2.2.1,d.2.2.1.2.2.2.2.2.2.2.2.2.2.1,d.2.2.1.2.2.2.2.2.2.2.2.2.2.2.1,d.2.2.1.2.2.2.2.2.2.2.2.2.2.2.2.1,d.2.2.1.2.2.2.2.2.2.2.2.2.2.2.2.2.1,(),()),d.2.2.2.1,()))⟩],
 λ k d=>Um F k (⟨(⟨d.2.2.1.1,d.2.2.1.2.1,d.2.2.1.2.2.1,d.2.2.1.2.2.2.1,d.2.2.1.2.2.2.2.1,d.1.2.1,d.2.2.1.2.2.2.2.2.2.1⟩:I.aU),(gO d.2.2.1.2.2.2.2.2.2.2),d.2.2.1.2.2.2.2.2.2.2.2.2.2.2.2.1,d.1.2.2.1,d.2.2.2.1⟩:I.bj) d.1.2.2.2.2.1 d.1.2.2.2.1 d.2.2.1.2.2.2.2.2.1 d.2.2.1.2.2.2.2.2.2.2.2.2.2.2.2.2.1⟩ (bL.bV (λ d=>dz) λ k da db q h=>by
 obtain⟨_,(v0:List Int),(v1:List Int),(o:Int),(v3:Int),_⟩:=da
 obtain⟨⟨_,_⟩,⟨(v4:List Int),(v5:Int),(e:Int),(f:Int),(cE:Int),(v9:List Int),(a:Int),(b:List I.ao),(c:List Int),(g:List (List I.Field)),(i:List (List (List UInt8))),(j:List (List I.Target)),(gn:List Int),(n:List Int),_,_⟩,(l:List (Int×Bool)),_⟩:=db
 obtain⟨m,_⟩:=ea h
 dsimp only at m
 obtain⟨rfl,rfl,rfl,_⟩:=m
 conv=>rhs;change dV (α:=Unit⊕Int) _ (Um F (k+1) (⟨(⟨v4,v5,e,f,cE,v0,a⟩:I.aU),(⟨(⟨b,c,g,i,j⟩:I.aR)⟩:I.b9),gn,v1,l⟩:I.bj) v3 (v1.length:Int) (v0) (v1));rw[<-Yt F (k+1) (⟨(⟨v4,v5,e,f,cE,v0,a⟩:I.aU),(⟨(⟨b,c,g,i,j⟩:I.aR)⟩:I.b9),gn,v1,l⟩:I.bj) v3];simp only[vU,a_,Yt];simp only[bT]
 kernel_rfl)
noncomputable def aoA(F:Nat):aP aE:=(aoz F).rt 105 ⟨[.p (.B 0)],[fx,.m 3 4],[.p (.i .i64)],[fx,.m 3 4],Int,λ d=>Fm F (⟨(dQ d.2.1),(gO d.2.1.2.2.2.2.2.2.2),d.2.1.2.2.2.2.2.2.2.2.2.2.2.2.1,d.2.1.2.2.2.2.2.2.2.2.2.2.2.2.2.1,d.2.2.1⟩:I.bj),λ d r=>((r,()),((d.2.1.1,d.2.1.2.1,d.2.1.2.2.1,d.2.1.2.2.2.1,d.2.1.2.2.2.2.1,d.2.1.2.2.2.2.2.1,d.2.1.2.2.2.2.2.2.1,d.2.1.2.2.2.2.2.2.2.1,d.2.1.2.2.2.2.2.2.2.2.1,d.2.1.2.2.2.2.2.2.2.2.2.1,d.2.1.2.2.2.2.2.2.2.2.2.2.1,d.2.1.2.2.2.2.2.2.2.2.2.2.2.1,d.2.1.2.2.2.2.2.2.2.2.2.2.2.2.1,d.2.1.2.2.2.2.2.2.2.2.2.2.2.2.2.1,(),()),d.2.2.1,()))⟩ λ da db=>by
 obtain⟨_,_⟩:=da;obtain⟨⟨(v0:List Int),(v1:Int),(e:Int),(v3:Int),(v4:Int),(v5:List Int),(f:Int),(g:List I.ao),(cE:List Int),(v9:List (List I.Field)),(a:List (List (List UInt8))),(b:List (List I.Target)),(c:List Int),(h:List Int),_,_⟩,(i:List (Int×Bool)),_⟩:=db;conv=>rhs;simp only[Fm,a_,Ys,Yt]
 kernel_rfl
theorem aD'(F:Nat)(a:I.aU)(b:I.aR){cx:Type}(f:(Option I.bj)×Int->Option cx):(tE F a b).bind f=di (jT (tE F a b)) (λ p=>f (some p.1,p.2)) (λ e=>f (none,e)):=aiH _ _
noncomputable def aoB(F:Nat):aP aE:=(aoA F).PO 65 ⟨[jf,hr],[],[⟨⟨[.p (.B 0),.p (.i .i64)],[fx,.m 3 4]⟩,I.bj×Int,λ d r=>(((),r.2,()),((r.1.H.Words,r.1.H.au,r.1.H.aN,r.1.H.aX,r.1.H.aW,r.1.H.aV,r.1.H.Next,r.1.S.K.a8,r.1.S.K.aZ,r.1.S.K.Fields,r.1.S.K.Names,r.1.S.K.a1,r.1.au,r.1.aN,(),()),r.1.dH,()))⟩,
 ⟨⟨[.p (.gC),.p (.i .i64)],[]⟩,Int,λ d r=>(((),r,()),())⟩],λ d=>jT (tE F (dQ d.1.1) (e6 d.1.2.1))⟩ λ da db=>by
 conv=>rhs;simp only[tE,a_,aiI,aiJ,aiK,aiL,aiM,aiN];simp only[EU]
 kernel_rfl
theorem ajF(F:Nat)(a:I.aU)(b:I.aR){cx:Type}(f:(Option I.bj)×Int->Option cx):(j' F a b).bind f=di (jT (j' F a b)) (λ p=>f (some p.1,p.2)) (λ e=>f (none,e)):=aiH _ _
noncomputable def aoC(F:Nat):aP aE:=(aoB F).PO 33 ⟨[jf,hr],[],[⟨⟨[.p (.B 0),.p (.i .i64)],[fx,.m 3 4]⟩,I.bj×Int,λ d r=>(((),r.2,()),((r.1.H.Words,r.1.H.au,r.1.H.aN,r.1.H.aX,r.1.H.aW,r.1.H.aV,r.1.H.Next,r.1.S.K.a8,r.1.S.K.aZ,r.1.S.K.Fields,r.1.S.K.Names,r.1.S.K.a1,r.1.au,r.1.aN,(),()),r.1.dH,()))⟩,
 ⟨⟨[.p (.gC),.p (.i .i64)],[]⟩,Int,λ d r=>(((),r,()),())⟩],λ d=>jT (j' F (dQ d.1.1) (e6 d.1.2.1))⟩ λ da db=>by
 obtain⟨⟨(v0:List Int),(v1:Int),(c:Int),(v3:Int),(v4:Int),(v5:List Int),(e:Int),_⟩,⟨(f:List I.ao),(cE:List Int),(v9:List (List I.Field)),(a:List (List (List UInt8))),(b:List (List I.Target)),_⟩,_⟩:=da
 conv=>rhs;simp only[j',a_,aiI,aiJ,aiK,aiL,aiM,aiN,aD'];simp only[EU]
 kernel_rfl
noncomputable def aoD(F:Nat):aP aE:=(aoC F).rt 35 ⟨[jf],[],[.p (.i .i64)],[],Int,λ d=>aca (dQ d.1.1),λ d r=>((r,()),())⟩ λ da db=>by
 conv=>rhs;simp only[aca,a_]
 kernel_rfl
noncomputable def aoF(F:Nat):aP aE:=(aoD F).rt 19 ⟨[jf,hr],[],[.p (.i .i64),.p (.i .i64)],[],Int×Int,λ d=>aok F (dQ d.1.1) (e6 d.1.2.1),λ d r=>((r.1,r.2,()),())⟩ λ da db=>by
 obtain⟨⟨(v0:List Int),(v1:Int),(c:Int),(v3:Int),(v4:Int),(v5:List Int),(e:Int),_⟩,⟨(f:List I.ao),(cE:List Int),(v9:List (List I.Field)),(a:List (List (List UInt8))),(b:List (List I.Target)),_⟩,_⟩:=da;conv=>rhs;simp only[aok,a_,ajF]
 kernel_rfl
noncomputable def aoG(F:Nat):aP aE:=(aoF F).rt 47 ⟨[],[],[.p (.l 134)],[],List I.ao,λ d=>acH,λ d r=>((r,()),())⟩ λ da db=>by
 conv=>rhs;simp only[acH,a_]
 kernel_rfl
noncomputable def aoH(F:Nat):aP aE:=(aoG F).rt 48 ⟨[.p (.i .i64),.p (.i .i64)],[],[jf,.p (.i .i64)],[],I.aU×Int,λ d=>agu d.1.1 d.1.2.1,λ d r=>(((r.1.Words,r.1.au,r.1.aN,r.1.aX,r.1.aW,r.1.aV,r.1.Next,()),r.2,()),())⟩ λ da db=>by
 conv=>rhs;simp only[agu,a_]
 kernel_rfl
noncomputable def aoI(F:Nat):aP aE:=(aoH F).rt 57 ⟨[hr,.p (.i .i64),.p (.i .i64)],[],[.p (.i .i64)],[],Int,λ d=>Vs (gO d.1.1) d.1.2.1 d.1.2.2.1,λ d r=>((r,()),())⟩ λ da db=>by
 conv=>rhs;simp only[Vs,a_]
 kernel_rfl
noncomputable def aoJ(F:Nat):aP aE:=(aoI F).rt 36 ⟨[jf],[],[.a [.R 0,.i .i64,.i .i64,.i .i64,.i .i64,.l 3,.i .i64]],[.r 3 false],I.aU,λ d=>nZ (dQ d.1.1),λ d r=>((((),r.au,r.aN,r.aX,r.aW,r.aV,r.Next,()),()),(r.Words,()))⟩ λ da db=>by
 obtain⟨⟨(v0:List Int),(v1:Int),(a:Int),(v3:Int),(v4:Int),(v5:List Int),(b:Int),_⟩,_⟩:=da;conv=>rhs;simp only[nZ,a_,PU]
 kernel_rfl
noncomputable def aoK(F:Nat):aP aE:=(aoJ F).rt 85 ⟨[.p (.B 0),.p (.i .i64),.p (.i .i64),.p (.b)],[ai_,.r 3 true],[.p (.i .i64),.p (.b)],[ai_,.r 3 true],Int×Bool×I.aU,λ d=>Vr (⟨d.2.2.1,d.2.1.2.1,d.2.1.2.2.1,d.2.1.2.2.2.1,d.2.1.2.2.2.2.1,d.2.1.2.2.2.2.2.1,d.2.1.2.2.2.2.2.2.1⟩:I.aU) d.1.2.1 d.1.2.2.1 d.1.2.2.2.1,λ d r=>((r.1,r.2.1,()),(((),d.2.1.2.1,d.2.1.2.2.1,r.2.2.aX,r.2.2.aW,d.2.1.2.2.2.2.2.1,r.2.2.Next,()),r.2.2.Words,()))⟩ λ da db=>by
 conv=>rhs;simp only[Vr,a_]
 kernel_rfl
noncomputable def aoL(F:Nat):aP aE:=(aoK F).rt 49 ⟨[jf,hr,.p (.i .i64),.p (.i .i64),.p (.b)],[],[jf,.p (.i .i64),.p (.i .i64)],[],I.aU×Int×Int,λ d=>agt F (dQ d.1.1) (e6 d.1.2.1) d.1.2.2.1 d.1.2.2.2.1 d.1.2.2.2.2.1,λ d r=>(((r.1.Words,r.1.au,r.1.aN,r.1.aX,r.1.aW,r.1.aV,r.1.Next,()),r.2.1,r.2.2,()),())⟩ λ da db=>by
 obtain⟨⟨(v0:List Int),(v1:Int),(e:Int),(v3:Int),(v4:Int),(v5:List Int),(f:Int),_⟩,⟨(g:List I.ao),(cE:List Int),(v9:List (List I.Field)),(a:List (List (List UInt8))),(b:List (List I.Target)),_⟩,(c:Int),(h:Int),(i:Bool),_⟩:=da;conv=>rhs;simp only[agt,a_,ajF]
 kernel_rfl
noncomputable def aoM(F:Nat):aP aE:=(aoL F).rt 34 ⟨[.p (.B 0),.p (.l 3)],[fx,.m 3 4],[.p (.i .i64)],[fx,.m 3 4],Int,λ d=>Ec F (⟨(dQ d.2.1),(gO d.2.1.2.2.2.2.2.2.2),d.2.1.2.2.2.2.2.2.2.2.2.2.2.2.1,d.2.1.2.2.2.2.2.2.2.2.2.2.2.2.2.1,d.2.2.1⟩:I.bj) d.1.2.1,λ d r=>((r,()),((d.2.1.1,d.2.1.2.1,d.2.1.2.2.1,d.2.1.2.2.2.1,d.2.1.2.2.2.2.1,d.2.1.2.2.2.2.2.1,d.2.1.2.2.2.2.2.2.1,d.2.1.2.2.2.2.2.2.2.1,d.2.1.2.2.2.2.2.2.2.2.1,d.2.1.2.2.2.2.2.2.2.2.2.1,d.2.1.2.2.2.2.2.2.2.2.2.2.1,d.2.1.2.2.2.2.2.2.2.2.2.2.2.1,d.2.1.2.2.2.2.2.2.2.2.2.2.2.2.1,d.2.1.2.2.2.2.2.2.2.2.2.2.2.2.2.1,(),()),d.2.2.1,()))⟩ λ da db=>by
 conv=>rhs;simp only[Ec,a_]
 kernel_rfl
noncomputable def aoN(F:Nat):aP aE:=(aoM F).bY 123 0 F ⟨[0,1,5],[.p (.l 136),.p (.l 136),.p (.i .i64)],[],
 [⟨⟨.nm,[],[],[]⟩,Unit,λ d r=>((),())⟩,
  ⟨⟨.rt,[4],[.p (.b)],[]⟩,Bool,λ d r=>((r,()),())⟩],
 λ k d=>bf (Bu d.1.1 d.1.2.1 k d.1.2.2.1)⟩ (bL.bV (λ d=>rfl) λ k da db q h=>by
 conv=>rhs;simp only[Bu,a_];simp only[bT]
 kernel_rfl)
noncomputable def aoO(F:Nat):aP aE:=(aoN F).rt 123 ⟨[.p (.l 136),.p (.l 136)],[],[.p (.b)],[],Bool,λ d=>Ey F d.1.1 d.1.2.1,λ d r=>((r,()),())⟩ λ da db=>by
 conv=>rhs;simp only[Ey,a_]
 kernel_rfl
noncomputable def aoQ(F:Nat):aP aE:=(aoO F).bY 148 0 F ⟨[0,1,5],[.p (.l 128),.p (.l 128),.p (.i .i64)],[],
 [⟨⟨.nm,[],[],[]⟩,Unit,λ d r=>((),())⟩,
  ⟨⟨.rt,[4],[.p (.b)],[]⟩,Bool,λ d r=>((r,()),())⟩],
 λ k d=>bf (pX d.1.1 d.1.2.1 k d.1.2.2.1)⟩ (bL.bV (λ d=>rfl) λ k da db q h=>by
 conv=>rhs;simp only[pX,a_];simp only[bT]
 kernel_rfl)
noncomputable def aoR(F:Nat):aP aE:=(aoQ F).rt 148 ⟨[.p (.l 128),.p (.l 128)],[],[.p (.b)],[],Bool,λ d=>u' F d.1.1 d.1.2.1,λ d r=>((r,()),())⟩ λ da db=>by
 conv=>rhs;simp only[u',a_]
 kernel_rfl
noncomputable def aoS(F:Nat):aP aE:=(aoR F).bY 122 4 F ⟨[0,1,5,6,7,8,9,10,11],[.p (.l 134),.p (.l 134),.p (.i .i64),.p (.B 0),.p (.B 1),.p (.i .i64),.p (.B 2),.p (.B 3),.p (.i .i64)],[h8,h8,l5,l5],
 [⟨⟨.nm,[0,1,5,6,7,8],[.p (.l 134),.p (.l 134),.p (.i .i64),.p (.B 0),.p (.B 1),.p (.i .i64)],[h8,h8,l5,l5]⟩,Unit,λ d r=>((d.1.1,d.1.2.1,d.1.2.2.1,(),(),d.1.2.2.2.2.2.1,()),(d.2.1,d.2.2.1,d.2.2.2.1,d.2.2.2.2.1,()))⟩,
  ⟨⟨.rt,[4],[.p (.b)],[.d,.d,.d,.d]⟩,Bool,λ d r=>((r,()),((),(),(),(),()))⟩],
 λ k d=>bf (Bt (uC d.2.2.2.1) (uC d.2.2.2.2.1) k d.1.2.2.2.2.2.2.2.2.1)⟩ (bL.bV (λ d=>rfl) λ k da db q h=>by
 conv=>rhs;simp only[Bt,a_];simp only[bT]
 kernel_rfl)
noncomputable def aoT(F:Nat):aP aE:=(aoS F).bY 122 2 F ⟨[0,1,5,6,7,8],[.p (.l 134),.p (.l 134),.p (.i .i64),.p (.B 0),.p (.B 1),.p (.i .i64)],[h8,h8],
 [⟨⟨.nm,[0,1,5],[.p (.l 134),.p (.l 134),.p (.i .i64)],[h8,h8]⟩,Unit,λ d r=>((d.1.1,d.1.2.1,d.1.2.2.1,()),(d.2.1,d.2.2.1,()))⟩,
  ⟨⟨.rt,[4],[.p (.b)],[.d,.d]⟩,Bool,λ d r=>((r,()),((),(),()))⟩],
 λ k d=>bf (Bs F (GG d.2.1) (GG d.2.2.1) k d.1.2.2.2.2.2.1)⟩ (bL.bV (λ d=>rfl) λ k da db q h=>by
 obtain⟨(v0:List I.ao),(v1:List I.ao),(c:Int),_,_,(v3:Int),_⟩:=da
 obtain⟨⟨(v4:List UInt8),(v5:List UInt8),(e:List I.Field),(f:List I.Method),_⟩,⟨(cE:List UInt8),(v9:List UInt8),(a:List I.Field),(b:List I.Method),_⟩,_⟩:=db
 conv=>rhs;simp only[Bs,a_,XJ,<-Bool.or_assoc];simp only[bT]
 kernel_rfl)
noncomputable def aoU(F:Nat):aP aE:=(aoT F).bY 122 0 F ⟨[0,1,5],[.p (.l 134),.p (.l 134),.p (.i .i64)],[],
 [⟨⟨.nm,[],[],[]⟩,Unit,λ d r=>((),())⟩,
  ⟨⟨.rt,[4],[.p (.b)],[]⟩,Bool,λ d r=>((r,()),())⟩],
 λ k d=>bf (Br F d.1.1 d.1.2.1 k d.1.2.2.1)⟩ (bL.bV (λ d=>rfl) λ k da db q h=>by
 conv=>rhs;simp only[Br,a_];simp only[bT]
 kernel_rfl)
noncomputable def aoV(F:Nat):aP aE:=(aoU F).rt 122 ⟨[.p (.l 134),.p (.l 134)],[],[.p (.b)],[],Bool,λ d=>Ex F d.1.1 d.1.2.1,λ d r=>((r,()),())⟩ λ da db=>by
 conv=>rhs;simp only[Ex,a_]
 kernel_rfl
noncomputable def Ui(k:Nat)(b8:I.aR)(a:I.aR)(b:Int)(c:Int):=dg ((b8.aZ.length:Int)=c/\True) (bf (x4 b8 a k b))
theorem Yp(k:Nat)(b8:I.aR)(a:I.aR)(b:Int):bf (x4 b8 a k b)=Ui k b8 a b (b8.aZ.length:Int):=(dA ⟨rfl,trivial⟩).symm
noncomputable def aoW(F:Nat):aP aE:=(aoV F).bY 87 0 F ⟨[2,3,5,6],[.p (.B 0),.p (.B 1),.p (.i .i64),.p (.i .i64)],[dP,dP],
 [⟨⟨.nm,[2,3],[.p (.B 0),.p (.B 1)],[dP,dP]⟩,Unit,λ d r=>(((),(),()),(d.2.1,d.2.2.1,()))⟩,
  ⟨⟨.rt,[4],[.p (.b)],[.d,.d]⟩,Bool,λ d r=>((r,()),((),(),()))⟩],
 λ k d=>Ui k (e6 d.2.1) (e6 d.2.2.1) d.1.2.2.2.1 d.1.2.2.1⟩ (bL.bV (λ d=>dz) λ k da db q h=>by
 obtain⟨_,_,(v0:Int),(v1:Int),_⟩:=da
 obtain⟨⟨(c:List I.ao),(v3:List Int),(v4:List (List I.Field)),(v5:List (List (List UInt8))),(e:List (List I.Target)),_⟩,⟨(f:List I.ao),(cE:List Int),(v9:List (List I.Field)),(a:List (List (List UInt8))),(b:List (List I.Target)),_⟩,_⟩:=db
 obtain⟨g,_⟩:=ea h
 dsimp only at g
 obtain⟨rfl,_⟩:=g
 conv=>rhs;change dV (α:=Unit⊕Bool) _ (Ui (k+1) (⟨c,v3,v4,v5,e⟩:I.aR) (⟨f,cE,v9,a,b⟩:I.aR) v1 (v3.length:Int));rw[<-Yp (k+1) (⟨c,v3,v4,v5,e⟩:I.aR) (⟨f,cE,v9,a,b⟩:I.aR) v1];simp only[x4,a_,Yp];simp only[bT]
 kernel_rfl)
noncomputable def aoX(F:Nat):aP aE:=(aoW F).bY 87 2 F ⟨[2,3,7],[.p (.B 0),.p (.B 1),.p (.i .i64)],[dP,dP],
 [⟨⟨.nm,[2,3],[.p (.B 0),.p (.B 1)],[dP,dP]⟩,Unit,λ d r=>(((),(),()),(d.2.1,d.2.2.1,()))⟩,
  ⟨⟨.rt,[4],[.p (.b)],[.d,.d]⟩,Bool,λ d r=>((r,()),((),(),()))⟩],
 λ k d=>bf (Bw F (e6 d.2.1) (e6 d.2.2.1) k d.1.2.2.1)⟩ (bL.bV (λ d=>rfl) λ k da db q h=>by
 conv=>rhs;simp only[Bw,a_];simp only[bT]
 kernel_rfl)
noncomputable def aoY(F:Nat):aP aE:=(aoX F).bY 87 6 F ⟨[2,3,8,9],[.p (.B 0),.p (.B 1),.p (.i .i64),.p (.i .i64)],[dP,dP],
 [⟨⟨.nm,[2,3,8],[.p (.B 0),.p (.B 1),.p (.i .i64)],[dP,dP]⟩,Unit,λ d r=>(((),(),d.1.2.2.1,()),(d.2.1,d.2.2.1,()))⟩,
  ⟨⟨.rt,[4],[.p (.b)],[.d,.d]⟩,Bool,λ d r=>((r,()),((),(),()))⟩],
 λ k d=>bf (By (e6 d.2.1) (e6 d.2.2.1) d.1.2.2.1 k d.1.2.2.2.1)⟩ (bL.bV (λ d=>rfl) λ k da db q h=>by
 conv=>rhs;simp only[By,a_];simp only[bT]
 kernel_rfl)
noncomputable def aoZ(F:Nat):aP aE:=(aoY F).bY 87 4 F ⟨[2,3,8],[.p (.B 0),.p (.B 1),.p (.i .i64)],[dP,dP],
 [⟨⟨.nm,[2,3],[.p (.B 0),.p (.B 1)],[dP,dP]⟩,Unit,λ d r=>(((),(),()),(d.2.1,d.2.2.1,()))⟩,
  ⟨⟨.rt,[4],[.p (.b)],[.d,.d]⟩,Bool,λ d r=>((r,()),((),(),()))⟩],
 λ k d=>bf (Bx F (e6 d.2.1) (e6 d.2.2.1) k d.1.2.2.1)⟩ (bL.bV (λ d=>rfl) λ k da db q h=>by
 conv=>rhs;simp only[Bx,a_];simp only[bT]
 kernel_rfl)
noncomputable def ao1(F:Nat):aP aE:=(aoZ F).bY 87 10 F ⟨[2,3,10,11],[.p (.B 0),.p (.B 1),.p (.i .i64),.p (.i .i64)],[dP,dP],
 [⟨⟨.nm,[2,3,10],[.p (.B 0),.p (.B 1),.p (.i .i64)],[dP,dP]⟩,Unit,λ d r=>(((),(),d.1.2.2.1,()),(d.2.1,d.2.2.1,()))⟩,
  ⟨⟨.rt,[4],[.p (.b)],[.d,.d]⟩,Bool,λ d r=>((r,()),((),(),()))⟩],
 λ k d=>bf (BA (e6 d.2.1) (e6 d.2.2.1) d.1.2.2.1 k d.1.2.2.2.1)⟩ (bL.bV (λ d=>rfl) λ k da db q h=>by
 conv=>rhs;simp only[BA,a_];simp only[bT]
 kernel_rfl)
noncomputable def ao2(F:Nat):aP aE:=(ao1 F).bY 87 8 F ⟨[2,3,10],[.p (.B 0),.p (.B 1),.p (.i .i64)],[dP,dP],
 [⟨⟨.nm,[],[],[dP,dP]⟩,Unit,λ d r=>((),(d.2.1,d.2.2.1,()))⟩,
  ⟨⟨.rt,[4],[.p (.b)],[.d,.d]⟩,Bool,λ d r=>((r,()),((),(),()))⟩],
 λ k d=>bf (Bz F (e6 d.2.1) (e6 d.2.2.1) k d.1.2.2.1)⟩ (bL.bV (λ d=>rfl) λ k da db q h=>by
 conv=>rhs;simp only[Bz,a_];simp only[bT]
 kernel_rfl)
noncomputable def ao3(F:Nat):aP aE:=(ao2 F).rt 87 ⟨[hr,hr],[],[.p (.b)],[],Bool,λ d=>Ez F (e6 d.1.1) (e6 d.1.2.1),λ d r=>((r,()),())⟩ λ da db=>by
 obtain⟨⟨(v0:List I.ao),(v1:List Int),(a:List (List I.Field)),(v3:List (List (List UInt8))),(v4:List (List I.Target)),_⟩,⟨(v5:List I.ao),(b:List Int),(c:List (List I.Field)),(cE:List (List (List UInt8))),(v9:List (List I.Target)),_⟩,_⟩:=da;conv=>rhs;simp only[Ez,a_,Yp]
 kernel_rfl
noncomputable def ao4(F:Nat):aP aE:=(ao3 F).bY 164 0 F ⟨[0,3],[.p (.s),.p (.i .i64)],[],
 [⟨⟨.nm,[0],[.p (.s)],[]⟩,Unit,λ d r=>((d.1.1,()),())⟩,
  ⟨⟨.rt,[2],[.p (.b)],[]⟩,Bool,λ d r=>((r,()),())⟩],
 λ k d=>bf (s4 d.1.1 k d.1.2.1)⟩ (bL.bV (λ d=>rfl) λ k da db q h=>by
 conv=>rhs;simp only[s4,a_];simp only[bT]
 kernel_rfl)
noncomputable def ao5(F:Nat):aP aE:=(ao4 F).rt 164 ⟨[.p (.s)],[],[.p (.b)],[],Bool,λ d=>oT F d.1.1,λ d r=>((r,()),())⟩ λ da db=>by
 conv=>rhs;simp only[oT,a_]
 kernel_rfl
noncomputable def ao6(F:Nat):aP aE:=(ao5 F).rt 165 ⟨[.a [.i .i64,.s]],[],[.p (.b)],[],Bool,λ d=>u9 F (KQ d.1.1),λ d r=>((r,()),())⟩ λ da db=>by
 conv=>rhs;simp only[u9,a_]
 kernel_rfl
noncomputable def ao7(F:Nat):aP aE:=(ao6 F).rt 42 ⟨[.p (.i .i64),.p (.i .i64),.p (.i .i64)],[],[.p (.b)],[],Bool,λ d=>fK d.1.1 d.1.2.1 d.1.2.2.1,λ d r=>((r,()),())⟩ λ da db=>by
 conv=>rhs;simp only[fK,a_]
 kernel_rfl
noncomputable def ao8(F:Nat):aP aE:=(ao7 F).bY 166 0 F ⟨[1,3],[.p (.B 0),.p (.i .i64)],[l5],
 [⟨⟨.nm,[1],[.p (.B 0)],[l5]⟩,Unit,λ d r=>(((),()),(d.2.1,()))⟩,
  ⟨⟨.rt,[2],[.p (.i .i64)],[.d]⟩,Int,λ d r=>((r,()),((),()))⟩],
 λ k d=>bf (Bg F (uC d.2.1) k d.1.2.1)⟩ (bL.bV (λ d=>rfl) λ k da db q h=>by
 conv=>rhs;simp only[Bg,a_];simp only[bT]
 kernel_rfl)
noncomputable def ao9(F:Nat):aP aE:=(ao8 F).bY 166 2 F ⟨[1,4],[.p (.B 0),.p (.i .i64)],[l5],
 [⟨⟨.nm,[],[],[l5]⟩,Unit,λ d r=>((),(d.2.1,()))⟩,
  ⟨⟨.rt,[2],[.p (.i .i64)],[.d]⟩,Int,λ d r=>((r,()),((),()))⟩],
 λ k d=>bf (Bh F (uC d.2.1) k d.1.2.1)⟩ (bL.bV (λ d=>rfl) λ k da db q h=>by
 conv=>rhs;simp only[Bh,a_];simp only[bT]
 kernel_rfl)
noncomputable def ao_(F:Nat):aP aE:=(ao9 F).rt 166 ⟨[Pb],[],[.p (.i .i64)],[],Int,λ d=>Bf F (uC d.1.1),λ d r=>((r,()),())⟩ λ da db=>by
 conv=>rhs;simp only[Bf,a_]
 kernel_rfl
theorem aD9(F:Nat)(k:Nat)(a:I.ao)(C5:Int):bf (Es F a k C5)=bf (xU F a k C5):=by kernel_rfl
noncomputable def apa(F:Nat):aP aE:=(ao_ F).bY 145 2 F ⟨[0,3,4,5],[.p (.l 134),.p (.i .i64),.p (.B 0),.p (.i .i64)],[h8],
 [⟨⟨.nm,[0,3,4],[.p (.l 134),.p (.i .i64),.p (.B 0)],[h8]⟩,Unit,λ d r=>((d.1.1,d.1.2.1,(),()),(d.2.1,()))⟩,
  ⟨⟨.rt,[2],[.p (.i .i64)],[.d]⟩,Int,λ d r=>((r,()),((),()))⟩],
 λ k d=>bf (xU F (GG d.2.1) k d.1.2.2.2.1)⟩ (bL.bV (λ d=>rfl) λ k da db q h=>by
 conv=>rhs;simp only[xU,a_];simp only[bT]
 kernel_rfl)
theorem aD_(F:Nat)(k:Nat)(a:I.ao)(b:Int):bf (Et F a k b)=bf (xV F a k b):=by kernel_rfl
noncomputable def apb(F:Nat):aP aE:=(apa F).bY 145 4 F ⟨[0,3,4,6],[.p (.l 134),.p (.i .i64),.p (.B 0),.p (.i .i64)],[h8],
 [⟨⟨.nm,[0,3],[.p (.l 134),.p (.i .i64)],[h8]⟩,Unit,λ d r=>((d.1.1,d.1.2.1,()),(d.2.1,()))⟩,
  ⟨⟨.rt,[2],[.p (.i .i64)],[.d]⟩,Int,λ d r=>((r,()),((),()))⟩],
 λ k d=>bf (xV F (GG d.2.1) k d.1.2.2.2.1)⟩ (bL.bV (λ d=>rfl) λ k da db q h=>by
 conv=>rhs;simp only[xV,a_];simp only[bT]
 kernel_rfl)
noncomputable def apc(F:Nat):aP aE:=(apb F).bY 145 0 F ⟨[0,3],[.p (.l 134),.p (.i .i64)],[],
 [⟨⟨.nm,[],[],[]⟩,Unit,λ d r=>((),())⟩,
  ⟨⟨.rt,[2],[.p (.i .i64)],[]⟩,Int,λ d r=>((r,()),())⟩],
 λ k d=>bf (A1 F d.1.1 k d.1.2.1)⟩ (bL.bV (λ d=>rfl) λ k da db q h=>by
 obtain⟨(v0:List I.ao),(v1:Int),_⟩:=da
 conv=>rhs;simp only[A1,a_,aD9,aD_];simp only[bT]
 kernel_rfl)
noncomputable def apd(F:Nat):aP aE:=(apc F).rt 145 ⟨[.p (.l 134)],[],[.p (.i .i64)],[],Int,λ d=>HF F d.1.1,λ d r=>((r,()),())⟩ λ da db=>by
 conv=>rhs;simp only[HF,a_]
 kernel_rfl
noncomputable def ape(F:Nat):aP aE:=(apd F).bY 121 0 F ⟨[0,1,5],[.p (.l 134),.p (.s),.p (.i .i64)],[],
 [⟨⟨.nm,[],[],[]⟩,Unit,λ d r=>((),())⟩,
  ⟨⟨.rt,[4],[.p (.i .i64)],[]⟩,Int,λ d r=>((r,()),())⟩],
 λ k d=>bf (Bi d.1.1 d.1.2.1 k d.1.2.2.1)⟩ (bL.bV (λ d=>rfl) λ k da db q h=>by
 conv=>rhs;simp only[Bi,a_];simp only[bT]
 kernel_rfl)
noncomputable def apf(F:Nat):aP aE:=(ape F).rt 121 ⟨[.p (.l 134),.p (.s)],[],[.p (.i .i64)],[],Int,λ d=>oS F d.1.1 d.1.2.1,λ d r=>((r,()),())⟩ λ da db=>by
 conv=>rhs;simp only[oS,a_]
 kernel_rfl
noncomputable def apg(F:Nat):aP aE:=(apf F).bY 146 0 F ⟨[0,1,5],[.p (.l 134),.p (.i .i64),.p (.l 3)],[],
 [⟨⟨.nm,[5],[.p (.l 3)],[]⟩,List Int,λ d r=>((r,()),())⟩,
  ⟨⟨.rt,[4],[.p (.l 3)],[]⟩,List Int,λ d r=>((r,()),())⟩],
 λ k d=>bf (BE F d.1.1 k d.1.2.1 d.1.2.2.1)⟩ (bL.bV (λ d=>rfl) λ k da db q h=>by
 conv=>rhs;simp only[BE,a_];simp only[bT]
 kernel_rfl)
noncomputable def aph(F:Nat):aP aE:=(apg F).rt 146 ⟨[.p (.l 134),.p (.i .i64)],[],[.p (.l 3)],[],List Int,λ d=>x7 F d.1.1 d.1.2.1,λ d r=>((r,()),())⟩ λ da db=>by
 conv=>rhs;simp only[x7,a_]
 kernel_rfl
noncomputable def api(F:Nat):aP aE:=(aph F).bY 119 0 F ⟨[0,5,6,7],[.p (.l 134),.p (.R 0),.p (.l 3),.p (.i .i64)],[.r 136 false],
 [⟨⟨.nm,[5],[.p (.R 0)],[.r 136 false]⟩,List I.Field,λ d r=>(((),()),(r,()))⟩],
 λ k d=>sX d.1.1 d.1.2.2.1 k d.2.1 d.1.2.2.2.1⟩ (bL.bV (λ d=>rfl) λ k da db q h=>by
 conv=>rhs;simp only[sX,a_];simp only[bT]
 kernel_rfl)
noncomputable def apj(F:Nat):aP aE:=(api F).rt 119 ⟨[.p (.l 134),.p (.i .i64)],[],[.p (.l 136)],[],List I.Field,λ d=>A0 F d.1.1 d.1.2.1,λ d r=>((r,()),())⟩ λ da db=>by
 conv=>rhs;simp only[A0,a_]
 kernel_rfl
noncomputable def apl(F:Nat):aP aE:=(apj F).bY 147 0 F ⟨[0,1,5],[.p (.l 134),.p (.l 128),.p (.i .i64)],[],
 [⟨⟨.nm,[],[],[]⟩,Unit,λ d r=>((),())⟩,
  ⟨⟨.rt,[4],[.p (.b)],[]⟩,Bool,λ d r=>((r,()),())⟩],
 λ k d=>bf (x6 F d.1.2.1 d.1.1 k d.1.2.2.1)⟩ (bL.bV (λ d=>rfl) λ k da db q h=>by
 conv=>rhs;simp only[x6,a_];simp only[bT]
 kernel_rfl)
noncomputable def apm(F:Nat):aP aE:=(apl F).rt 147 ⟨[.p (.l 134),.p (.l 128)],[],[.p (.b)],[],Bool,λ d=>BD F d.1.1 d.1.2.1,λ d r=>((r,()),())⟩ λ da db=>by
 conv=>rhs;simp only[BD,a_]
 kernel_rfl
noncomputable def apn(F:Nat):aP aE:=(apm F).bY 118 0 F ⟨[0,4],[.p (.l 134),.p (.i .i64)],[],
 [⟨⟨.nm,[0],[.p (.l 134)],[]⟩,Unit,λ d r=>((d.1.1,()),())⟩,
  ⟨⟨.rt,[2],[.p (.i .i64)],[]⟩,Int,λ d r=>((r,()),())⟩],
 λ k d=>bf (u6 F d.1.1 k d.1.2.1)⟩ (bL.bV (λ d=>rfl) λ k da db q h=>by
 conv=>rhs;simp only[u6,a_];simp only[bT]
 kernel_rfl)
noncomputable def apo(F:Nat):aP aE:=(apn F).bY 118 2 F ⟨[0,5],[.p (.l 134),.p (.i .i64)],[],
 [⟨⟨.nm,[0],[.p (.l 134)],[]⟩,Unit,λ d r=>((d.1.1,()),())⟩,
  ⟨⟨.rt,[2],[.p (.i .i64)],[]⟩,Int,λ d r=>((r,()),())⟩],
 λ k d=>bf (A_ d.1.1 k d.1.2.1)⟩ (bL.bV (λ d=>rfl) λ k da db q h=>by
 conv=>rhs;simp only[A_,a_];simp only[bT]
 kernel_rfl)
noncomputable def app(F:Nat):aP aE:=(apo F).bY 118 4 F ⟨[0,6],[.p (.l 134),.p (.i .i64)],[],
 [⟨⟨.nm,[0],[.p (.l 134)],[]⟩,Unit,λ d r=>((d.1.1,()),())⟩,
  ⟨⟨.rt,[2],[.p (.i .i64)],[]⟩,Int,λ d r=>((r,()),())⟩],
 λ k d=>bf (xZ F d.1.1 k d.1.2.1)⟩ (bL.bV (λ d=>rfl) λ k da db q h=>by
 conv=>rhs;simp only[xZ,a_];simp only[bT]
 kernel_rfl)
noncomputable def apq(F:Nat):aP aE:=(app F).bY 118 6 F ⟨[0,7],[.p (.l 134),.p (.i .i64)],[],
 [⟨⟨.nm,[0],[.p (.l 134)],[]⟩,Unit,λ d r=>((d.1.1,()),())⟩,
  ⟨⟨.rt,[2],[.p (.i .i64)],[]⟩,Int,λ d r=>((r,()),())⟩],
 λ k d=>bf (A' F d.1.1 k d.1.2.1)⟩ (bL.bV (λ d=>rfl) λ k da db q h=>by
 conv=>rhs;simp only[A',a_];simp only[bT]
 kernel_rfl)
noncomputable def apr(F:Nat):aP aE:=(apq F).bY 118 10 F ⟨[0,10,11],[.p (.l 134),.p (.i .i64),.p (.i .i64)],[],
 [⟨⟨.nm,[0,10],[.p (.l 134),.p (.i .i64)],[]⟩,Unit,λ d r=>((d.1.1,d.1.2.1,()),())⟩,
  ⟨⟨.rt,[2],[.p (.i .i64)],[]⟩,Int,λ d r=>((r,()),())⟩],
 λ k d=>bf (Ba F d.1.1 d.1.2.1 k d.1.2.2.1)⟩ (bL.bV (λ d=>rfl) λ k da db q h=>by
 conv=>rhs;simp only[Ba,a_];simp only[bT]
 kernel_rfl)
noncomputable def aps(F:Nat):aP aE:=(apr F).bY 118 14 F ⟨[0,10,12,13,14],[.p (.l 134),.p (.i .i64),.p (.i .i64),.p (.B 0),.p (.i .i64)],[l5],
 [⟨⟨.nm,[0,10,12],[.p (.l 134),.p (.i .i64),.p (.i .i64)],[l5]⟩,Unit,λ d r=>((d.1.1,d.1.2.1,d.1.2.2.1,()),(d.2.1,()))⟩,
  ⟨⟨.rt,[2],[.p (.i .i64)],[.d]⟩,Int,λ d r=>((r,()),((),()))⟩],
 λ k d=>bf (Bc F d.1.1 (uC d.2.1) k d.1.2.2.2.2.1)⟩ (bL.bV (λ d=>rfl) λ k da db q h=>by
 conv=>rhs;simp only[Bc,a_];simp only[bT]
 kernel_rfl)
noncomputable def apt(F:Nat):aP aE:=(aps F).bY 118 12 F ⟨[0,10,12],[.p (.l 134),.p (.i .i64),.p (.i .i64)],[],
 [⟨⟨.nm,[0,10],[.p (.l 134),.p (.i .i64)],[]⟩,Unit,λ d r=>((d.1.1,d.1.2.1,()),())⟩,
  ⟨⟨.rt,[2],[.p (.i .i64)],[]⟩,Int,λ d r=>((r,()),())⟩],
 λ k d=>bf (Bb F d.1.1 d.1.2.1 k d.1.2.2.1)⟩ (bL.bV (λ d=>rfl) λ k da db q h=>by
 conv=>rhs;simp only[Bb,a_];simp only[bT]
 kernel_rfl)
noncomputable def apu(F:Nat):aP aE:=(apt F).bY 118 8 F ⟨[0,10],[.p (.l 134),.p (.i .i64)],[],
 [⟨⟨.nm,[0],[.p (.l 134)],[]⟩,Unit,λ d r=>((d.1.1,()),())⟩,
  ⟨⟨.rt,[2],[.p (.i .i64)],[]⟩,Int,λ d r=>((r,()),())⟩],
 λ k d=>bf (x0 F d.1.1 k d.1.2.1)⟩ (bL.bV (λ d=>rfl) λ k da db q h=>by
 conv=>rhs;simp only[x0,a_];simp only[bT]
 kernel_rfl)
noncomputable def apw(F:Nat):aP aE:=(apu F).bY 118 20 F ⟨[0,15,16,17,18],[.p (.l 134),.p (.i .i64),.p (.l 136),.p (.i .i64),.p (.i .i64)],[],
 [⟨⟨.nm,[0,15,16,17],[.p (.l 134),.p (.i .i64),.p (.l 136),.p (.i .i64)],[]⟩,Unit,λ d r=>((d.1.1,d.1.2.1,d.1.2.2.1,d.1.2.2.2.1,()),())⟩,
  ⟨⟨.rt,[2],[.p (.i .i64)],[]⟩,Int,λ d r=>((r,()),())⟩],
 λ k d=>bf (A6 d.1.2.2.1 d.1.2.2.2.1 k d.1.2.2.2.2.1)⟩ (bL.bV (λ d=>rfl) λ k da db q h=>by
 conv=>rhs;simp only[A6,a_];simp only[bT]
 kernel_rfl)
noncomputable def apx(F:Nat):aP aE:=(apw F).bY 118 18 F ⟨[0,15,16,17],[.p (.l 134),.p (.i .i64),.p (.l 136),.p (.i .i64)],[],
 [⟨⟨.nm,[0,15],[.p (.l 134),.p (.i .i64)],[]⟩,Unit,λ d r=>((d.1.1,d.1.2.1,()),())⟩,
  ⟨⟨.rt,[2],[.p (.i .i64)],[]⟩,Int,λ d r=>((r,()),())⟩],
 λ k d=>bf (A5 F d.1.2.2.1 k d.1.2.2.2.1)⟩ (bL.bV (λ d=>rfl) λ k da db q h=>by
 conv=>rhs;simp only[A5,a_];simp only[bT]
 kernel_rfl)
noncomputable def Uf(k:Nat)(a:I.ao)(b:Int)(c:Int):=dg (True) (bf (s0 a b k c))
theorem Ym(k:Nat)(a:I.ao)(b:Int)(c:Int):bf (s0 a b k c)=Uf k (⟨[],[],[],a.bn⟩:I.ao) b c:=(show bf (s0 a b k c)=bf (s0 (⟨[],[],[],a.bn⟩:I.ao) b k c) by kernel_rfl).trans (dA trivial).symm
noncomputable def apy(F:Nat):aP aE:=(apx F).bY 118 24 F ⟨[0,15,19,20,21],[.p (.l 134),.p (.i .i64),.p (.l 131),.p (.i .i64),.p (.i .i64)],[],
 [⟨⟨.nm,[0,15,19,20],[.p (.l 134),.p (.i .i64),.p (.l 131),.p (.i .i64)],[]⟩,Unit,λ d r=>((d.1.1,d.1.2.1,d.1.2.2.1,d.1.2.2.2.1,()),())⟩,
  ⟨⟨.rt,[2],[.p (.i .i64)],[]⟩,Int,λ d r=>((r,()),())⟩],
 λ k d=>Uf k (⟨[],[],[],d.1.2.2.1⟩:I.ao) d.1.2.2.2.1 d.1.2.2.2.2.1⟩ (bL.bV (λ d=>dz) λ k da db q h=>by
 obtain⟨(v0:List I.ao),(v1:Int),(a:List I.Method),(v3:Int),(v4:Int),_⟩:=da
 conv=>rhs;change dV (α:=Unit⊕Int) _ (Uf (k+1) (⟨[],[],[],a⟩:I.ao) v3 v4);rw[<-Ym (k+1) (⟨[],[],[],a⟩:I.ao) v3 v4];simp only[s0,a_,Ym];simp only[bT]
 kernel_rfl)
noncomputable def Ud(F:Nat)(k:Nat)(a:I.ao)(b:Int):=dg (True) (bf (sZ F a k b))
theorem Yl(F:Nat)(k:Nat)(a:I.ao)(b:Int):bf (sZ F a k b)=Ud F k (⟨[],[],[],a.bn⟩:I.ao) b:=(show bf (sZ F a k b)=bf (sZ F (⟨[],[],[],a.bn⟩:I.ao) k b) by kernel_rfl).trans (dA trivial).symm
noncomputable def apz(F:Nat):aP aE:=(apy F).bY 118 22 F ⟨[0,15,19,20],[.p (.l 134),.p (.i .i64),.p (.l 131),.p (.i .i64)],[],
 [⟨⟨.nm,[0,15],[.p (.l 134),.p (.i .i64)],[]⟩,Unit,λ d r=>((d.1.1,d.1.2.1,()),())⟩,
  ⟨⟨.rt,[2],[.p (.i .i64)],[]⟩,Int,λ d r=>((r,()),())⟩],
 λ k d=>Ud F k (⟨[],[],[],d.1.2.2.1⟩:I.ao) d.1.2.2.2.1⟩ (bL.bV (λ d=>dz) λ k da db q h=>by
 obtain⟨(v0:List I.ao),(v1:Int),(a:List I.Method),(v3:Int),_⟩:=da
 conv=>rhs;change dV (α:=Unit⊕Int) _ (Ud F (k+1) (⟨[],[],[],a⟩:I.ao) v3);rw[<-Yl F (k+1) (⟨[],[],[],a⟩:I.ao) v3];simp only[sZ,a_,Ym,Yl];simp only[bT]
 kernel_rfl)
noncomputable def apA(F:Nat):aP aE:=(apz F).bY 118 16 F ⟨[0,15],[.p (.l 134),.p (.i .i64)],[],
 [⟨⟨.nm,[0],[.p (.l 134)],[]⟩,Unit,λ d r=>((d.1.1,()),())⟩,
  ⟨⟨.rt,[2],[.p (.i .i64)],[]⟩,Int,λ d r=>((r,()),())⟩],
 λ k d=>bf (Bd F d.1.1 k d.1.2.1)⟩ (bL.bV (λ d=>rfl) λ k da db q h=>by
 obtain⟨(v0:List I.ao),(v1:Int),_⟩:=da
 conv=>rhs;simp only[Bd,a_,Yl];simp only[bT]
 kernel_rfl)
noncomputable def apB(F:Nat):aP aE:=(apA F).bY 118 32 F ⟨[0,22,23,24,25,26],[.p (.l 134),.p (.i .i64),.p (.l 3),.p (.i .i64),.p (.i .i64),.p (.i .i64)],[],
 [⟨⟨.nm,[0,22,23,24,25],[.p (.l 134),.p (.i .i64),.p (.l 3),.p (.i .i64),.p (.i .i64)],[]⟩,Unit,λ d r=>((d.1.1,d.1.2.1,d.1.2.2.1,d.1.2.2.2.1,d.1.2.2.2.2.1,()),())⟩,
  ⟨⟨.rt,[2],[.p (.i .i64)],[]⟩,Int,λ d r=>((r,()),())⟩],
 λ k d=>bf (xY F d.1.1 d.1.2.1 d.1.2.2.1 d.1.2.2.2.1 d.1.2.2.2.2.1 k d.1.2.2.2.2.2.1)⟩ (bL.bV (λ d=>rfl) λ k da db q h=>by
 obtain⟨(v0:List I.ao),(v1:Int),(a:List Int),(v3:Int),(v4:Int),(v5:Int),_⟩:=da
 conv=>rhs;simp only[xY,a_,XJ];simp only[bT]
 kernel_rfl)
noncomputable def apC(F:Nat):aP aE:=(apB F).bY 118 30 F ⟨[0,22,23,24,25],[.p (.l 134),.p (.i .i64),.p (.l 3),.p (.i .i64),.p (.i .i64)],[],
 [⟨⟨.nm,[0,22,23,24],[.p (.l 134),.p (.i .i64),.p (.l 3),.p (.i .i64)],[]⟩,Unit,λ d r=>((d.1.1,d.1.2.1,d.1.2.2.1,d.1.2.2.2.1,()),())⟩,
  ⟨⟨.rt,[2],[.p (.i .i64)],[]⟩,Int,λ d r=>((r,()),())⟩],
 λ k d=>bf (A9 F d.1.1 d.1.2.1 d.1.2.2.1 d.1.2.2.2.1 k d.1.2.2.2.2.1)⟩ (bL.bV (λ d=>rfl) λ k da db q h=>by
 conv=>rhs;simp only[A9,a_];simp only[bT]
 kernel_rfl)
noncomputable def apD(F:Nat):aP aE:=(apC F).bY 118 28 F ⟨[0,22,23,24],[.p (.l 134),.p (.i .i64),.p (.l 3),.p (.i .i64)],[],
 [⟨⟨.nm,[0,22],[.p (.l 134),.p (.i .i64)],[]⟩,Unit,λ d r=>((d.1.1,d.1.2.1,()),())⟩,
  ⟨⟨.rt,[2],[.p (.i .i64)],[]⟩,Int,λ d r=>((r,()),())⟩],
 λ k d=>bf (A8 F d.1.1 d.1.2.1 d.1.2.2.1 k d.1.2.2.2.1)⟩ (bL.bV (λ d=>rfl) λ k da db q h=>by
 conv=>rhs;simp only[A8,a_];simp only[bT]
 kernel_rfl)
noncomputable def apE(F:Nat):aP aE:=(apD F).bY 118 26 F ⟨[0,22],[.p (.l 134),.p (.i .i64)],[],
 [⟨⟨.nm,[],[],[]⟩,Unit,λ d r=>((),())⟩,
  ⟨⟨.rt,[2],[.p (.i .i64)],[]⟩,Int,λ d r=>((r,()),())⟩],
 λ k d=>bf (A7 F d.1.1 k d.1.2.1)⟩ (bL.bV (λ d=>rfl) λ k da db q h=>by
 conv=>rhs;simp only[A7,a_];simp only[bT]
 kernel_rfl)
noncomputable def apF(F:Nat):aP aE:=(apE F).rt 118 ⟨[.p (.l 134)],[],[.p (.i .i64)],[],Int,λ d=>HG F d.1.1,λ d r=>((r,()),())⟩ λ da db=>by
 conv=>rhs;simp only[HG,a_]
 kernel_rfl
noncomputable def Uj(k:Nat)(a:List (List UInt8))(b:I.Method)(c:Int):=dg (True) (q_ a b k c)
theorem Yq(k:Nat)(a:List (List UInt8))(b:I.Method)(c:Int):q_ a b k c=Uj k a (⟨b.Name,false,[],(⟨0,[]⟩:I.Kind),0,0,[],[]⟩:I.Method) c:=(show q_ a b k c=q_ a (⟨b.Name,false,[],(⟨0,[]⟩:I.Kind),0,0,[],[]⟩:I.Method) k c by kernel_rfl).trans (dA trivial).symm
noncomputable def apH(F:Nat):aP aE:=(apF F).bY 120 4 F ⟨[0,6,7,8,9,10,11,12],[.p (.l 134),.p (.R 0),.p (.R 1),.p (.l 3),.p (.i .i64),.p (.i .i64),.p (.s),.p (.i .i64)],[.r 9 false,.r 166 false],
 [⟨⟨.nm,[0,6,7,8,9,10,11,12],[.p (.l 134),.p (.R 0),.p (.R 1),.p (.l 3),.p (.i .i64),.p (.i .i64),.p (.s),.p (.i .i64)],[.r 9 false,.r 166 false]⟩,Int,λ d r=>((d.1.1,(),(),d.1.2.2.2.1,d.1.2.2.2.2.1,d.1.2.2.2.2.2.1,d.1.2.2.2.2.2.2.1,r,()),(d.2.1,d.2.2.1,()))⟩],
 λ k d=>Uj k d.2.1 (⟨d.1.2.2.2.2.2.2.1,false,[],(⟨0,[]⟩:I.Kind),0,0,[],[]⟩:I.Method) d.1.2.2.2.2.2.2.2.1⟩ (bL.bV (λ d=>dz) λ k da db q h=>by
 obtain⟨(v0:List I.ao),_,_,(v1:List Int),(b:Int),(v3:Int),(v4:List UInt8),(v5:Int),_⟩:=da
 obtain⟨(a:List (List UInt8)),(c:List I.Target),_⟩:=db
 conv=>rhs;change dV (α:=Int) _ (Uj (k+1) a (⟨v4,false,[],(⟨0,[]⟩:I.Kind),0,0,[],[]⟩:I.Method) v5);rw[<-Yq (k+1) a (⟨v4,false,[],(⟨0,[]⟩:I.Kind),0,0,[],[]⟩:I.Method) v5];simp only[q_,a_,Yq];simp only[bT]
 kernel_rfl)
noncomputable def apI(F:Nat):aP aE:=(apH F).bY 120 2 F ⟨[0,6,7,8,9,10],[.p (.l 134),.p (.R 0),.p (.R 1),.p (.l 3),.p (.i .i64),.p (.i .i64)],[.r 9 false,.r 166 false],
 [⟨⟨.nm,[0,6,7,8,9],[.p (.l 134),.p (.R 0),.p (.R 1),.p (.l 3),.p (.i .i64)],[.r 9 false,.r 166 false]⟩,(List I.Target)×(List (List UInt8)),λ d r=>((d.1.1,(),(),d.1.2.2.2.1,d.1.2.2.2.2.1,()),(r.2,r.1,()))⟩],
 λ k d=>BC F d.1.1 d.1.2.2.2.1 d.1.2.2.2.2.1 k d.2.2.1 d.2.1 d.1.2.2.2.2.2.1⟩ (bL.bV (λ d=>rfl) λ k da db q h=>by
 obtain⟨(v0:List I.ao),_,_,(v1:List Int),(a:Int),(v3:Int),_⟩:=da
 obtain⟨(v4:List (List UInt8)),(v5:List I.Target),_⟩:=db
 conv=>rhs;simp only[BC,a_,Yq];simp only[bT]
 kernel_rfl)
noncomputable def apJ(F:Nat):aP aE:=(apI F).bY 120 0 F ⟨[0,6,7,8,9],[.p (.l 134),.p (.R 0),.p (.R 1),.p (.l 3),.p (.i .i64)],[.r 9 false,.r 166 false],
 [⟨⟨.nm,[6,7],[.p (.R 0),.p (.R 1)],[.r 9 false,.r 166 false]⟩,(List I.Target)×(List (List UInt8)),λ d r=>(((),(),()),(r.2,r.1,()))⟩],
 λ k d=>BB F d.1.1 d.1.2.2.2.1 k d.2.2.1 d.2.1 d.1.2.2.2.2.1⟩ (bL.bV (λ d=>rfl) λ k da db q h=>by
 conv=>rhs;simp only[BB,a_];simp only[bT]
 kernel_rfl)
noncomputable def apK(F:Nat):aP aE:=(apJ F).rt 120 ⟨[.p (.l 134),.p (.i .i64)],[],[.p (.l 9),.p (.l 166)],[],(List (List UInt8))×(List I.Target),λ d=>HK F d.1.1 d.1.2.1,λ d r=>((r.1,r.2,()),())⟩ λ da db=>by
 conv=>rhs;simp only[HK,a_]
 kernel_rfl
noncomputable def Uh(F:Nat)(k:Nat)(a:List I.ao)(b:List (List I.Target))(c:List (List (List UInt8)))(d:List (List I.Field))(e:List Int)(f:Int)(ak:List I.ao)(aS:List Int)(bN:List (List I.Field))(dq:List (List (List UInt8)))(eH:List (List I.Target))(g:List I.ao):=dg (([]:List I.ao)=ak/\([]:List Int)=aS/\([]:List (List I.Field))=bN/\([]:List (List (List UInt8)))=dq/\([]:List (List I.Target))=eH/\(a:List I.ao)=g/\True) (bf (q9 F a k b c d e f))
theorem Yo(F:Nat)(k:Nat)(a:List I.ao)(b:List (List I.Target))(c:List (List (List UInt8)))(d:List (List I.Field))(e:List Int)(f:Int):bf (q9 F a k b c d e f)=Uh F k a b c d e f [] [] [] [] [] a:=(dA ⟨rfl,rfl,rfl,rfl,rfl,rfl,trivial⟩).symm
noncomputable def apL(F:Nat):aP aE:=(apK F).bY 86 0 F ⟨[0,2,5,6],[.p (.l 134),.p (.B 0),.p (.B 1),.p (.i .i64)],[dP,ai7,.r 3 false,.r 124 false,.r 120 false,.r 121 false],
 [⟨⟨.nm,[2,5],[.p (.B 0),.p (.B 1)],[dP,ai7,.r 3 false,.r 124 false,.r 120 false,.r 121 false]⟩,(List (List I.Target))×(List (List (List UInt8)))×(List (List I.Field))×(List Int),λ d r=>(((),(),()),(d.2.1,(d.2.2.1.1,(),(),(),(),()),r.2.2.2,r.2.2.1,r.2.1,r.1,()))⟩,
  ⟨⟨.rt,[2,3],[.p (.B 0),.p (.i .i64)],[dP,.d,.d,.d,.d,.d]⟩,I.aR×Int,λ d r=>(((),r.2,()),((r.1.a8,r.1.aZ,r.1.Fields,r.1.Names,r.1.a1,()),(),(),(),(),(),()))⟩],
 λ k d=>Uh F k d.1.1 d.2.2.2.2.2.2.1 d.2.2.2.2.2.1 d.2.2.2.2.1 d.2.2.2.1 d.1.2.2.2.1 d.2.1.1 d.2.1.2.1 d.2.1.2.2.1 d.2.1.2.2.2.1 d.2.1.2.2.2.2.1 d.2.2.1.1⟩ (bL.bV (λ d=>dz) λ k da db q h=>by
 obtain⟨(v0:List I.ao),_,_,(v1:Int),_⟩:=da
 obtain⟨⟨(e:List I.ao),(v3:List Int),(v4:List (List I.Field)),(v5:List (List (List UInt8))),(f:List (List I.Target)),_⟩,⟨(g:List I.ao),_,_,_,_,_⟩,(cE:List Int),(v9:List (List I.Field)),(a:List (List (List UInt8))),(b:List (List I.Target)),_⟩:=db
 obtain⟨c,_⟩:=ea h
 dsimp only at c
 obtain⟨rfl,rfl,rfl,rfl,rfl,rfl,_⟩:=c
 conv=>rhs;change dV (α:=((List (List I.Target))×(List (List (List UInt8)))×(List (List I.Field))×(List Int))⊕(I.aR×Int)) _ (Uh F (k+1) v0 b a v9 cE v1 ([]) ([]) ([]) ([]) ([]) (v0));rw[<-Yo F (k+1) v0 b a v9 cE v1];simp only[q9,a_,Yo];simp only[bT]
 kernel_rfl)
noncomputable def apM(F:Nat):aP aE:=(apL F).rt 86 ⟨[.p (.l 134)],[],[hr,.p (.i .i64)],[],I.aR×Int,λ d=>HI F d.1.1,λ d r=>(((r.1.a8,r.1.aZ,r.1.Fields,r.1.Names,r.1.a1,()),r.2,()),())⟩ λ da db=>by
 obtain⟨(v0:List I.ao),_⟩:=da;conv=>rhs;simp only[HI,a_,Yo]
 kernel_rfl
noncomputable def apN(F:Nat):aP aE:=(apM F).rt 50 ⟨[hr],[],[.p (.i .i64)],[],Int,λ d=>s3 F (e6 d.1.1),λ d r=>((r,()),())⟩ λ da db=>by
 conv=>rhs;simp only[s3,a_]
 kernel_rfl
noncomputable def apO(F:Nat):aP aE:=(apN F).rt 59 ⟨[hr,.p (.i .i64)],[],[.p (.b)],[],Bool,λ d=>Ew (e6 d.1.1) d.1.2.1,λ d r=>((r,()),())⟩ λ da db=>by
 conv=>rhs;simp only[Ew,a_]
 kernel_rfl
noncomputable def apP(F:Nat):aP aE:=(apO F).rt 60 ⟨[hr,.p (.i .i64),.p (.i .i64)],[],[.p (.b)],[],Bool,λ d=>Ev (e6 d.1.1) d.1.2.1 d.1.2.2.1,λ d r=>((r,()),())⟩ λ da db=>by
 conv=>rhs;simp only[Ev,a_]
 kernel_rfl
noncomputable def apQ(F:Nat):aP aE:=(apP F).bY 95 0 F ⟨[2,3,4,5,10],[.p (.i .i64),.p (.i .i64),.p (.B 0),.p (.B 1),.p (.R 2)],[iF,dP,.r 3 false],
 [⟨⟨.nm,[2,3,10],[.p (.i .i64),.p (.i .i64),.p (.R 2)],[iF,dP,.r 3 false]⟩,(List Int)×Int,λ d r=>((r.2,d.1.2.1,(),()),(d.2.1,d.2.2.1,r.1,()))⟩,
  ⟨⟨.rt,[8,9],[.p (.l 3),.p (.b)],[.d,.d,.d]⟩,(List Int)×Bool,λ d r=>((r.1,r.2,()),((),(),(),()))⟩],
 λ k d=>bf (x5 (dQ d.2.1) (e6 d.2.2.1) d.1.2.1 k d.2.2.2.1 d.1.1)⟩ (bL.bV (λ d=>rfl) λ k da db q h=>by
 conv=>rhs;simp only[x5,a_];simp only[bT]
 kernel_rfl)
noncomputable def apS(F:Nat):aP aE:=(apQ F).rt 95 ⟨[jf,hr,.p (.i .i64),.p (.i .i64)],[],[.p (.l 3),.p (.b)],[],(List Int)×Bool,λ d=>q' F (dQ d.1.1) (e6 d.1.2.1) d.1.2.2.1 d.1.2.2.2.1,λ d r=>((r.1,r.2,()),())⟩ λ da db=>by
 conv=>rhs;simp only[q',a_]
 kernel_rfl
noncomputable def apT(F:Nat):aP aE:=(apS F).rt 62 ⟨[jf,hr],[],[.p (.l 3),.p (.l 3),.p (.b)],[],(List Int)×(List Int)×Bool,λ d=>ra F (dQ d.1.1) (e6 d.1.2.1),λ d r=>((r.1,r.2.1,r.2.2,()),())⟩ λ da db=>by
 conv=>rhs;simp only[ra,a_]
 kernel_rfl
noncomputable def apU(F:Nat):aP aE:=(apT F).rt 71 ⟨[hr,.p (.i .i64),.p (.i .i64)],[],[.p (.b)],[],Bool,λ d=>s5 (e6 d.1.1) d.1.2.1 d.1.2.2.1,λ d r=>((r,()),())⟩ λ da db=>by
 conv=>rhs;simp only[s5,a_]
 kernel_rfl
noncomputable def apV(F:Nat):aP aE:=(apU F).bY 44 0 F ⟨[2,3,4,7,8],[.p (.i .i64),.p (.B 0),.p (.B 1),.p (.R 2),.p (.i .i64)],[iF,dP,.r 3 false],
 [⟨⟨.nm,[7],[.p (.R 2)],[iF,dP,.r 3 false]⟩,List Int,λ d r=>(((),()),(d.2.1,d.2.2.1,r,()))⟩],
 λ k d=>u7 d.1.1 (dQ d.2.1) (e6 d.2.2.1) k d.2.2.2.1 d.1.2.2.2.2.1⟩ (bL.bV (λ d=>rfl) λ k da db q h=>by
 conv=>rhs;simp only[u7,a_];simp only[bT]
 kernel_rfl)
noncomputable def apW(F:Nat):aP aE:=(apV F).rt 44 ⟨[jf,hr,.p (.i .i64)],[],[.p (.l 3)],[],List Int,λ d=>oU F (dQ d.1.1) (e6 d.1.2.1) d.1.2.2.1,λ d r=>((r,()),())⟩ λ da db=>by
 conv=>rhs;simp only[oU,a_]
 kernel_rfl
noncomputable def apX(F:Nat):aP aE:=(apW F).bY 43 0 F ⟨[0,1,5],[.p (.l 3),.p (.i .i64),.p (.i .i64)],[],
 [⟨⟨.nm,[],[],[]⟩,Unit,λ d r=>((),())⟩,
  ⟨⟨.rt,[4],[.p (.b)],[]⟩,Bool,λ d r=>((r,()),())⟩],
 λ k d=>bf (Bj d.1.1 d.1.2.1 k d.1.2.2.1)⟩ (bL.bV (λ d=>rfl) λ k da db q h=>by
 conv=>rhs;simp only[Bj,a_];simp only[bT]
 kernel_rfl)
noncomputable def apY(F:Nat):aP aE:=(apX F).rt 43 ⟨[.p (.l 3),.p (.i .i64)],[],[.p (.b)],[],Bool,λ d=>kW F d.1.1 d.1.2.1,λ d r=>((r,()),())⟩ λ da db=>by
 conv=>rhs;simp only[kW,a_]
 kernel_rfl
noncomputable def apZ(F:Nat):aP aE:=(apY F).bY 51 0 F ⟨[2,3,6,8,9],[.p (.B 0),.p (.B 1),.p (.l 3),.p (.R 2),.p (.i .i64)],[iF,dP,.r 3 true],
 [⟨⟨.nm,[2,3,6,8],[.p (.B 0),.p (.B 1),.p (.l 3),.p (.R 2)],[iF,dP,.r 3 true]⟩,Unit,λ d r=>(((),(),d.1.2.2.1,(),()),(d.2.1,d.2.2.1,d.2.2.2.1,()))⟩,
  ⟨⟨.rt,[4],[.p (.i .i64)],[.d,.d,.d]⟩,Int,λ d r=>((r,()),((),(),(),()))⟩],
 λ k d=>bf (A2 (dQ d.2.1) d.2.2.2.1 k d.1.2.2.2.2.1)⟩ (bL.bV (λ d=>rfl) λ k da db q h=>by
 conv=>rhs;simp only[A2,a_];simp only[bT]
 kernel_rfl)
noncomputable def ap0(F:Nat):aP aE:=(apZ F).bY 51 4 F ⟨[2,3,6,8,10,11],[.p (.B 0),.p (.B 1),.p (.l 3),.p (.R 2),.p (.i .i64),.p (.i .i64)],[iF,dP,.r 3 true],
 [⟨⟨.nm,[2,3,6,8,10],[.p (.B 0),.p (.B 1),.p (.l 3),.p (.R 2),.p (.i .i64)],[iF,dP,.r 3 true]⟩,Unit,λ d r=>(((),(),d.1.2.2.1,(),d.1.2.2.2.2.1,()),(d.2.1,d.2.2.1,d.2.2.2.1,()))⟩,
  ⟨⟨.rt,[4],[.p (.i .i64)],[.d,.d,.d]⟩,Int,λ d r=>((r,()),((),(),(),()))⟩],
 λ k d=>bf (A3 (dQ d.2.1) d.2.2.2.1 d.1.2.2.2.2.1 k d.1.2.2.2.2.2.1)⟩ (bL.bV (λ d=>rfl) λ k da db q h=>by
 conv=>rhs;simp only[A3,a_];simp only[bT]
 kernel_rfl)
noncomputable def ap1(F:Nat):aP aE:=(ap0 F).bY 51 2 F ⟨[2,3,6,8,10],[.p (.B 0),.p (.B 1),.p (.l 3),.p (.R 2),.p (.i .i64)],[iF,dP,.r 3 true],
 [⟨⟨.nm,[2,3,6,8],[.p (.B 0),.p (.B 1),.p (.l 3),.p (.R 2)],[iF,dP,.r 3 true]⟩,Unit,λ d r=>(((),(),d.1.2.2.1,(),()),(d.2.1,d.2.2.1,d.2.2.2.1,()))⟩,
  ⟨⟨.rt,[4],[.p (.i .i64)],[.d,.d,.d]⟩,Int,λ d r=>((r,()),((),(),(),()))⟩],
 λ k d=>bf (xW F (dQ d.2.1) d.2.2.2.1 k d.1.2.2.2.2.1)⟩ (bL.bV (λ d=>rfl) λ k da db q h=>by
 conv=>rhs;simp only[xW,a_];simp only[bT]
 kernel_rfl)
noncomputable def ap3(F:Nat):aP aE:=(ap1 F).bY 51 8 F ⟨[2,3,6,8,12,13,14],[.p (.B 0),.p (.B 1),.p (.l 3),.p (.l 3),.p (.i .i64),.p (.l 3),.p (.i .i64)],[iF,dP],
 [⟨⟨.nm,[2,3,6,8,12],[.p (.B 0),.p (.B 1),.p (.l 3),.p (.l 3),.p (.i .i64)],[iF,dP]⟩,Unit,λ d r=>(((),(),d.1.2.2.1,d.1.2.2.2.1,d.1.2.2.2.2.1,()),(d.2.1,d.2.2.1,()))⟩,
  ⟨⟨.rt,[4],[.p (.i .i64)],[.d,.d]⟩,Int,λ d r=>((r,()),((),(),()))⟩],
 λ k d=>bf (xX F (dQ d.2.1) d.1.2.2.2.1 d.1.2.2.2.2.2.1 k d.1.2.2.2.2.2.2.1)⟩ (bL.bV (λ d=>rfl) λ k da db q h=>by
 conv=>rhs;simp only[xX,a_];simp only[bT]
 kernel_rfl)
noncomputable def ap4(F:Nat):aP aE:=(ap3 F).bY 51 6 F ⟨[2,3,6,8,12],[.p (.B 0),.p (.B 1),.p (.l 3),.p (.l 3),.p (.i .i64)],[iF,dP],
 [⟨⟨.nm,[2,3,6],[.p (.B 0),.p (.B 1),.p (.l 3)],[iF,dP]⟩,Unit,λ d r=>(((),(),d.1.2.2.1,()),(d.2.1,d.2.2.1,()))⟩,
  ⟨⟨.rt,[4],[.p (.i .i64)],[.d,.d]⟩,Int,λ d r=>((r,()),((),(),()))⟩],
 λ k d=>bf (A4 F (dQ d.2.1) (e6 d.2.2.1) d.1.2.2.2.1 k d.1.2.2.2.2.1)⟩ (bL.bV (λ d=>rfl) λ k da db q h=>by
 conv=>rhs;simp only[A4,a_];simp only[bT]
 kernel_rfl)
noncomputable def ap5(F:Nat):aP aE:=(ap4 F).bY 51 10 F ⟨[2,3,6,15],[.p (.B 0),.p (.B 1),.p (.l 3),.p (.i .i64)],[iF,dP],
 [⟨⟨.nm,[2,3,6],[.p (.B 0),.p (.B 1),.p (.l 3)],[iF,dP]⟩,Unit,λ d r=>(((),(),d.1.2.2.1,()),(d.2.1,d.2.2.1,()))⟩,
  ⟨⟨.rt,[4],[.p (.i .i64)],[.d,.d]⟩,Int,λ d r=>((r,()),((),(),()))⟩],
 λ k d=>bf (u5 (dQ d.2.1) k d.1.2.2.2.1)⟩ (bL.bV (λ d=>rfl) λ k da db q h=>by
 conv=>rhs;simp only[u5,a_];simp only[bT]
 kernel_rfl)
noncomputable def Ua(F:Nat)(k:Nat)(a:I.aU)(b:I.aR)(c:(List Int)×(List Int)×Bool)(d:Int):=dg (True) (bf (pV F a b c k d))
theorem Yi(F:Nat)(k:Nat)(a:I.aU)(b:I.aR)(c:(List Int)×(List Int)×Bool)(d:Int):bf (pV F a b c k d)=Ua F k a b ([],c.2.1,false) d:=(show bf (pV F a b c k d)=bf (pV F a b ([],c.2.1,false) k d) by kernel_rfl).trans (dA trivial).symm
noncomputable def ap6(F:Nat):aP aE:=(ap5 F).bY 51 12 F ⟨[2,3,6,16],[.p (.B 0),.p (.B 1),.p (.l 3),.p (.i .i64)],[iF,dP],
 [⟨⟨.nm,[2,3,6],[.p (.B 0),.p (.B 1),.p (.l 3)],[iF,dP]⟩,Unit,λ d r=>(((),(),d.1.2.2.1,()),(d.2.1,d.2.2.1,()))⟩,
  ⟨⟨.rt,[4],[.p (.i .i64)],[.d,.d]⟩,Int,λ d r=>((r,()),((),(),()))⟩],
 λ k d=>Ua F k (dQ d.2.1) (e6 d.2.2.1) ([],d.1.2.2.1,false) d.1.2.2.2.1⟩ (bL.bV (λ d=>dz) λ k da db q h=>by
 obtain⟨_,_,(v0:List Int),(v1:Int),_⟩:=da
 obtain⟨⟨(e:List Int),(v3:Int),(v4:Int),(v5:Int),(f:Int),(g:List Int),(cE:Int),_⟩,⟨(v9:List I.ao),(a:List Int),(b:List (List I.Field)),(c:List (List (List UInt8))),(i:List (List I.Target)),_⟩,_⟩:=db
 conv=>rhs;change dV (α:=Unit⊕Int) _ (Ua F (k+1) (⟨e,v3,v4,v5,f,g,cE⟩:I.aU) (⟨v9,a,b,c,i⟩:I.aR) ([],v0,false) v1);rw[<-Yi F (k+1) (⟨e,v3,v4,v5,f,g,cE⟩:I.aU) (⟨v9,a,b,c,i⟩:I.aR) ([],v0,false) v1];simp only[pV,a_,Yi];simp only[bT]
 kernel_rfl)
noncomputable def Uc(F:Nat)(k:Nat)(a:I.aU)(b:(List Int)×(List Int)×Bool)(c:Int)(d:List Int)(e:Int):=dg (True) (bf (q8 F a b c d k e))
theorem Yk(F:Nat)(k:Nat)(a:I.aU)(b:(List Int)×(List Int)×Bool)(c:Int)(d:List Int)(e:Int):bf (q8 F a b c d k e)=Uc F k a ([],b.2.1,false) c d e:=(show bf (q8 F a b c d k e)=bf (q8 F a ([],b.2.1,false) c d k e) by kernel_rfl).trans (dA trivial).symm
noncomputable def ap7(F:Nat):aP aE:=(ap6 F).bY 51 16 F ⟨[2,3,6,17,18,19],[.p (.B 0),.p (.B 1),.p (.l 3),.p (.i .i64),.p (.l 3),.p (.i .i64)],[iF,dP],
 [⟨⟨.nm,[2,3,6,17],[.p (.B 0),.p (.B 1),.p (.l 3),.p (.i .i64)],[iF,dP]⟩,Unit,λ d r=>(((),(),d.1.2.2.1,d.1.2.2.2.1,()),(d.2.1,d.2.2.1,()))⟩,
  ⟨⟨.rt,[4],[.p (.i .i64)],[.d,.d]⟩,Int,λ d r=>((r,()),((),(),()))⟩],
 λ k d=>Uc F k (dQ d.2.1) ([],d.1.2.2.1,false) d.1.2.2.2.1 d.1.2.2.2.2.1 d.1.2.2.2.2.2.1⟩ (bL.bV (λ d=>dz) λ k da db q h=>by
 obtain⟨_,_,(v0:List Int),(v1:Int),(b:List Int),(v3:Int),_⟩:=da
 obtain⟨⟨(v4:List Int),(v5:Int),(c:Int),(e:Int),(cE:Int),(v9:List Int),(a:Int),_⟩,⟨(f:List I.ao),(g:List Int),(i:List (List I.Field)),(j:List (List (List UInt8))),(l:List (List I.Target)),_⟩,_⟩:=db
 conv=>rhs;change dV (α:=Unit⊕Int) _ (Uc F (k+1) (⟨v4,v5,c,e,cE,v9,a⟩:I.aU) ([],v0,false) v1 b v3);rw[<-Yk F (k+1) (⟨v4,v5,c,e,cE,v9,a⟩:I.aU) ([],v0,false) v1 b v3];simp only[q8,a_,Yk];simp only[bT]
 kernel_rfl)
noncomputable def Ub(F:Nat)(k:Nat)(a:I.aU)(b:I.aR)(c:(List Int)×(List Int)×Bool)(d:Int):=dg (True) (bf (sY F a b c k d))
theorem Yj(F:Nat)(k:Nat)(a:I.aU)(b:I.aR)(c:(List Int)×(List Int)×Bool)(d:Int):bf (sY F a b c k d)=Ub F k a b ([],c.2.1,false) d:=(show bf (sY F a b c k d)=bf (sY F a b ([],c.2.1,false) k d) by kernel_rfl).trans (dA trivial).symm
noncomputable def ap8(F:Nat):aP aE:=(ap7 F).bY 51 14 F ⟨[2,3,6,17],[.p (.B 0),.p (.B 1),.p (.l 3),.p (.i .i64)],[iF,dP],
 [⟨⟨.nm,[],[],[iF,dP]⟩,Unit,λ d r=>((),(d.2.1,d.2.2.1,()))⟩,
  ⟨⟨.rt,[4],[.p (.i .i64)],[.d,.d]⟩,Int,λ d r=>((r,()),((),(),()))⟩],
 λ k d=>Ub F k (dQ d.2.1) (e6 d.2.2.1) ([],d.1.2.2.1,false) d.1.2.2.2.1⟩ (bL.bV (λ d=>dz) λ k da db q h=>by
 obtain⟨_,_,(v0:List Int),(v1:Int),_⟩:=da
 obtain⟨⟨(e:List Int),(v3:Int),(v4:Int),(v5:Int),(f:Int),(g:List Int),(cE:Int),_⟩,⟨(v9:List I.ao),(a:List Int),(b:List (List I.Field)),(c:List (List (List UInt8))),(i:List (List I.Target)),_⟩,_⟩:=db
 conv=>rhs;change dV (α:=Unit⊕Int) _ (Ub F (k+1) (⟨e,v3,v4,v5,f,g,cE⟩:I.aU) (⟨v9,a,b,c,i⟩:I.aR) ([],v0,false) v1);rw[<-Yj F (k+1) (⟨e,v3,v4,v5,f,g,cE⟩:I.aU) (⟨v9,a,b,c,i⟩:I.aR) ([],v0,false) v1];simp only[sY,a_,Yk,Yj];simp only[bT]
 kernel_rfl)
noncomputable def ap9(F:Nat):aP aE:=(ap8 F).rt 51 ⟨[jf,hr],[],[.p (.i .i64)],[],Int,λ d=>Eu F (dQ d.1.1) (e6 d.1.2.1),λ d r=>((r,()),())⟩ λ da db=>by
 obtain⟨⟨(v0:List Int),(v1:Int),(c:Int),(v3:Int),(v4:Int),(v5:List Int),(e:Int),_⟩,⟨(f:List I.ao),(cE:List Int),(v9:List (List I.Field)),(a:List (List (List UInt8))),(b:List (List I.Target)),_⟩,_⟩:=da;conv=>rhs;simp only[Eu,a_,Yi,Yj]
 kernel_rfl
noncomputable def ap_(F:Nat):aP aE:=(ap9 F).rt 20 ⟨[jf,hr],[],[.p (.i .i64)],[],Int,λ d=>x3 F (dQ d.1.1) (e6 d.1.2.1),λ d r=>((r,()),())⟩ λ da db=>by
 conv=>rhs;simp only[x3,a_]
 kernel_rfl
noncomputable def ap'(F:Nat):aP aE:=(ap_ F).rt 14 ⟨[jf],[],[.p (.i .i64)],[],Int,λ d=>acO (dQ d.1.1),λ d r=>((r,()),())⟩ λ da db=>by
 conv=>rhs;simp only[acO,a_]
 kernel_rfl
noncomputable def aqa(F:Nat):aP aE:=(ap' F).bY 18 0 F ⟨[0,1,5],[.p (.l 3),.p (.l 3),.p (.i .i64)],[],
 [⟨⟨.nm,[],[],[]⟩,Unit,λ d r=>((),())⟩,
  ⟨⟨.rt,[4],[.p (.b)],[]⟩,Bool,λ d r=>((r,()),())⟩],
 λ k d=>bf (u_ d.1.1 d.1.2.1 k d.1.2.2.1)⟩ (bL.bV (λ d=>rfl) λ k da db q h=>by
 conv=>rhs;simp only[u_,a_];simp only[bT]
 kernel_rfl)
noncomputable def aqc(F:Nat):aP aE:=(aqa F).rt 18 ⟨[.p (.l 3),.p (.l 3)],[],[.p (.b)],[],Bool,λ d=>nE F d.1.1 d.1.2.1,λ d r=>((r,()),())⟩ λ da db=>by
 conv=>rhs;simp only[nE,a_]
 kernel_rfl
noncomputable def aqd(F:Nat):aP aE:=(aqc F).rt 32 ⟨[jf,jf],[],[.p (.b)],[],Bool,λ d=>Bv F (dQ d.1.1) (dQ d.1.2.1),λ d r=>((r,()),())⟩ λ da db=>by
 conv=>rhs;simp only[Bv,a_]
 kernel_rfl
noncomputable def aqe(F:Nat):aP aE:=(aqd F).rt 17 ⟨[jf,.p (.i .i64),.p (.i .i64),jf],[],[.p (.b)],[],Bool,λ d=>AX F (dQ d.1.1) d.1.2.1 d.1.2.2.1 (dQ d.1.2.2.2.1),λ d r=>((r,()),())⟩ λ da db=>by
 conv=>rhs;simp only[AX,a_]
 kernel_rfl
noncomputable def Ug(F:Nat)(k:Nat)(a:List Int)(b:(List Int)×(List Int)×Bool)(c:Int):=dg (True) (bf (pW F a b k c))
theorem Yn(F:Nat)(k:Nat)(b:List Int)(a:(List Int)×(List Int)×Bool)(c:Int):bf (pW F b a k c)=Ug F k b (a.1,a.2.1,false) c:=(show bf (pW F b a k c)=bf (pW F b (a.1,a.2.1,false) k c) by kernel_rfl).trans (dA trivial).symm
noncomputable def aqf(F:Nat):aP aE:=(aqe F).bY 40 0 F ⟨[2,7,8,10],[.p (.l 3),.p (.l 3),.p (.l 3),.p (.i .i64)],[],
 [⟨⟨.nm,[],[],[]⟩,Unit,λ d r=>((),())⟩,
  ⟨⟨.rt,[6],[.p (.i .i64)],[]⟩,Int,λ d r=>((r,()),())⟩],
 λ k d=>Ug F k d.1.1 (d.1.2.1,d.1.2.2.1,false) d.1.2.2.2.1⟩ (bL.bV (λ d=>dz) λ k da db q h=>by
 obtain⟨(v0:List Int),(v1:List Int),(a:List Int),(v3:Int),_⟩:=da
 conv=>rhs;change dV (α:=Unit⊕Int) _ (Ug F (k+1) v0 (v1,a,false) v3);rw[<-Yn F (k+1) v0 (v1,a,false) v3];simp only[pW,a_,Yn];simp only[bT]
 kernel_rfl)
noncomputable def aqg(F:Nat):aP aE:=(aqf F).rt 40 ⟨[jf,hr,.p (.l 3)],[],[.p (.i .i64)],[],Int,λ d=>x1 F (dQ d.1.1) (e6 d.1.2.1) d.1.2.2.1,λ d r=>((r,()),())⟩ λ da db=>by
 obtain⟨⟨(v0:List Int),(v1:Int),(e:Int),(v3:Int),(v4:Int),(v5:List Int),(f:Int),_⟩,⟨(g:List I.ao),(cE:List Int),(v9:List (List I.Field)),(a:List (List (List UInt8))),(b:List (List I.Target)),_⟩,(c:List Int),_⟩:=da;conv=>rhs;simp only[x1,a_,Yn]
 kernel_rfl
noncomputable def LO(F:Nat):aP aE:=(aqg F).rt 13 ⟨[jf,hr,.p (.l 3)],[],[.p (.i .i64)],[],Int,λ d=>Sg F (dQ d.1.1) (e6 d.1.2.1) d.1.2.2.1,λ d r=>((r,()),())⟩ λ da db=>by
 conv=>rhs;simp only[Sg,a_]
 kernel_rfl
end Go.Proofs.YteeliipnilghaaaGreat
namespace I
def sO(n:Int):Nat->List Int->Int->Option (List Int)
 |0,_,_=>none
 |k+1,l,i=>cond (decide (i<n)) ((bF 8 l [i]).bind λ l'=>sO n k l' (ax (i+1))) (some l)
def sN(F:Nat)(n:Int):Option (List Int):=sO n F [] 0
end I
namespace Go.Proofs.YteeliipnilghaaaGreat
open Go Go.RowKit aw I bc
set_option maxHeartbeats 4000000
set_option maxRecDepth 20000
def z6(a:Nat):c9 Int where
 size:=1
 rd _ _ cs q:=cs=[.pointer (some ⟨a,q.toNat,none⟩)]
 len h:=by subst h;rfl
 one h v b:=by subst h;simp at b;subst b;rfl
 law _ h:=h
theorem aDR{F:Nat->Prop}{w:World}{g:Nat}{i:Int}:(z6 g).rd F w [.pointer (some ⟨g,0+i.toNat*1,none⟩)] i:=by
 show[_]=[_]
 rw[jx,jB]
theorem azK:(Tryz.prog.info? 109).map (λ i=>(i.zero,i.size,i.bytes))=some (some (.pointer none),1,8):=by kernel_rfl
theorem atl{W:World}{X:List Nat}{F:Nat}{A:ix}{n c:Nat}{r:List Int}{M0:List Nat}(C:n<=9223372036854775807)(p:0<n->A=some ⟨dv A,0,none⟩)(b:bw W M0 X W [] [])(h:I.sN F (n:Int)=some r) :
 Calls Tryz.prog 39 [.slice A n c].toArray W (λ e w'=>∃cj:Option Addr,∃m:Nat,∃xs:List Value,e= .returned (.q cj m r)/\bw W M0 X w' [ba.row 109 1 (.q cj m r) r xs] [bD.rows (z6 (dv A)) xs r]):=by
 refine enter Tryz.func39 rfl Tryz.ntmps39 rfl λ a ad=>?_;rw[I.sN]at h
 refine p7 [] [(0,.slice A n c)] ad λ a ad=>p7 [] [(3,.slice none 0 0)] ad λ a ad=>?_
 have b:=b.JT (α:=Int) 109 1;have b:=b.more (y:=bD.rows (z6 (dv A)) [] []) rfl
 refine wp_seq_k λ K q=>p7 [] [(6,.i n),(7,.i 0)] ad λ a ad=>?_
 refine Mj (λ a w=>∃(d:ix)(c1:Nat)(f:oQ),Fr ⟨18,[]⟩ [(3,.q d c1 r)] a/\bw W M0 X w [ba.row 109 1 (.q d c1 r) r f] [bD.rows (z6 (dv A)) f r]) (λ K s=>?_) ?_
 ·refine SS (λ(o:Nat) a w=>∃(d:ix)(c1:Nat)(l1:En)(f:oQ)(i:Int),Fr ⟨18,[]⟩ [(0,.slice A n c),(3,.q d c1 l1),(6,.i n),(7,.i i)] a/\bw W M0 X w [ba.row 109 1 (.q d c1 l1) l1 f] [bD.rows (z6 (dv A)) f l1]/\0<=i/\I.sO n o l1 i=some r) F ⟨none,0,[],[],0,ad.cut,b,k2 _,h⟩ ?_ ?_
  ·rintro a w ⟨d,c1,l1,f,i,ad,b,hi,h⟩;exact absurd h (by simp[I.sO])
  rintro o a w ⟨d,c1,l1,f,i,ad,b,hi,h⟩ K t;rw[I.sO]at h
  refine p7 [] [(8,.bool (decide (i<n)))] ad λ a ad=>?_
  refine wp_seq_k λ K u=>Ml (ad.g rfl) h (λ af h=>?_) (λ af h=>?_)
  ·refine wp_skip<|u _ _<|wp_seq_k λ K v=>?_
   have x:i<(n:Int):=of_decide_eq_true af
   obtain⟨g,rfl⟩:∃g,A=some ⟨g,0,none⟩:=⟨_,p (by omega)⟩
   obtain⟨k,z,h⟩:=I.fM h
   refine Mj (λ a w=>∃(j:ix)(c2:Nat)(l:oQ),Fr ⟨18,[]⟩ [(0,.slice (some ⟨g,0,none⟩) n c),(3,.q j c2 k),(6,.i n),(7,.i i)] a/\bw W M0 X w [ba.row 109 1 (.q j c2 k) k l] [bD.rows (z6 g) l k]) (λ K B=>?_) ?_
   ·refine p7 [] [(4,.i i)] ad λ a ad=>?_
    refine oY<|k0 3 [] [(10,.q d c1 l1),(11,.slice (some ⟨g,0,none⟩) n c),(12,.i i)] ad λ a ad=>fG wn (pO Tryz.underlying22 Tryz.sizeOf3 rfl (ad.g rfl) (ad.g rfl) rfl ⟨hi,x⟩) ad rfl rfl λ a ad=>?_
    refine aiG (cs:=[.pointer (some ⟨g,0+i.toNat*1,none⟩)]) wn (D' (vs:=[(0,.pointer (some ⟨g,0+i.toNat*1,none⟩))]) Tryz.underlying73 Tryz.sizeOf109 Tryz.zeroValue109 rfl rfl rfl ⟨⟨(ad.g rfl),rfl⟩,trivial⟩ (by kernel_rfl)) ad b rfl rfl λ a D w _ ad b=>?_
    refine Ku (T:=z6 g) (ml:=[i]) 1 0 0 b rfl rfl rfl Tryz.underlying73 azK rfl rfl z rfl rfl ⟨_,_,rfl,aDR,rfl⟩ wn rfl (ad.g rfl) (ad.g rfl) ad rfl rfl λ a j c2 l w ad b=>?_
    refine k0 1 [] [(3,.q j c2 k)] ad λ a ad=>wpList_nil ?_
    exact B _ _ ⟨j,c2,l,ad.cut,b.hP [0]⟩
   rintro a w ⟨j,c2,l,ad,b⟩
   refine v _ _<|adV [] [(7,.i (I.ax (i+1)))] ad λ a ad=>?_
   exact t _ _ ⟨j,c2,k,l,I.ax (i+1),ad.cut,b,by rw[show I.ax (i+1)=i+1 by unfold I.ax;omega];omega,h⟩
  ·refine wp_exit<|sL (sL (Hh ?_));obtain rfl:=oi h;exact s _ _ ⟨d,c1,f,ad.cut,b⟩
 rintro a w ⟨d,c1,f,ad,b⟩
 refine q _ _<|KK [] [(2,.q d c1 r)] ad λ a ad=>wp_ret ?_;refine zG Tryz.results39 ad rfl ?_;exact⟨d,c1,f,rfl,b⟩
theorem ajm{n:Int}:∀ {k:Nat}{l r:List Int}{i:Int},I.sO n k l i=some r->n<=9223372036854775807->0<=i->(∀q∈l,0<=q/\q<n)-> ∀q∈r,0<=q/\q<n
 |0,l,r,i,h,_,_,_=>by simp[I.sO]at h
 |k+1,l,r,i,h,b,hi,a=>by
  rw[I.sO]at h;cases af:decide (i<n)with
  |false=>rw[af]at h;obtain rfl:=oi h;exact a
  |true=>
   rw[af]at h
   have c:=of_decide_eq_true af
   obtain⟨d,J,h⟩:=I.fM h
   have e:I.ax (i+1)=i+1:=by unfold I.ax;omega
   rw[e]at h
   refine ajm h b (by omega) λ q aM=>?_
   have:d=l++[i]:=by
    unfold bF at J;split at J
    ·exact(oi J).symm
    ·cases J
   rw[this]at aM
   rcases b_.1 aM with aM |aM
   ·exact a q aM
   ·cases dR.1 aM;exact⟨hi,c⟩
theorem ajr{ρ:List Value}{bl:List (aD bq.El)}{F:Nat->Prop}{w:World}{g n c:Nat}(b:ρ[0]? =some (.slice (some ⟨g,0,none⟩) n c))(e:b1 bl[0]? =0):∀ {r:List Int}{xs:List Value},(∀q∈r,0<=q/\q<(n:Int))->dE (z6 g) F w xs r->sW ρ bl 0 0 1 r xs
 |[],xs,_,h=>h
 |q::r,xs,d,h=>by
  obtain⟨cs,ys,rfl,a,J⟩:=h;have a:cs=[.pointer (some ⟨g,q.toNat,none⟩)]:=a;subst a;have:=d q (by simp);exact⟨_,_,rfl,⟨trivial,_,b,gK _,λ _=>⟨_,_,_,rfl,this.1,this.2,by simp[dv]⟩⟩,ajr b e (λ q f=>d q (by simp[f])) J⟩
@[reducible] noncomputable def Oa(F:Nat):hZ bq:=⟨[.p (.R 0)],[.r 3 true],[.p (.P 0 1)],[.r 3 true],List Int,λ d=>sN F d.2.1.length,λ d r=>((r,()),(d.2.1,()))⟩
theorem atZ(F:Nat):(Oa F).hI.AU aE 39:=by
 intro da db eS h W M0 X ρ w vs a b;obtain⟨⟨⟩,⟨⟩⟩:=da;obtain⟨l,⟨⟩⟩:=db;have h:dV _ (I.sN F (l:List Int).length)=some eS:=h;obtain⟨r,p,rfl⟩:=cu.1 h;have a:Mem bq W M0 X [.r 3 0 0 l] ρ w:=a;have b:a7 bq (bi X [.r 3 0 0 l] ρ w) w ρ [.r 3 0 0 l] [.r 0 0] vs:=b;obtain⟨Q,f⟩:=a.rY (i:=0) rfl;obtain⟨A,c,xs,rfl,E,_⟩:=a.ok 0 _ _ rfl f;simp only[a7,ar]at b;obtain⟨v,_,rfl,⟨_,u,s,_,b⟩,rfl⟩:=b;rw[f]at s;cases s;obtain rfl:=b rfl;have j:=E.cap;have R:iv (α:=Int) l<=c:=j.1;have t:iv (α:=Int) l<=9223372036854775807:=by have:=j.2.1;simp only[maxLen]at this;omega
 have x:0<iv (α:=Int) l->A=some ⟨dv A,0,none⟩:=λ S=>by
  obtain⟨g,rfl⟩:=j.2.2.2 (by omega);rfl
 refine⟨⟨.ret (.pp 0 0 1 r),[.r 3 0 0 l],[]⟩,by kernel_rfl,?_⟩;refine(atl (X:=[]) (M0:=[]) t x (bw.start [] [] w [] [] (by simp) (by simp[bX]) (by simp) (by simp[bX]) (by simp)) p).mono λ e w' ⟨cj,m,ys,G,aj⟩=>?_;refine⟨ρ,a.eV aj.bW,Mem.su aj.bW,λ k H _=>aj.bW.block k H (by simp),?_⟩;subst G;show ar _ _ _ _ _ (.pp 0 0 1 r) _
 simp only[ar];have d:(ba.row 109 1 (.slice cj r.length m) r ys).ok w':=aj.e 0 rfl;obtain⟨_,_,y,ak,aS,bN,dq⟩:=Kp d;simp only[Value.slice.injEq,true_and]at y;obtain⟨rfl,rfl⟩:=y;refine⟨cj,m,rfl,ak,bN,λ z=>?_⟩;have J:0<r.length:=lD.2 z;have K:cj≠none:=λ e=>by have:=bN e;omega
 have n:=dq K;have B:∀q∈r,0<=q/\q<((iv (α:=Int) l:Nat):Int):=ajm p (Int.ofNat_le.2 t) (k2 _) (by simp);have L:0<iv (α:=Int) l:=by
  obtain⟨q,M⟩:=List.exists_mem_of_ne_nil r z;have:=B q M;omega
 have o:=x L;obtain⟨g,rfl⟩:∃g,A=some ⟨g,0,none⟩:=⟨_,o⟩
 obtain⟨g',rfl⟩:∃g',cj=some ⟨g',0,none⟩:=⟨_,n⟩
 have C:=aj.lt g' (by simp[bX,ba.row,Value.ownBlock]);have T:w.heap.size<=g':=C.2.resolve_left (by simp);have U:W.heap.size<=w.heap.size:=a.bW.size;refine⟨rfl,⟨λ N=>?_,λ d=>?_,C.1⟩,ys,ajr f rfl B (aj.d 0 rfl),?_⟩
 ·have:g'<W.heap.size:=(a.hL _ N).1;omega
 ·have:g'<w.heap.size:=(a.lt _ d).1;omega
 ·have O:w'.ownsRow 0 109 1 (.slice (some ⟨g',0,none⟩) r.length m) r.length ys:=d
  have:=uw J (Or.inl O)
  obtain⟨V,D,Y,P,_⟩:=this
  simp only[aF,Addr.mk.injEq,and_true]at D
  subst D
  exact P
theorem adu(F:Nat):j3 aE 39 ((Oa F).run aE):=λ ys bl r a=>Mr (atZ F) ys bl r (zK a)
end Go.Proofs.YteeliipnilghaaaGreat
namespace Go.Proofs.YteeliipnilghaaaGreat
open Go Go.RowKit aw I bc
@[reducible] def FM:hZ bq:=⟨[],[],[.p .b],[],Bool,λ _=>some true,λ _ r=>((r,()),())⟩
theorem auZ:FM.Eq lB (E6 lB (LO 2000).t.ko (λ _ _=>none) 100) (λ _ _=>none) 16:=λ da db=>by
 kernel_rfl
theorem Mp(g:Nat)(h:List (aH bq.El)->List (aD bq.El)->D (fg bq.El)):j3 aE g h=j3 lB g h:=by kernel_rfl
theorem ate:j3 lB 16 (FM.run lB):=
 have a:u2 lB (λ _ _=>none):=λ g fn c _ _ _=>tU (λ _=>rfl) c
 have hc:=((LO 2000).ok jG).ce
 have b:LQ lB (LO 2000).t.ko:=⟨hc.cb,λ g h d=>(Mp g h)▸hc.ok g h d⟩
 λ ys bl r e=>ES My (k1 My b a 100) a rfl (c:=FM.hI) (ej.Eq.v auZ) ys bl r (zK e)
theorem aGH:FM.run aE=FM.run lB:=by kernel_rfl
noncomputable def aqh(F:Nat):aP aE:=(LO F).add 16 (FM.run aE) (aGH▸(Mp 16 _)▸ate)
noncomputable def aqi(F:Nat):aP aE:=(aqh F).add 39 ((Oa F).run aE) (adu F)
end Go.Proofs.YteeliipnilghaaaGreat
namespace Go.Proofs.YteeliipnilghaaaGreat
open Go Go.RowKit aw I bc
set_option maxRecDepth 100000
@[reducible] def F9:bI:=.c 24 [.R 2,.i .i64,.i .i64,.i .i64,.i .i64,.l 3,.i .i64]
@[reducible] def zC:bI:=.c 24 [.R 1,.i .i64,.i .i64,.i .i64,.i .i64,.l 3,.i .i64]
@[reducible] def ajb:cL:=.a [.l 3,.i .i64,.i .i64,.i .i64,.i .i64,.l 3,.i .i64]
@[reducible] def F_:bI:=.c 108 [.B 1,.l 134,.l 3,.l 124,.l 120,.l 121,.M 3]
@[reducible] def Ga:bI:=.c 108 [.B 0,.l 134,.l 3,.l 124,.l 120,.l 121,.M 3]
@[reducible] def ajc:cL:=.a [.l 134,.l 3,.l 124,.l 120,.l 121]
abbrev aoe:=(Unit×(Unit×List ao×List Int×List (List I.Field)×List (List (List UInt8))×List (List I.Target)×Unit×Unit)×(Unit×Int×Int×Int×Int×List Int×Int×Unit)×List Int×List (Int×Int)×Unit)
abbrev RG:=(Unit×List ao×List Int×List (List I.Field)×List (List (List UInt8))×List (List I.Target)×Unit×Unit)
abbrev LA:=(Unit×Int×Int×Int×Int×List Int×Int×Unit)
def acf(F:Nat)(a:Int)(g:List ao)(h:List Int)(i:List (List I.Field))(j:List (List (List UInt8)))(k:List (List I.Target))(e:Int)(l:Int)(m:Int)(c:Int)(n:List Int)(o:Int)(b:List Int)(d:List (Int×Int)):Option ((Int×Unit)×RG×LA×List Int×List (Int×Int)×Unit):=
 cond (decide (a=0)||decide (e<a)) (some ((a,()),((),g,h,i,j,k,(),()),((),e,l,m,c,n,o,()),b,d,())) (
cond ((cJ d a).isSome) (some ((((cJ d a).getD 0),()),((),g,h,i,j,k,(),()),((),e,l,m,c,n,o,()),b,d,())) (
(idx b (ax (a+1))).bind λ f=>
(if(0 :Int)<=c/\c<=(↑b.length:Int)/\(↑b.length:Int)<=(↑b.length:Int)then some ()else none).bind λ p=>
(if(0 :Int)<=a/\a<=ax (a+ax (3+f))/\ax (a+ax (3+f))<=(↑b.length:Int)then some ()else none).bind λ q=>
(C9 (decide (0<b.length))).bind λ r=>
some ((c,()),((),g,h,i,j,k,(),()),((),e,l,m,(ax (c+ax (3+f))),n,o,()),(gD b c.toNat (mf ((↑b.length:Int)-c).toNat (List.drop a.toNat (mf (ax (a+ax (3+f))).toNat b)))),(gA d a c),())))
noncomputable def aqj(F:Nat):aP aE:=(aqi F).fn 69 ⟨[.p (.B 0),.p (.i .i64)],[F_,F9,.r 3 true,.m 3 3],[.p (.i .i64)],[F_,F9,.r 3 true,.m 3 3],λ d=>acf F d.1.2.1 d.2.1.2.1 d.2.1.2.2.1 d.2.1.2.2.2.1 d.2.1.2.2.2.2.1 d.2.1.2.2.2.2.2.1 d.2.2.1.2.1 d.2.2.1.2.2.1 d.2.2.1.2.2.2.1 d.2.2.1.2.2.2.2.1 d.2.2.1.2.2.2.2.2.1 d.2.2.1.2.2.2.2.2.2.1 d.2.2.2.1 d.2.2.2.2.1⟩ λ da db=>by kernel_rfl
def RK(F:Nat):Nat->(Int)->(Int)->(Int)->(List ao)->(List Int)->(List (List I.Field))->(List (List (List UInt8)))->(List (List I.Target))->(Int)->(Int)->(Int)->(Int)->(List Int)->(Int)->(List Int)->(List (Int×Int))->Option aoe
 |0,_,_,_,_,_,_,_,_,_,_,_,_,_,_,_,_=>none
 |aQ+1,d,b,c,f,g,h,i,j,k,l,m,n,o,p,e,q=>
  cond (decide (c<b)) ((idx e d).bind λ r=>
(rM (b9.mk (aR.mk f g h i j)) r c).bind λ s=>
cond s ((idx e (ax (ax (d+3)+c))).bind λ t=>
(acf F t f g h i j k l m n o p e q).bind λ a=>
(idx a.2.2.2.1 (ax (ax (d+3)+c))).bind λ u=>
RK F aQ d b (ax (c+1)) a.2.1.2.1 a.2.1.2.2.1 a.2.1.2.2.2.1 a.2.1.2.2.2.2.1 a.2.1.2.2.2.2.2.1 a.2.2.1.2.1 a.2.2.1.2.2.1 a.2.2.1.2.2.2.1 a.2.2.1.2.2.2.2.1 a.2.2.1.2.2.2.2.2.1 a.2.2.1.2.2.2.2.2.2.1 (List.set a.2.2.2.1 (ax (ax (d+3)+c)).toNat a.1.1) a.2.2.2.2.1) (
RK F aQ d b (ax (c+1)) f g h i j k l m n o p e q)) (
some ((),((),f,g,h,i,j,(),()),((),k,l,m,n,o,p,()),e,q,()))
noncomputable def aqk(F:Nat):aP aE:=(aqj F).fR 70 0 F ⟨[0,1,16,17],[.p (.B 0),.p (.i .i64),.p (.i .i64),.p (.i .i64)],[F_,F9,.r 3 true,.m 3 3],[⟨.nm,[],[],[F_,F9,.r 3 true,.m 3 3]⟩],λ k d=>RK F k d.1.2.1 d.1.2.2.1 d.1.2.2.2.1 d.2.1.2.1 d.2.1.2.2.1 d.2.1.2.2.2.1 d.2.1.2.2.2.2.1 d.2.1.2.2.2.2.2.1 d.2.2.1.2.1 d.2.2.1.2.2.1 d.2.2.1.2.2.2.1 d.2.2.1.2.2.2.2.1 d.2.2.1.2.2.2.2.2.1 d.2.2.1.2.2.2.2.2.2.1 d.2.2.2.1 d.2.2.2.2.1⟩ ⟨λ d=>by kernel_rfl,λ k da db=>by kernel_rfl⟩
def acg(F:Nat)(b:Int)(d:List ao)(e:List Int)(f:List (List I.Field))(g:List (List (List UInt8)))(h:List (List I.Target))(i:Int)(j:Int)(k:Int)(l:Int)(m:List Int)(n:Int)(c:List Int)(o:List (Int×Int)):Option aoe:=
 (idx c (ax (b+1))).bind λ p=>
(RK F F b p 0 d e f g h i j k l m n c o).bind λ a=>
some ((),((),a.2.1.2.1,a.2.1.2.2.1,a.2.1.2.2.2.1,a.2.1.2.2.2.2.1,a.2.1.2.2.2.2.2.1,(),()),((),a.2.2.1.2.1,a.2.2.1.2.2.1,a.2.2.1.2.2.2.1,a.2.2.1.2.2.2.2.1,a.2.2.1.2.2.2.2.2.1,a.2.2.1.2.2.2.2.2.2.1,()),a.2.2.2.1,a.2.2.2.2.1,())
noncomputable def aqm(F:Nat):aP aE:=(aqk F).fn 70 ⟨[.p (.B 0),.p (.i .i64)],[F_,F9,.r 3 true,.m 3 3],[],[F_,F9,.r 3 true,.m 3 3],λ d=>acg F d.1.2.1 d.2.1.2.1 d.2.1.2.2.1 d.2.1.2.2.2.1 d.2.1.2.2.2.2.1 d.2.1.2.2.2.2.2.1 d.2.2.1.2.1 d.2.2.1.2.2.1 d.2.2.1.2.2.2.1 d.2.2.1.2.2.2.2.1 d.2.2.1.2.2.2.2.2.1 d.2.2.1.2.2.2.2.2.2.1 d.2.2.2.1 d.2.2.2.2.1⟩ λ da db=>by kernel_rfl
def acb(F:Nat):Nat->(Int)->(List Int)->(Int)->(Int)->(Int)->(Int)->(Int)->(Int)->(List Int)->(Int)->(List Int)->(List ao)->(List Int)->(List (List I.Field))->(List (List (List UInt8)))->(List (List I.Target))->(List (Int×Int))->(List Int)->Option ((Unit×Unit×Int×Unit)×
 LA×List Int×RG×List (Int×Int)×List Int×Unit)
 |0,_,_,_,_,_,_,_,_,_,_,_,_,_,_,_,_,_,_=>none
 |aQ+1,c,d,DB,a,e,f,g,h,i,j,k,l,m,n,o,p,q,b=>
  cond (decide (a<DB)) ((idx d a).bind λ r=>
(idx b r).bind λ s=>
(acf F s l m n o p e f g h i j k q).bind λ kn=>
acb F aQ c d DB (ax (a+1)) kn.2.2.1.2.1 kn.2.2.1.2.2.1 kn.2.2.1.2.2.2.1 kn.2.2.1.2.2.2.2.1 kn.2.2.1.2.2.2.2.2.1 kn.2.2.1.2.2.2.2.2.2.1 kn.2.2.2.1 kn.2.1.2.1 kn.2.1.2.2.1 kn.2.1.2.2.2.1 kn.2.1.2.2.2.2.1 kn.2.1.2.2.2.2.2.1 kn.2.2.2.2.1 (b.set r.toNat kn.1.1)) (
some (((),(),c,()),((),e,f,g,h,i,j,()),k,((),l,m,n,o,p,(),()),q,b,()))
noncomputable def aqn(F:Nat):aP aE:=(aqm F).fR 38 0 F ⟨[0,6,7,22,23,24],[.p (.B 0),.p (.B 2),.p (.i .i64),.p (.P 4 1),.p (.i .i64),.p (.i .i64)],[zC,.r 3 true,Ga,.m 3 3,.r 3 true],[⟨.nm,[0,6,7],[.p (.B 0),.p (.B 2),.p (.i .i64)],[zC,.r 3 true,Ga,.m 3 3,.r 3 true]⟩],λ k d=>acb F k d.1.2.2.1 d.1.2.2.2.1 d.1.2.2.2.2.1 d.1.2.2.2.2.2.1 d.2.1.2.1 d.2.1.2.2.1 d.2.1.2.2.2.1 d.2.1.2.2.2.2.1 d.2.1.2.2.2.2.2.1 d.2.1.2.2.2.2.2.2.1 d.2.2.1 d.2.2.2.1.2.1 d.2.2.2.1.2.2.1 d.2.2.2.1.2.2.2.1 d.2.2.2.1.2.2.2.2.1 d.2.2.2.1.2.2.2.2.2.1 d.2.2.2.2.1 d.2.2.2.2.2.1⟩ ⟨λ d=>by kernel_rfl,λ k da db=>by kernel_rfl⟩
def acd(F:Nat):Nat->(Int)->(List Int)->(Int)->(Int)->(Int)->(Int)->(Int)->(Int)->(List Int)->(Int)->(List Int)->(List ao)->(List Int)->(List (List I.Field))->(List (List (List UInt8)))->(List (List I.Target))->(List (Int×Int))->Option ((Unit×Unit×Int×Unit)×
 LA×List Int×RG×List (Int×Int)×Unit)
 |0,_,_,_,_,_,_,_,_,_,_,_,_,_,_,_,_,_=>none
 |aQ+1,h,i,j,f,kP,k,l,m,n,o,p,q,QN,b,c,d,e=>
  cond (decide (f<j)) ((idx i f).bind λ g=>
(acg F g q QN b c d kP k l m n o p e).bind λ a=>
acd F aQ h i j (ax (f+1)) a.2.2.1.2.1 a.2.2.1.2.2.1 a.2.2.1.2.2.2.1 a.2.2.1.2.2.2.2.1 a.2.2.1.2.2.2.2.2.1 a.2.2.1.2.2.2.2.2.2.1 a.2.2.2.1 a.2.1.2.1 a.2.1.2.2.1 a.2.1.2.2.2.1 a.2.1.2.2.2.2.1 a.2.1.2.2.2.2.2.1 a.2.2.2.2.1) (
some (((),(),h,()),((),kP,k,l,m,n,o,()),p,((),q,QN,b,c,d,(),()),e,()))
noncomputable def aqo(F:Nat):aP aE:=(aqn F).fR 38 2 F ⟨[0,6,7,39,40,41],[.p (.B 0),.p (.B 2),.p (.i .i64),.p (.l 3),.p (.i .i64),.p (.i .i64)],[zC,.r 3 true,Ga,.m 3 3],[⟨.nm,[0,6,7],[.p (.B 0),.p (.B 2),.p (.i .i64)],[zC,.r 3 true,Ga,.m 3 3]⟩],λ k d=>acd F k d.1.2.2.1 d.1.2.2.2.1 d.1.2.2.2.2.1 d.1.2.2.2.2.2.1 d.2.1.2.1 d.2.1.2.2.1 d.2.1.2.2.2.1 d.2.1.2.2.2.2.1 d.2.1.2.2.2.2.2.1 d.2.1.2.2.2.2.2.2.1 d.2.2.1 d.2.2.2.1.2.1 d.2.2.2.1.2.2.1 d.2.2.2.1.2.2.2.1 d.2.2.2.1.2.2.2.2.1 d.2.2.2.1.2.2.2.2.2.1 d.2.2.2.2.1⟩ ⟨λ d=>by kernel_rfl,λ k da db=>by kernel_rfl⟩
def ace(F:Nat):Nat->(Int)->(Int)->(Int)->(Int)->(Int)->(List Int)->(Int)->(List Int)->(List ao)->(List Int)->(List (List I.Field))->(List (List (List UInt8)))->(List (List I.Target))->(List (Int×Int))->Option ((Unit×Unit)×LA×List Int×RG×List (Int×Int)×Unit)
 |0,_,_,_,_,_,_,_,_,_,_,_,_,_,_=>none
 |aQ+1,b,d,DL,e,c,f,g,h,i,j,k,l,m,n=>
  cond (decide (b<c)) ((acg F b i j k l m d DL e c f g h n).bind λ a=>
(idx a.2.2.2.1 (ax (b+1))).bind λ o=>
ace F aQ (ax (b+ax (3+o))) a.2.2.1.2.1 a.2.2.1.2.2.1 a.2.2.1.2.2.2.1 a.2.2.1.2.2.2.2.1 a.2.2.1.2.2.2.2.2.1 a.2.2.1.2.2.2.2.2.2.1 a.2.2.2.1 a.2.1.2.1 a.2.1.2.2.1 a.2.1.2.2.2.1 a.2.1.2.2.2.2.1 a.2.1.2.2.2.2.2.1 a.2.2.2.2.1) (
some (((),()),((),d,DL,e,c,f,g,()),h,((),i,j,k,l,m,(),()),n,()))
noncomputable def aqp(F:Nat):aP aE:=(aqo F).fR 38 4 F ⟨[0,6,12],[.p (.B 0),.p (.B 2),.p (.i .i64)],[zC,.r 3 true,Ga,.m 3 3],[⟨.nm,[0],[.p (.B 0)],[zC,.r 3 true,Ga,.m 3 3]⟩],λ k d=>ace F k d.1.2.2.1 d.2.1.2.1 d.2.1.2.2.1 d.2.1.2.2.2.1 d.2.1.2.2.2.2.1 d.2.1.2.2.2.2.2.1 d.2.1.2.2.2.2.2.2.1 d.2.2.1 d.2.2.2.1.2.1 d.2.2.2.1.2.2.1 d.2.2.2.1.2.2.2.1 d.2.2.2.1.2.2.2.2.1 d.2.2.2.1.2.2.2.2.2.1 d.2.2.2.2.1⟩ ⟨λ d=>by kernel_rfl,λ k da db=>by kernel_rfl⟩
def LB(F:Nat)(An:List ao)(f:List Int)(g:List (List I.Field))(h:List (List (List UInt8)))(i:List (List I.Target))(d:List Int)(j:Int)(k:Int)(l:Int)(e:Int)(m:List Int)(n:Int)(o:List Int)(p:List Int):Option (Unit×LA×List Int×List Int×Unit):=
 (acb F F e d (↑d.length:Int) 0 j k l e m n o An f g h i [] p).bind λ a=>
(acd F F a.1.2.2.1 a.2.1.2.2.2.2.2.1 (↑(iv a.2.1.2.2.2.2.2.1):Int) 0 a.2.1.2.1 a.2.1.2.2.1 a.2.1.2.2.2.1
 a.2.1.2.2.2.2.1 a.2.1.2.2.2.2.2.1 a.2.1.2.2.2.2.2.2.1 a.2.2.1 a.2.2.2.1.2.1 a.2.2.2.1.2.2.1 a.2.2.2.1.2.2.2.1
 a.2.2.2.1.2.2.2.2.1 a.2.2.2.1.2.2.2.2.2.1 a.2.2.2.2.1).bind λ b=>
(ace F F b.1.2.2.1 b.2.1.2.1 b.2.1.2.2.1 b.2.1.2.2.2.1 b.2.1.2.2.2.2.1 b.2.1.2.2.2.2.2.1 b.2.1.2.2.2.2.2.2.1 b.2.2.1
 b.2.2.2.1.2.1 b.2.2.2.1.2.2.1 b.2.2.2.1.2.2.2.1 b.2.2.2.1.2.2.2.2.1 b.2.2.2.1.2.2.2.2.2.1 b.2.2.2.2.1).bind λ c=>
(if(0 :Int)<=1/\1<=ax (c.2.1.2.1+1)/\ax (c.2.1.2.1+1)<=(↑(iv c.2.2.1):Int)then some ()else none).bind λ q=>
(C9 (decide (1<ax (c.2.1.2.1+1)))).bind λ r=>
some ((),((),c.2.1.2.1,c.2.1.2.2.1,1,c.2.1.2.2.2.2.1,([]),c.2.1.2.2.2.2.2.2.1,()),(gD c.2.2.1 (Int.toNat 1) (fN (ax (c.2.1.2.1+1)-1).toNat 0)),a.2.2.2.2.2.1,())
noncomputable def aqq(F:Nat):aP aE:=(aqp F).fn 38 ⟨[.p (.B 0),ajc,.p (.P 2 1)],[zC,.r 3 true,.r 3 true],[],[zC,.r 3 true,.r 3 true],λ d=>LB F d.1.2.1.1 d.1.2.1.2.1 d.1.2.1.2.2.1 d.1.2.1.2.2.2.1 d.1.2.1.2.2.2.2.1 d.1.2.2.1 d.2.1.2.1 d.2.1.2.2.1 d.2.1.2.2.2.1 d.2.1.2.2.2.2.1 d.2.1.2.2.2.2.2.1 d.2.1.2.2.2.2.2.2.1 d.2.2.1 d.2.2.2.1⟩ λ da db=>by kernel_rfl
def ab'(F:Nat)(h:List Int)(b:Int)(kR:Int)(c:Int)(d:Int)(i:List Int)(j:Int)(v:List ao)(w:List Int)(x:List (List I.Field))(y:List (List (List UInt8)))(z:List (List I.Target))(k:List Int):Option (((List Int×Int×Int×Int×Int×List Int×Int×Unit)×List Int×Int×Unit)×Unit):=
 di (jT (j' F (aU.mk h b kR c d i j) (aR.mk v w x y z))) (λ a=>
cond (decide (a.2=0)) ((Ec F
 (bj.mk (aU.mk a.1.H.Words a.1.H.au a.1.H.aN a.1.H.aX a.1.H.aW a.1.H.aV a.1.H.Next)
  (b9.mk (aR.mk a.1.S.K.a8 a.1.S.K.aZ a.1.S.K.Fields a.1.S.K.Names a.1.S.K.a1)) a.1.au a.1.aN a.1.dH)
 k).bind λ q=>
cond (decide (q=0)) (cond (decide (ax (ax (ax (ax (b+kR)+1)-d)-ax (c-1))<0)) (some (((([]),0,0,0,0,([]),0,()),([]),8,()),())) (
cond (!decide (q=0)) (some (((([]),0,0,0,0,([]),0,()),([]),q,()),())) (
(nZ (aU.mk h b kR c d i j)).bind λ l=>
(bF 8 [] k).bind λ r=>
(sN F (↑r.length:Int)).bind λ A=>
(LB F a.1.S.K.a8 a.1.S.K.aZ a.1.S.K.Fields a.1.S.K.Names a.1.S.K.a1 A l.au l.aN l.aX l.aW l.aV l.Next l.Words r).bind λ nn=>
some (((nn.2.2.1,nn.2.1.2.1,nn.2.1.2.2.1,nn.2.1.2.2.2.1,nn.2.1.2.2.2.2.1,nn.2.1.2.2.2.2.2.1,nn.2.1.2.2.2.2.2.2.1,()),nn.2.2.2.1,0,()),())))) (
cond (!decide (q=0)) (some (((([]),0,0,0,0,([]),0,()),([]),q,()),())) (
(nZ (aU.mk h b kR c d i j)).bind λ m=>
(bF 8 [] k).bind λ s=>
(sN F (↑s.length:Int)).bind λ B=>
(LB F a.1.S.K.a8 a.1.S.K.aZ a.1.S.K.Fields a.1.S.K.Names a.1.S.K.a1 B m.au m.aN m.aX m.aW m.aV m.Next m.Words s).bind λ e=>
some (((e.2.2.1,e.2.1.2.1,e.2.1.2.2.1,e.2.1.2.2.2.1,e.2.1.2.2.2.2.1,e.2.1.2.2.2.2.2.1,e.2.1.2.2.2.2.2.2.1,()),e.2.2.2.1,0,()),())))) (
cond (decide (a.2=0)) (cond (decide (ax (ax (ax (ax (b+kR)+1)-d)-ax (c-1))<0)) (some (((([]),0,0,0,0,([]),0,()),([]),8,()),())) (
cond (!decide (a.2=0)) (some (((([]),0,0,0,0,([]),0,()),([]),a.2,()),())) (
(nZ (aU.mk h b kR c d i j)).bind λ n=>
(bF 8 [] k).bind λ t=>
(sN F (↑t.length:Int)).bind λ C=>
(LB F a.1.S.K.a8 a.1.S.K.aZ a.1.S.K.Fields a.1.S.K.Names a.1.S.K.a1 C n.au n.aN n.aX n.aW n.aV n.Next n.Words t).bind λ f=>
some (((f.2.2.1,f.2.1.2.1,f.2.1.2.2.1,f.2.1.2.2.2.1,f.2.1.2.2.2.2.1,f.2.1.2.2.2.2.2.1,f.2.1.2.2.2.2.2.2.1,()),f.2.2.2.1,0,()),())))) (
cond (!decide (a.2=0)) (some (((([]),0,0,0,0,([]),0,()),([]),a.2,()),())) (
(nZ (aU.mk h b kR c d i j)).bind λ o=>
(bF 8 [] k).bind λ u=>
(sN F (↑u.length:Int)).bind λ D=>
(LB F a.1.S.K.a8 a.1.S.K.aZ a.1.S.K.Fields a.1.S.K.Names a.1.S.K.a1 D o.au o.aN o.aX o.aW o.aV o.Next o.Words u).bind λ g=>
some (((g.2.2.1,g.2.1.2.1,g.2.1.2.2.1,g.2.1.2.2.2.1,g.2.1.2.2.2.2.1,g.2.1.2.2.2.2.2.1,g.2.1.2.2.2.2.2.2.1,()),g.2.2.2.1,0,()),()))))) (λ p=>
cond (decide (p=0)) none (
cond (decide (p=0)) (cond (decide (ax (ax (ax (ax (b+kR)+1)-d)-ax (c-1))<0)) (some (((([]),0,0,0,0,([]),0,()),([]),8,()),())) (
cond (!decide (p=0)) (some (((([]),0,0,0,0,([]),0,()),([]),p,()),())) (
(nZ (aU.mk h b kR c d i j)).bind λ E=>
(bF 8 [] k).bind λ G=>
none))) (
cond (!decide (p=0)) (some (((([]),0,0,0,0,([]),0,()),([]),p,()),())) (
(nZ (aU.mk h b kR c d i j)).bind λ H=>
(bF 8 [] k).bind λ J=>
none))))
noncomputable def aqr(F:Nat):aP aE:=(aqq F).fn 12 ⟨[ajb,ajc,.p (.l 3)],[],[ajb,.p (.l 3),.p (.i .i64)],[],λ d=>ab' F d.1.1.1 d.1.1.2.1 d.1.1.2.2.1 d.1.1.2.2.2.1 d.1.1.2.2.2.2.1 d.1.1.2.2.2.2.2.1 d.1.1.2.2.2.2.2.2.1 d.1.2.1.1 d.1.2.1.2.1 d.1.2.1.2.2.1 d.1.2.1.2.2.2.1 d.1.2.1.2.2.2.2.1 d.1.2.2.1⟩ λ da db=>by kernel_rfl
def Bn(F:Nat):Nat->(List Int)->(Int)->(Int)->Option ((Int×Unit)×Unit⊕Unit×Unit)
 |0,_,_,_=>none
 |aQ+1,b,c,a=>
  cond (decide (a<(↑b.length:Int))) ((idx b a).bind λ d=>
cond (decide (d=c)) (some (.inl ((a,()),()))) (
Bn F aQ b c (ax (a+1)))) (
some (.inr ((),())))
noncomputable def aqs(F:Nat):aP aE:=(aqr F).fR 29 0 F ⟨[0,1,5],[.p (.l 3),.p (.i .i64),.p (.i .i64)],[],[⟨.rt,[4],[.p (.i .i64)],[]⟩,⟨.nm,[],[],[]⟩],λ k d=>Bn F k d.1.1 d.1.2.1 d.1.2.2.1⟩ ⟨λ d=>by kernel_rfl,λ k da db=>by kernel_rfl⟩
def Bm(F:Nat)(a:List Int)(b:Int):Option ((Int×Unit)×Unit):=
 di (Bn F F a b 0) (λ c=>
some ((c.1.1,()),())) (λ d=>
some (((-1),()),()))
noncomputable def aqt(F:Nat):aP aE:=(aqs F).fn 29 ⟨[.p (.l 3),.p (.i .i64)],[],[.p (.i .i64)],[],λ d=>Bm F d.1.1 d.1.2.1⟩ λ da db=>by kernel_rfl
noncomputable def aqu(F:Nat):aP aE:=(aqt F).BW 43
noncomputable def aqv(F:Nat):aP aE:=(aqu F).BW 29
end Go.Proofs.YteeliipnilghaaaGreat
namespace Go.Proofs.YteeliipnilghaaaGreat
open Go Go.RowKit aw I bc
set_option maxRecDepth 100000
@[reducible] def eL:bI:=.c 24 [.l 3,.i .i64,.i .i64,.i .i64,.i .i64,.l 3,.i .i64]
@[reducible] def Gc:bI:=.c 24 [.R 7,.i .i64,.i .i64,.i .i64,.i .i64,.l 3,.i .i64]
@[reducible] def Pc:bI:=.c 24 [.R 6,.i .i64,.i .i64,.i .i64,.i .i64,.l 3,.i .i64]
@[reducible] def J3:cL:=.a [.l 3,.i .i64,.i .i64,.i .i64,.i .i64,.l 3,.i .i64]
@[reducible] def jS:bI:=.c 30 [.l 134,.l 3,.l 124,.l 120,.l 121]
@[reducible] def X3:cL:=.a [.l 134,.l 3,.l 124,.l 120,.l 121]
abbrev aof:=(Unit×
 (List Int×Int×Int×Int×Int×List Int×Int×Unit)×
  (List ao×List Int×List (List I.Field)×List (List (List UInt8))×List (List I.Target)×Unit)×
   (Unit×Unit)×(List Int×Unit)×(Unit×Unit)×List Int×(Unit×Int×Int×Int×Int×List Int×Int×Unit)×List Int×Unit)
abbrev AN:=(List ao×List Int×List (List I.Field)×List (List (List UInt8))×List (List I.Target)×Unit)
abbrev aog:=(List Int×Unit×Unit×Unit×Unit×(Unit×Unit×Unit)×Int×Unit)
abbrev aoh:=(List Int×Unit×Unit×Unit×Unit×(Unit×Unit×Unit)×Unit)
abbrev j2:=(List Int×Int×Int×Int×Int×List Int×Int×Unit)
abbrev ab9:=(Unit×Int×Int×Int×Int×List Int×Int×Unit)
def Ss(F:Nat)(a:Int)(b:List Int)(c:List Int):Option ((Int×Unit)×(List Int×Unit)×(Unit×Unit)×List Int×Unit):=
 (Bm F b a).bind λ d=>
cond (decide (a=0)||decide (d.1.1<0)) (some ((a,()),(b,()),((),()),c,())) (
(idx c d.1.1).bind λ e=>
some ((e,()),(b,()),((),()),c,()))
noncomputable def aqx(F:Nat):aP aE:=(aqv F).fn 72 ⟨[.p (.i .i64),.p (.B 0),.p (.B 1)],[.c 22 [.l 3],.c 22 [.R 2],.r 3 true],[.p (.i .i64)],[.c 22 [.l 3],.c 22 [.R 2],.r 3 true],λ d=>Ss F d.1.1 d.2.1.1 d.2.2.2.1⟩ λ da db=>by kernel_rfl
def HL(F:Nat):Nat->(Int)->(Int)->(Int)->(List Int)->(Int)->(Int)->(Int)->(Int)->(List Int)->(Int)->(List ao)->(List Int)->(List (List I.Field))->(List (List (List UInt8)))->(List (List I.Target))->(List Int)->(List Int)->(Int)->(Int)->(Int)->(Int)->(List Int)->(Int)->(List Int)->Option aof
 |0,_,_,_,_,_,_,_,_,_,_,_,_,_,_,_,_,_,_,_,_,_,_,_,_=>none
 |aQ+1,e,b,a,c,k,l,m,n,o,p,f,g,h,i,j,q,r,s,t,u,v,w,x,d=>
  (idx c (ax (e+1))).bind λ A=>
cond (decide (a<ax (3+A))) ((idx c (ax (e+a))).bind λ y=>
cond (decide (3<=a)) ((idx c e).bind λ B=>
(s5 (aR.mk f g h i j) B (ax (a-3))).bind λ C=>
cond C ((Ss F y q r).bind λ z=>
(idx d (ax (b+a))).bind λ D=>
HL F aQ e b (ax (a+1)) c k l m n o p f g h i j z.2.1.1 z.2.2.2.1 s t u v w x (d.set (ax (b+a)).toNat z.1.1)) (
(idx d (ax (b+a))).bind λ E=>
HL F aQ e b (ax (a+1)) c k l m n o p f g h i j q r s t u v w x (d.set (ax (b+a)).toNat y))) (
(idx d (ax (b+a))).bind λ G=>
HL F aQ e b (ax (a+1)) c k l m n o p f g h i j q r s t u v w x (d.set (ax (b+a)).toNat y))) (
some ((),(c,k,l,m,n,o,p,()),(f,g,h,i,j,()),((),()),(q,()),((),()),r,((),s,t,u,v,w,x,()),d,()))
noncomputable def aqy(F:Nat):aP aE:=(aqx F).fR 73 0 F ⟨[0,1,2,3,4,5,8],[.p (.i .i64),.p (.i .i64),.p (.B 0),.p (.B 1),.p (.B 2),.p (.B 6),.p (.i .i64)],[eL,jS,.c 110 [.F 72 [3,4]],.c 22 [.l 3],.c 22 [.R 5],.r 3 true,Gc,.r 3 true],[⟨.nm,[],[],[eL,jS,.c 110 [.F 72 [3,4]],.c 22 [.l 3],.c 22 [.R 5],.r 3 true,Gc,.r 3 true]⟩],λ k d=>HL F k d.1.1 d.1.2.1 d.1.2.2.2.2.2.2.1 d.2.1.1 d.2.1.2.1 d.2.1.2.2.1 d.2.1.2.2.2.1 d.2.1.2.2.2.2.1 d.2.1.2.2.2.2.2.1 d.2.1.2.2.2.2.2.2.1 d.2.2.1.1 d.2.2.1.2.1 d.2.2.1.2.2.1 d.2.2.1.2.2.2.1 d.2.2.1.2.2.2.2.1 d.2.2.2.2.1.1 d.2.2.2.2.2.2.1 d.2.2.2.2.2.2.2.1.2.1 d.2.2.2.2.2.2.2.1.2.2.1 d.2.2.2.2.2.2.2.1.2.2.2.1 d.2.2.2.2.2.2.2.1.2.2.2.2.1 d.2.2.2.2.2.2.2.1.2.2.2.2.2.1 d.2.2.2.2.2.2.2.1.2.2.2.2.2.2.1 d.2.2.2.2.2.2.2.2.1⟩ ⟨λ d=>by kernel_rfl,λ k da db=>by kernel_rfl⟩
def St(F:Nat)(p:Int)(q:Int)(r:List Int)(s:Int)(t:Int)(u:Int)(v:Int)(w:List Int)(x:Int)(b:List ao)(c:List Int)(d:List (List I.Field))(e:List (List (List UInt8)))(f:List (List I.Target))(g:List Int)(h:List Int)(i:Int)(j:Int)(k:Int)(l:Int)(m:List Int)(n:Int)(o:List Int):Option aof:=
 (HL F F p q 0 r s t u v w x b c d e f g h i j k l m n o).bind λ a=>
some ((),(a.2.1.1,a.2.1.2.1,a.2.1.2.2.1,a.2.1.2.2.2.1,a.2.1.2.2.2.2.1,a.2.1.2.2.2.2.2.1,a.2.1.2.2.2.2.2.2.1,()),(a.2.2.1.1,a.2.2.1.2.1,a.2.2.1.2.2.1,a.2.2.1.2.2.2.1,a.2.2.1.2.2.2.2.1,()),((),()),(a.2.2.2.2.1.1,()),((),()),a.2.2.2.2.2.2.1,((),a.2.2.2.2.2.2.2.1.2.1,a.2.2.2.2.2.2.2.1.2.2.1,a.2.2.2.2.2.2.2.1.2.2.2.1,a.2.2.2.2.2.2.2.1.2.2.2.2.1,a.2.2.2.2.2.2.2.1.2.2.2.2.2.1,a.2.2.2.2.2.2.2.1.2.2.2.2.2.2.1,()),a.2.2.2.2.2.2.2.2.1,())
noncomputable def aqz(F:Nat):aP aE:=(aqy F).fn 73 ⟨[.p (.i .i64),.p (.i .i64),.p (.B 0),.p (.B 1),.p (.B 2),.p (.B 6)],[eL,jS,.c 110 [.F 72 [3,4]],.c 22 [.l 3],.c 22 [.R 5],.r 3 true,Gc,.r 3 true],[],[eL,jS,.c 110 [.F 72 [3,4]],.c 22 [.l 3],.c 22 [.R 5],.r 3 true,Gc,.r 3 true],λ d=>St F d.1.1 d.1.2.1 d.2.1.1 d.2.1.2.1 d.2.1.2.2.1 d.2.1.2.2.2.1 d.2.1.2.2.2.2.1 d.2.1.2.2.2.2.2.1 d.2.1.2.2.2.2.2.2.1 d.2.2.1.1 d.2.2.1.2.1 d.2.2.1.2.2.1 d.2.2.1.2.2.2.1 d.2.2.1.2.2.2.2.1 d.2.2.2.2.1.1 d.2.2.2.2.2.2.1 d.2.2.2.2.2.2.2.1.2.1 d.2.2.2.2.2.2.2.1.2.2.1 d.2.2.2.2.2.2.2.1.2.2.2.1 d.2.2.2.2.2.2.2.1.2.2.2.2.1 d.2.2.2.2.2.2.2.1.2.2.2.2.2.1 d.2.2.2.2.2.2.2.1.2.2.2.2.2.2.1 d.2.2.2.2.2.2.2.2.1⟩ λ da db=>by kernel_rfl
def Su(F:Nat):Nat->(Int)->(List Int)->(Int)->(Int)->(List Int)->(Int)->(Int)->(Int)->(Int)->(List Int)->(Int)->(List ao)->(List Int)->(List (List I.Field))->(List (List (List UInt8)))->(List (List I.Target))->(List Int)->(List Int)->(Int)->(Int)->(Int)->(Int)->(List Int)->(Int)->(List Int)->Option ((Int×List Int×Unit×Unit×Unit×Unit×Unit×Int×Unit)×
 j2×
  AN×(List Int×Unit)×j2×(Unit×Unit)×List Int×Unit)
 |0,_,_,_,_,_,_,_,_,_,_,_,_,_,_,_,_,_,_,_,_,_,_,_,_,_=>none
 |aQ+1,e,f,b,c,d,g,h,Ah,i,j,k,l,m,n,o,p,a,q,mc,r,s,t,u,v,w=>
  cond (decide (c<(↑a.length:Int))) ((bF 8 w [b]).bind λ x=>
(idx a c).bind λ kP=>
(idx d (ax (kP+1))).bind λ y=>
Su F aQ e f (ax (b+ax (3+y))) (ax (c+1)) d g h Ah i j k l m n o p a q mc r s t u v x) (
some ((e,f,(),(),(),(),(),b,()),(d,g,h,Ah,i,j,k,()),(l,m,n,o,p,()),(a,()),(q,mc,r,s,t,u,v,()),((),()),w,()))
noncomputable def aqA(F:Nat):aP aE:=(aqz F).fR 45 0 F ⟨[3,4,5,6,7,10,12,13,14],[.p (.i .i64),.p (.l 3),.p (.B 0),.p (.B 1),.p (.B 2),.p (.B 3),.p (.B 4),.p (.i .i64),.p (.i .i64)],[eL,jS,.c 22 [.l 3],eL,.c 22 [.R 5],.r 3 false],[⟨.nm,[3,4,5,6,7,10,12,13],[.p (.i .i64),.p (.l 3),.p (.B 0),.p (.B 1),.p (.B 2),.p (.B 3),.p (.B 4),.p (.i .i64)],[eL,jS,.c 22 [.l 3],eL,.c 22 [.R 5],.r 3 false]⟩],λ k d=>Su F k d.1.1 d.1.2.1 d.1.2.2.2.2.2.2.2.1 d.1.2.2.2.2.2.2.2.2.1 d.2.1.1 d.2.1.2.1 d.2.1.2.2.1 d.2.1.2.2.2.1 d.2.1.2.2.2.2.1 d.2.1.2.2.2.2.2.1 d.2.1.2.2.2.2.2.2.1 d.2.2.1.1 d.2.2.1.2.1 d.2.2.1.2.2.1 d.2.2.1.2.2.2.1 d.2.2.1.2.2.2.2.1 d.2.2.2.1.1 d.2.2.2.2.1.1 d.2.2.2.2.1.2.1 d.2.2.2.2.1.2.2.1 d.2.2.2.2.1.2.2.2.1 d.2.2.2.2.1.2.2.2.2.1 d.2.2.2.2.1.2.2.2.2.2.1 d.2.2.2.2.1.2.2.2.2.2.2.1 d.2.2.2.2.2.2.1⟩ ⟨λ d=>by kernel_rfl,λ k da db=>by kernel_rfl⟩
def Sv(F:Nat):Nat->(Int)->(List Int)->(Int)->(List Int)->(Int)->(Int)->(Int)->(Int)->(List Int)->(Int)->(List Int)->(List Int)->(Int)->(Int)->(Int)->(Int)->(List Int)->(Int)->(List Int)->(Int)->(Int)->(Int)->(Int)->(List Int)->(Int)->(List Int)->(List ao)->(List Int)->(List (List I.Field))->(List (List (List UInt8)))->(List (List I.Target))->Option ((List Int×Unit×Unit×Unit×Unit×Unit×(Unit×Unit×Unit×Unit×Unit)×Unit)×
 j2×
  (List Int×Unit)×
   j2×
    (Unit×Unit)×List Int×(Unit×Unit)×ab9×List Int×AN×Unit)
 |0,_,_,_,_,_,_,_,_,_,_,_,_,_,_,_,_,_,_,_,_,_,_,_,_,_,_,_,_,_,_,_=>none
 |aQ+1,c,d,b,e,f,g,h,i,j,k,l,An,m,n,o,p,q,r,s,t,u,v,w,x,y,z,A,B,C,D,E=>
  cond (decide (b<c)) ((St F b b e f g h i j k A B C D E l s t u v w x y z).bind λ a=>
(idx a.2.1.1 (ax (b+1))).bind λ kR=>
Sv F aQ c d (ax (b+ax (3+kR))) a.2.1.1 a.2.1.2.1 a.2.1.2.2.1 a.2.1.2.2.2.1 a.2.1.2.2.2.2.1 a.2.1.2.2.2.2.2.1 a.2.1.2.2.2.2.2.2.1 a.2.2.2.2.1.1 An m n o p q r a.2.2.2.2.2.2.1 a.2.2.2.2.2.2.2.1.2.1 a.2.2.2.2.2.2.2.1.2.2.1 a.2.2.2.2.2.2.2.1.2.2.2.1 a.2.2.2.2.2.2.2.1.2.2.2.2.1 a.2.2.2.2.2.2.2.1.2.2.2.2.2.1 a.2.2.2.2.2.2.2.1.2.2.2.2.2.2.1 a.2.2.2.2.2.2.2.2.1 a.2.2.1.1 a.2.2.1.2.1 a.2.2.1.2.2.1 a.2.2.1.2.2.2.1 a.2.2.1.2.2.2.2.1) (
some ((d,(),(),(),(),(),((),(),(),(),()),()),(e,f,g,h,i,j,k,()),(l,()),(An,m,n,o,p,q,r,()),((),()),s,((),()),((),t,u,v,w,x,y,()),z,(A,B,C,D,E,()),()))
noncomputable def aqB(F:Nat):aP aE:=(aqA F).fR 45 2 F ⟨[3,4,5,7,10,12,15,16,17,18],[.p (.i .i64),.p (.l 3),.p (.B 0),.p (.B 1),.p (.B 2),.p (.B 3),.p (.B 5),.p (.B 6),.f 73 [.B 0,.B 8,.B 5,.B 6],.p (.i .i64)],[eL,.c 22 [.l 3],eL,.c 22 [.R 4],.r 3 true,.c 110 [.F 72 [1,3]],Gc,.r 3 true,jS],[⟨.nm,[4,7,10,12,15,16,17],[.p (.l 3),.p (.B 1),.p (.B 2),.p (.B 3),.p (.B 5),.p (.B 6),.f 73 [.B 0,.B 8,.B 5,.B 6]],[eL,.c 22 [.l 3],eL,.c 22 [.R 4],.r 3 true,.c 110 [.F 72 [1,3]],Gc,.r 3 true,jS]⟩],λ k d=>Sv F k d.1.1 d.1.2.1 d.1.2.2.2.2.2.2.2.2.2.1 d.2.1.1 d.2.1.2.1 d.2.1.2.2.1 d.2.1.2.2.2.1 d.2.1.2.2.2.2.1 d.2.1.2.2.2.2.2.1 d.2.1.2.2.2.2.2.2.1 d.2.2.1.1 d.2.2.2.1.1 d.2.2.2.1.2.1 d.2.2.2.1.2.2.1 d.2.2.2.1.2.2.2.1 d.2.2.2.1.2.2.2.2.1 d.2.2.2.1.2.2.2.2.2.1 d.2.2.2.1.2.2.2.2.2.2.1 d.2.2.2.2.2.1 d.2.2.2.2.2.2.2.1.2.1 d.2.2.2.2.2.2.2.1.2.2.1 d.2.2.2.2.2.2.2.1.2.2.2.1 d.2.2.2.2.2.2.2.1.2.2.2.2.1 d.2.2.2.2.2.2.2.1.2.2.2.2.2.1 d.2.2.2.2.2.2.2.1.2.2.2.2.2.2.1 d.2.2.2.2.2.2.2.2.1 d.2.2.2.2.2.2.2.2.2.1.1 d.2.2.2.2.2.2.2.2.2.1.2.1 d.2.2.2.2.2.2.2.2.2.1.2.2.1 d.2.2.2.2.2.2.2.2.2.1.2.2.2.1 d.2.2.2.2.2.2.2.2.2.1.2.2.2.2.1⟩ ⟨λ d=>by kernel_rfl,λ k da db=>by kernel_rfl⟩
def Sw(F:Nat):Nat->(List Int)->(Int)->(List Int)->(List Int)->(Int)->(Int)->(Int)->(Int)->(List Int)->(Int)->(List Int)->(Int)->(Int)->(Int)->(Int)->(List Int)->(Int)->(List Int)->(List Int)->(Int)->(Int)->(Int)->(Int)->(List Int)->(Int)->(List ao)->(List Int)->(List (List I.Field))->(List (List (List UInt8)))->(List (List I.Target))->Option ((List Int×Unit×Unit×Unit×Unit)×
 (List Int×Unit)×
  j2×
   (Unit×Unit)×
    List Int×
     (Unit×Unit)×
      ab9×
       List Int×j2×AN×Unit)
 |0,_,_,_,_,_,_,_,_,_,_,_,_,_,_,_,_,_,_,_,_,_,_,_,_,_,_,_,_,_,_=>none
 |aQ+1,w,r,s,x,y,z,A,B,C,D,t,E,G,H,b,c,d,e,f,g,h,i,j,k,l,m,n,o,p,q=>
  cond (decide (r<(↑s.length:Int))) ((idx s r).bind λ u=>
(idx t r).bind λ v=>
(St F u v f g h i j k l m n o p q s t E G H b c d e).bind λ a=>
Sw F aQ w (ax (r+1)) a.2.2.2.2.1.1 x y z A B C D a.2.2.2.2.2.2.1 a.2.2.2.2.2.2.2.1.2.1 a.2.2.2.2.2.2.2.1.2.2.1 a.2.2.2.2.2.2.2.1.2.2.2.1 a.2.2.2.2.2.2.2.1.2.2.2.2.1 a.2.2.2.2.2.2.2.1.2.2.2.2.2.1 a.2.2.2.2.2.2.2.1.2.2.2.2.2.2.1 a.2.2.2.2.2.2.2.2.1 a.2.1.1 a.2.1.2.1 a.2.1.2.2.1 a.2.1.2.2.2.1 a.2.1.2.2.2.2.1 a.2.1.2.2.2.2.2.1 a.2.1.2.2.2.2.2.2.1 a.2.2.1.1 a.2.2.1.2.1 a.2.2.1.2.2.1 a.2.2.1.2.2.2.1 a.2.2.1.2.2.2.2.1) (
some ((w,(),(),(),()),(s,()),(x,y,z,A,B,C,D,()),((),()),t,((),()),((),E,G,H,b,c,d,()),e,(f,g,h,i,j,k,l,()),(m,n,o,p,q,()),()))
noncomputable def aqC(F:Nat):aP aE:=(aqB F).fR 45 4 F ⟨[4,7,10,12,15,16,17,19],[.p (.l 3),.p (.B 0),.p (.B 1),.p (.B 2),.p (.B 4),.p (.B 5),.f 73 [.B 7,.B 8,.B 4,.B 5],.p (.i .i64)],[.c 22 [.l 3],eL,.c 22 [.R 3],.r 3 true,.c 110 [.F 72 [0,2]],Pc,.r 3 true,eL,jS],[⟨.nm,[4,10,15,16],[.p (.l 3),.p (.B 1),.p (.B 4),.p (.B 5)],[.c 22 [.l 3],eL,.c 22 [.R 3],.r 3 true,.c 110 [.F 72 [0,2]],Pc,.r 3 true,eL,jS]⟩],λ k d=>Sw F k d.1.1 d.1.2.2.2.2.2.2.2.1 d.2.1.1 d.2.2.1.1 d.2.2.1.2.1 d.2.2.1.2.2.1 d.2.2.1.2.2.2.1 d.2.2.1.2.2.2.2.1 d.2.2.1.2.2.2.2.2.1 d.2.2.1.2.2.2.2.2.2.1 d.2.2.2.2.1 d.2.2.2.2.2.2.1.2.1 d.2.2.2.2.2.2.1.2.2.1 d.2.2.2.2.2.2.1.2.2.2.1 d.2.2.2.2.2.2.1.2.2.2.2.1 d.2.2.2.2.2.2.1.2.2.2.2.2.1 d.2.2.2.2.2.2.1.2.2.2.2.2.2.1 d.2.2.2.2.2.2.2.1 d.2.2.2.2.2.2.2.2.1.1 d.2.2.2.2.2.2.2.2.1.2.1 d.2.2.2.2.2.2.2.2.1.2.2.1 d.2.2.2.2.2.2.2.2.1.2.2.2.1 d.2.2.2.2.2.2.2.2.1.2.2.2.2.1 d.2.2.2.2.2.2.2.2.1.2.2.2.2.2.1 d.2.2.2.2.2.2.2.2.1.2.2.2.2.2.2.1 d.2.2.2.2.2.2.2.2.2.1.1 d.2.2.2.2.2.2.2.2.2.1.2.1 d.2.2.2.2.2.2.2.2.2.1.2.2.1 d.2.2.2.2.2.2.2.2.2.1.2.2.2.1 d.2.2.2.2.2.2.2.2.2.1.2.2.2.2.1⟩ ⟨λ d=>by kernel_rfl,λ k da db=>by kernel_rfl⟩
def Sx(F:Nat):Nat->(List Int)->(Int)->(List Int)->(Int)->(Int)->(Int)->(Int)->(List Int)->(Int)->(List Int)->(List Int)->(Int)->(Int)->(Int)->(Int)->(List Int)->(Int)->(List Int)->(List Int)->Option ((Unit×Unit×Unit×Unit)×j2×(Unit×Unit)×(List Int×Unit)×(Unit×Unit)×List Int×ab9×List Int×List Int×Unit)
 |0,_,_,_,_,_,_,_,_,_,_,_,_,_,_,_,_,_,_,_=>none
 |aQ+1,a,b,d,e,f,g,h,i,j,k,l,m,n,o,p,q,r,s,t=>
  cond (decide (b<(↑a.length:Int))) ((idx a b).bind λ u=>
(Ss F u k l).bind λ c=>
(bF 8 t [c.1.1]).bind λ v=>
Sx F aQ a (ax (b+1)) d e f g h i j c.2.1.1 c.2.2.2.1 m n o p q r s v) (
some (((),(),(),()),(d,e,f,g,h,i,j,()),((),()),(k,()),((),()),l,((),m,n,o,p,q,r,()),s,t,()))
noncomputable def aqD(F:Nat):aP aE:=(aqC F).fR 45 6 F ⟨[4,10,15,16,20,21],[.p (.l 3),.p (.B 0),.p (.B 1),.p (.B 5),.p (.R 7),.p (.i .i64)],[eL,.c 110 [.F 72 [2,3]],.c 22 [.l 3],.c 22 [.R 4],.r 3 true,Pc,.r 3 true,.r 3 false],[⟨.nm,[10,16,20],[.p (.B 0),.p (.B 5),.p (.R 7)],[eL,.c 110 [.F 72 [2,3]],.c 22 [.l 3],.c 22 [.R 4],.r 3 true,Pc,.r 3 true,.r 3 false]⟩],λ k d=>Sx F k d.1.1 d.1.2.2.2.2.2.1 d.2.1.1 d.2.1.2.1 d.2.1.2.2.1 d.2.1.2.2.2.1 d.2.1.2.2.2.2.1 d.2.1.2.2.2.2.2.1 d.2.1.2.2.2.2.2.2.1 d.2.2.2.1.1 d.2.2.2.2.2.1 d.2.2.2.2.2.2.1.2.1 d.2.2.2.2.2.2.1.2.2.1 d.2.2.2.2.2.2.1.2.2.2.1 d.2.2.2.2.2.2.1.2.2.2.2.1 d.2.2.2.2.2.2.1.2.2.2.2.2.1 d.2.2.2.2.2.2.1.2.2.2.2.2.2.1 d.2.2.2.2.2.2.2.1 d.2.2.2.2.2.2.2.2.1⟩ ⟨λ d=>by kernel_rfl,λ k da db=>by kernel_rfl⟩
def acQ(F:Nat)(f:List Int)(g:Int)(h:Int)(i:Int)(j:Int)(k:List Int)(l:Int)(m:List ao)(n:List Int)(o:List (List I.Field))(p:List (List (List UInt8)))(q:List (List I.Target))(r:List Int)(e:Int)(s:List Int):Option ((j2×List Int×Unit)×Unit):=
 (Su F F e s e 0 f g h i j k l m n o p q r [] 0 0 0 0 [] 0 []).bind λ a=>
(za 0 8 (↑(iv a.2.1.1):Int)).bind λ t=>
(Sv F F a.1.1 a.1.2.1 (ax (a.2.1.2.1+1)) a.2.1.1 a.2.1.2.1 a.2.1.2.2.1 a.2.1.2.2.2.1 a.2.1.2.2.2.2.1
 a.2.1.2.2.2.2.2.1 a.2.1.2.2.2.2.2.2.1 a.2.2.2.1.1 a.2.2.2.2.1.1 a.2.2.2.2.1.2.1 a.2.2.2.2.1.2.2.1
 a.2.2.2.2.1.2.2.2.1 a.2.2.2.2.1.2.2.2.2.1 a.2.2.2.2.1.2.2.2.2.2.1 a.2.2.2.2.1.2.2.2.2.2.2.1 a.2.2.2.2.2.2.1
 a.2.1.2.1 a.2.1.2.2.1 1 a.1.2.2.2.2.2.2.2.1 [] a.2.1.2.2.2.2.2.2.1 t a.2.2.1.1 a.2.2.1.2.1 a.2.2.1.2.2.1
 a.2.2.1.2.2.2.1 a.2.2.1.2.2.2.2.1).bind λ b=>
(Sw F F b.1.1 0 b.2.2.1.1 b.2.2.2.1.1 b.2.2.2.1.2.1 b.2.2.2.1.2.2.1 b.2.2.2.1.2.2.2.1 b.2.2.2.1.2.2.2.2.1
 b.2.2.2.1.2.2.2.2.2.1 b.2.2.2.1.2.2.2.2.2.2.1 b.2.2.2.2.2.1 b.2.2.2.2.2.2.2.1.2.1 b.2.2.2.2.2.2.2.1.2.2.1
 b.2.2.2.2.2.2.2.1.2.2.2.1 b.2.2.2.2.2.2.2.1.2.2.2.2.1 b.2.2.2.2.2.2.2.1.2.2.2.2.2.1 b.2.2.2.2.2.2.2.1.2.2.2.2.2.2.1
 b.2.2.2.2.2.2.2.2.1 b.2.1.1 b.2.1.2.1 b.2.1.2.2.1 b.2.1.2.2.2.1 b.2.1.2.2.2.2.1 b.2.1.2.2.2.2.2.1
 b.2.1.2.2.2.2.2.2.1 b.2.2.2.2.2.2.2.2.2.1.1 b.2.2.2.2.2.2.2.2.2.1.2.1 b.2.2.2.2.2.2.2.2.2.1.2.2.1
 b.2.2.2.2.2.2.2.2.2.1.2.2.2.1 b.2.2.2.2.2.2.2.2.2.1.2.2.2.2.1).bind λ c=>
(Sx F F c.1.1 0 c.2.2.1.1 c.2.2.1.2.1 c.2.2.1.2.2.1 c.2.2.1.2.2.2.1 c.2.2.1.2.2.2.2.1 c.2.2.1.2.2.2.2.2.1
 c.2.2.1.2.2.2.2.2.2.1 c.2.1.1 c.2.2.2.2.1 c.2.2.2.2.2.2.1.2.1 c.2.2.2.2.2.2.1.2.2.1 c.2.2.2.2.2.2.1.2.2.2.1
 c.2.2.2.2.2.2.1.2.2.2.2.1 c.2.2.2.2.2.2.1.2.2.2.2.2.1 c.2.2.2.2.2.2.1.2.2.2.2.2.2.1 c.2.2.2.2.2.2.2.1 []).bind λ d=>
some (((d.2.2.2.2.2.2.2.1,d.2.2.2.2.2.2.1.2.1,d.2.2.2.2.2.2.1.2.2.1,d.2.2.2.2.2.2.1.2.2.2.1,d.2.2.2.2.2.2.1.2.2.2.2.1,d.2.2.2.2.2.2.1.2.2.2.2.2.1,d.2.2.2.2.2.2.1.2.2.2.2.2.2.1,()),d.2.2.2.2.2.2.2.2.1,()),())
noncomputable def aqE(F:Nat):aP aE:=(aqD F).fn 45 ⟨[J3,X3,.p (.l 3),.p (.i .i64),.p (.l 3)],[],[J3,.p (.l 3)],[],λ d=>acQ F d.1.1.1 d.1.1.2.1 d.1.1.2.2.1 d.1.1.2.2.2.1 d.1.1.2.2.2.2.1 d.1.1.2.2.2.2.2.1 d.1.1.2.2.2.2.2.2.1 d.1.2.1.1 d.1.2.1.2.1 d.1.2.1.2.2.1 d.1.2.1.2.2.2.1 d.1.2.1.2.2.2.2.1 d.1.2.2.1 d.1.2.2.2.1 d.1.2.2.2.2.1⟩ λ da db=>by kernel_rfl
def HH(F:Nat)(g:Int)(a:List Int)(h:Int)(b:Int)(c:Int)(d:Int)(e:List Int)(f:Int)(i:List Int):Option (Unit×j2×(Unit×Unit)×List Int×Unit):=
 cond (decide (1<=g)&&decide (g<=h)) ((kW F i g).bind λ j=>
cond (!j) ((bF 8 i [g]).bind λ k=>
some ((),(a,h,b,c,d,e,f,()),((),()),k,())) (
some ((),(a,h,b,c,d,e,f,()),((),()),i,()))) (
some ((),(a,h,b,c,d,e,f,()),((),()),i,()))
noncomputable def aqF(F:Nat):aP aE:=(aqE F).fn 41 ⟨[.p (.i .i64),.p (.B 0),.p (.B 1)],[eL,.c 22 [.R 2],.r 3 false],[],[eL,.c 22 [.R 2],.r 3 false],λ d=>HH F d.1.1 d.2.1.1 d.2.1.2.1 d.2.1.2.2.1 d.2.1.2.2.2.1 d.2.1.2.2.2.2.1 d.2.1.2.2.2.2.2.1 d.2.1.2.2.2.2.2.2.1 d.2.2.2.1⟩ λ da db=>by kernel_rfl
def Sl(F:Nat):Nat->(List Int)->(Int)->(List Int)->(Int)->(Int)->(Int)->(Int)->(List Int)->(Int)->(List ao)->(List Int)->(List (List I.Field))->(List (List (List UInt8)))->(List (List I.Target))->(List Int)->(Int)->(Int)->(Int)->(Int)->(List Int)->(Int)->(List Int)->Option (aoh×
 j2×
  AN×j2×(Unit×Unit)×List Int×Unit)
 |0,_,_,_,_,_,_,_,_,_,_,_,_,_,_,_,_,_,_,_,_,_,_=>none
 |aQ+1,w,b,c,d,e,f,g,h,i,j,k,l,m,n,o,p,q,r,s,t,u,v=>
  cond (decide (b<(↑w.length:Int))) ((idx w b).bind λ x=>
(HH F x c d e f g h i v).bind λ a=>
Sl F aQ w (ax (b+1)) a.2.1.1 a.2.1.2.1 a.2.1.2.2.1 a.2.1.2.2.2.1 a.2.1.2.2.2.2.1 a.2.1.2.2.2.2.2.1 a.2.1.2.2.2.2.2.2.1 j k l m n o p q r s t u a.2.2.2.1) (
some ((w,(),(),(),(),((),(),()),()),(c,d,e,f,g,h,i,()),(j,k,l,m,n,()),(o,p,q,r,s,t,u,()),((),()),v,()))
noncomputable def aqG(F:Nat):aP aE:=(aqF F).fR 15 0 F ⟨[2,3,4,6,8,9,10],[.p (.l 3),.p (.B 0),.p (.B 1),.p (.B 2),.p (.B 3),.f 41 [.B 0,.B 3],.p (.i .i64)],[eL,jS,eL,.c 22 [.R 4],.r 3 false],[⟨.nm,[2,3,4,6,8,9],[.p (.l 3),.p (.B 0),.p (.B 1),.p (.B 2),.p (.B 3),.f 41 [.B 0,.B 3]],[eL,jS,eL,.c 22 [.R 4],.r 3 false]⟩],λ k d=>Sl F k d.1.1 d.1.2.2.2.2.2.2.1 d.2.1.1 d.2.1.2.1 d.2.1.2.2.1 d.2.1.2.2.2.1 d.2.1.2.2.2.2.1 d.2.1.2.2.2.2.2.1 d.2.1.2.2.2.2.2.2.1 d.2.2.1.1 d.2.2.1.2.1 d.2.2.1.2.2.1 d.2.2.1.2.2.2.1 d.2.2.1.2.2.2.2.1 d.2.2.2.1.1 d.2.2.2.1.2.1 d.2.2.2.1.2.2.1 d.2.2.2.1.2.2.2.1 d.2.2.2.1.2.2.2.2.1 d.2.2.2.1.2.2.2.2.2.1 d.2.2.2.1.2.2.2.2.2.2.1 d.2.2.2.2.2.1⟩ ⟨λ d=>by kernel_rfl,λ k da db=>by kernel_rfl⟩
def Sn(F:Nat):Nat->(List Int)->(Int)->(List Int)->(Int)->(List Int)->(Int)->(Int)->(Int)->(Int)->(List Int)->(Int)->(List ao)->(List Int)->(List (List I.Field))->(List (List (List UInt8)))->(List (List I.Target))->(List Int)->(Int)->(Int)->(Int)->(Int)->(List Int)->(Int)->(List Int)->Option (aog×
 j2×
  AN×j2×(Unit×Unit)×List Int×Unit)
 |0,_,_,_,_,_,_,_,_,_,_,_,_,_,_,_,_,_,_,_,_,_,_,_,_=>none
 |aQ+1,e,f,b,c,d,g,h,i,j,k,l,m,n,o,p,q,r,s,t,u,v,w,x,y=>
  cond (decide (c<(↑b.length:Int))) ((idx b c).bind λ z=>
(idx d z).bind λ A=>
(HH F A d g h i j k l y).bind λ a=>
Sn F aQ e f b (ax (c+1)) a.2.1.1 a.2.1.2.1 a.2.1.2.2.1 a.2.1.2.2.2.1 a.2.1.2.2.2.2.1 a.2.1.2.2.2.2.2.1 a.2.1.2.2.2.2.2.2.1 m n o p q r s t u v w x a.2.2.2.1) (
some ((e,(),(),(),(),((),(),()),f,()),(d,g,h,i,j,k,l,()),(m,n,o,p,q,()),(r,s,t,u,v,w,x,()),((),()),y,()))
noncomputable def aqI(F:Nat):aP aE:=(aqG F).fR 15 4 F ⟨[2,3,4,6,8,9,11,12,13],[.p (.l 3),.p (.B 0),.p (.B 1),.p (.B 2),.p (.B 3),.f 41 [.B 0,.B 3],.p (.i .i64),.p (.l 3),.p (.i .i64)],[eL,jS,eL,.c 22 [.R 4],.r 3 false],[⟨.nm,[2,3,4,6,8,9,11],[.p (.l 3),.p (.B 0),.p (.B 1),.p (.B 2),.p (.B 3),.f 41 [.B 0,.B 3],.p (.i .i64)],[eL,jS,eL,.c 22 [.R 4],.r 3 false]⟩],λ k d=>Sn F k d.1.1 d.1.2.2.2.2.2.2.1 d.1.2.2.2.2.2.2.2.1 d.1.2.2.2.2.2.2.2.2.1 d.2.1.1 d.2.1.2.1 d.2.1.2.2.1 d.2.1.2.2.2.1 d.2.1.2.2.2.2.1 d.2.1.2.2.2.2.2.1 d.2.1.2.2.2.2.2.2.1 d.2.2.1.1 d.2.2.1.2.1 d.2.2.1.2.2.1 d.2.2.1.2.2.2.1 d.2.2.1.2.2.2.2.1 d.2.2.2.1.1 d.2.2.2.1.2.1 d.2.2.2.1.2.2.1 d.2.2.2.1.2.2.2.1 d.2.2.2.1.2.2.2.2.1 d.2.2.2.1.2.2.2.2.2.1 d.2.2.2.1.2.2.2.2.2.2.1 d.2.2.2.2.2.1⟩ ⟨λ d=>by kernel_rfl,λ k da db=>by kernel_rfl⟩
def Sm(F:Nat):Nat->(List Int)->(Int)->(List Int)->(Int)->(Int)->(Int)->(Int)->(List Int)->(Int)->(List ao)->(List Int)->(List (List I.Field))->(List (List (List UInt8)))->(List (List I.Target))->(List Int)->(Int)->(Int)->(Int)->(Int)->(List Int)->(Int)->(List Int)->Option (aoh×
 j2×
  AN×j2×(Unit×Unit)×List Int×Unit)
 |0,_,_,_,_,_,_,_,_,_,_,_,_,_,_,_,_,_,_,_,_,_,_=>none
 |aQ+1,n,b,c,d,e,f,g,o,h,i,j,k,l,m,p,q,r,s,t,u,v,w=>
  cond (decide (b<(↑o.length:Int))) ((idx o b).bind λ x=>
(oU F (aU.mk c d e f g o h) (aR.mk i j k l m) x).bind λ y=>
(Sn F F n b y 0 c d e f g o h i j k l m p q r s t u v w).bind λ a=>
Sm F aQ a.1.1 (ax (a.1.2.2.2.2.2.2.1+1)) a.2.1.1 a.2.1.2.1 a.2.1.2.2.1 a.2.1.2.2.2.1 a.2.1.2.2.2.2.1 a.2.1.2.2.2.2.2.1 a.2.1.2.2.2.2.2.2.1 a.2.2.1.1 a.2.2.1.2.1 a.2.2.1.2.2.1 a.2.2.1.2.2.2.1 a.2.2.1.2.2.2.2.1 a.2.2.2.1.1 a.2.2.2.1.2.1 a.2.2.2.1.2.2.1 a.2.2.2.1.2.2.2.1 a.2.2.2.1.2.2.2.2.1 a.2.2.2.1.2.2.2.2.2.1 a.2.2.2.1.2.2.2.2.2.2.1 a.2.2.2.2.2.1) (
some ((n,(),(),(),(),((),(),()),()),(c,d,e,f,g,o,h,()),(i,j,k,l,m,()),(p,q,r,s,t,u,v,()),((),()),w,()))
noncomputable def aqJ(F:Nat):aP aE:=(aqI F).fR 15 2 F ⟨[2,3,4,6,8,9,11],[.p (.l 3),.p (.B 0),.p (.B 1),.p (.B 2),.p (.B 3),.f 41 [.B 0,.B 3],.p (.i .i64)],[eL,jS,eL,.c 22 [.R 4],.r 3 false],[⟨.nm,[2,3,4,6,8,9],[.p (.l 3),.p (.B 0),.p (.B 1),.p (.B 2),.p (.B 3),.f 41 [.B 0,.B 3]],[eL,jS,eL,.c 22 [.R 4],.r 3 false]⟩],λ k d=>Sm F k d.1.1 d.1.2.2.2.2.2.2.1 d.2.1.1 d.2.1.2.1 d.2.1.2.2.1 d.2.1.2.2.2.1 d.2.1.2.2.2.2.1 d.2.1.2.2.2.2.2.1 d.2.1.2.2.2.2.2.2.1 d.2.2.1.1 d.2.2.1.2.1 d.2.2.1.2.2.1 d.2.2.1.2.2.2.1 d.2.2.1.2.2.2.2.1 d.2.2.2.1.1 d.2.2.2.1.2.1 d.2.2.2.1.2.2.1 d.2.2.2.1.2.2.2.1 d.2.2.2.1.2.2.2.2.1 d.2.2.2.1.2.2.2.2.2.1 d.2.2.2.1.2.2.2.2.2.2.1 d.2.2.2.2.2.1⟩ ⟨λ d=>by kernel_rfl,λ k da db=>by kernel_rfl⟩
def Sq(F:Nat):Nat->(List Int)->(Int)->(List Int)->(Int)->(List Int)->(Int)->(Int)->(Int)->(Int)->(List Int)->(Int)->(List ao)->(List Int)->(List (List I.Field))->(List (List (List UInt8)))->(List (List I.Target))->(List Int)->(Int)->(Int)->(Int)->(Int)->(List Int)->(Int)->(List Int)->Option (aog×
 j2×
  AN×j2×(Unit×Unit)×List Int×Unit)
 |0,_,_,_,_,_,_,_,_,_,_,_,_,_,_,_,_,_,_,_,_,_,_,_,_=>none
 |aQ+1,e,f,b,c,d,g,h,i,j,k,l,m,n,o,p,q,r,s,t,u,v,w,x,y=>
  cond (decide (c<(↑b.length:Int))) ((idx b c).bind λ z=>
(idx d z).bind λ A=>
(HH F A d g h i j k l y).bind λ a=>
Sq F aQ e f b (ax (c+1)) a.2.1.1 a.2.1.2.1 a.2.1.2.2.1 a.2.1.2.2.2.1 a.2.1.2.2.2.2.1 a.2.1.2.2.2.2.2.1 a.2.1.2.2.2.2.2.2.1 m n o p q r s t u v w x a.2.2.2.1) (
some ((e,(),(),(),(),((),(),()),f,()),(d,g,h,i,j,k,l,()),(m,n,o,p,q,()),(r,s,t,u,v,w,x,()),((),()),y,()))
noncomputable def aqK(F:Nat):aP aE:=(aqJ F).fR 15 8 F ⟨[2,3,4,6,8,9,14,15,16],[.p (.l 3),.p (.B 0),.p (.B 1),.p (.B 2),.p (.B 3),.f 41 [.B 0,.B 3],.p (.i .i64),.p (.l 3),.p (.i .i64)],[eL,jS,eL,.c 22 [.R 4],.r 3 false],[⟨.nm,[2,3,4,6,8,9,14],[.p (.l 3),.p (.B 0),.p (.B 1),.p (.B 2),.p (.B 3),.f 41 [.B 0,.B 3],.p (.i .i64)],[eL,jS,eL,.c 22 [.R 4],.r 3 false]⟩],λ k d=>Sq F k d.1.1 d.1.2.2.2.2.2.2.1 d.1.2.2.2.2.2.2.2.1 d.1.2.2.2.2.2.2.2.2.1 d.2.1.1 d.2.1.2.1 d.2.1.2.2.1 d.2.1.2.2.2.1 d.2.1.2.2.2.2.1 d.2.1.2.2.2.2.2.1 d.2.1.2.2.2.2.2.2.1 d.2.2.1.1 d.2.2.1.2.1 d.2.2.1.2.2.1 d.2.2.1.2.2.2.1 d.2.2.1.2.2.2.2.1 d.2.2.2.1.1 d.2.2.2.1.2.1 d.2.2.2.1.2.2.1 d.2.2.2.1.2.2.2.1 d.2.2.2.1.2.2.2.2.1 d.2.2.2.1.2.2.2.2.2.1 d.2.2.2.1.2.2.2.2.2.2.1 d.2.2.2.2.2.1⟩ ⟨λ d=>by kernel_rfl,λ k da db=>by kernel_rfl⟩
def Sp(F:Nat):Nat->(List Int)->(Int)->(List Int)->(Int)->(Int)->(Int)->(Int)->(List Int)->(Int)->(List ao)->(List Int)->(List (List I.Field))->(List (List (List UInt8)))->(List (List I.Target))->(List Int)->(Int)->(Int)->(Int)->(Int)->(List Int)->(Int)->(List Int)->Option ((List Int×Unit×Unit×Unit×Unit×Unit)×
 j2×
  AN×j2×(Unit×Unit)×List Int×Unit)
 |0,_,_,_,_,_,_,_,_,_,_,_,_,_,_,_,_,_,_,_,_,_,_=>none
 |aQ+1,o,b,c,d,e,f,g,h,i,j,k,l,m,n,p,q,r,s,t,u,v,w=>
  cond (decide (b<(↑w.length:Int))) ((idx w b).bind λ x=>
(oU F (aU.mk c d e f g h i) (aR.mk j k l m n) x).bind λ y=>
(Sq F F o b y 0 c d e f g h i j k l m n p q r s t u v w).bind λ a=>
Sp F aQ a.1.1 (ax (a.1.2.2.2.2.2.2.1+1)) a.2.1.1 a.2.1.2.1 a.2.1.2.2.1 a.2.1.2.2.2.1 a.2.1.2.2.2.2.1 a.2.1.2.2.2.2.2.1 a.2.1.2.2.2.2.2.2.1 a.2.2.1.1 a.2.2.1.2.1 a.2.2.1.2.2.1 a.2.2.1.2.2.2.1 a.2.2.1.2.2.2.2.1 a.2.2.2.1.1 a.2.2.2.1.2.1 a.2.2.2.1.2.2.1 a.2.2.2.1.2.2.2.1 a.2.2.2.1.2.2.2.2.1 a.2.2.2.1.2.2.2.2.2.1 a.2.2.2.1.2.2.2.2.2.2.1 a.2.2.2.2.2.1) (
some ((o,(),(),(),(),()),(c,d,e,f,g,h,i,()),(j,k,l,m,n,()),(p,q,r,s,t,u,v,()),((),()),w,()))
noncomputable def aqL(F:Nat):aP aE:=(aqK F).fR 15 6 F ⟨[2,3,4,6,8,9,14],[.p (.l 3),.p (.B 0),.p (.B 1),.p (.B 2),.p (.B 3),.f 41 [.B 0,.B 3],.p (.i .i64)],[eL,jS,eL,.c 22 [.R 4],.r 3 false],[⟨.nm,[2,3,4,6,8],[.p (.l 3),.p (.B 0),.p (.B 1),.p (.B 2),.p (.B 3)],[eL,jS,eL,.c 22 [.R 4],.r 3 false]⟩],λ k d=>Sp F k d.1.1 d.1.2.2.2.2.2.2.1 d.2.1.1 d.2.1.2.1 d.2.1.2.2.1 d.2.1.2.2.2.1 d.2.1.2.2.2.2.1 d.2.1.2.2.2.2.2.1 d.2.1.2.2.2.2.2.2.1 d.2.2.1.1 d.2.2.1.2.1 d.2.2.1.2.2.1 d.2.2.1.2.2.2.1 d.2.2.1.2.2.2.2.1 d.2.2.2.1.1 d.2.2.2.1.2.1 d.2.2.2.1.2.2.1 d.2.2.2.1.2.2.2.1 d.2.2.2.1.2.2.2.2.1 d.2.2.2.1.2.2.2.2.2.1 d.2.2.2.1.2.2.2.2.2.2.1 d.2.2.2.2.2.1⟩ ⟨λ d=>by kernel_rfl,λ k da db=>by kernel_rfl⟩
def Sk(F:Nat)(e:List Int)(f:Int)(g:Int)(h:Int)(i:Int)(j:List Int)(k:Int)(l:List ao)(m:List Int)(n:List (List I.Field))(o:List (List (List UInt8)))(p:List (List I.Target))(q:List Int):Option ((j2×List Int×Unit)×Unit):=
 (Sl F F q 0 e f g h i j k l m n o p [] 0 0 0 0 [] 0 []).bind λ a=>
(Sm F F a.1.1 0 a.2.1.1 a.2.1.2.1 a.2.1.2.2.1 a.2.1.2.2.2.1 a.2.1.2.2.2.2.1 a.2.1.2.2.2.2.2.1
 a.2.1.2.2.2.2.2.2.1 a.2.2.1.1 a.2.2.1.2.1 a.2.2.1.2.2.1 a.2.2.1.2.2.2.1 a.2.2.1.2.2.2.2.1 a.2.2.2.1.1
 a.2.2.2.1.2.1 a.2.2.2.1.2.2.1 a.2.2.2.1.2.2.2.1 a.2.2.2.1.2.2.2.2.1 a.2.2.2.1.2.2.2.2.2.1
 a.2.2.2.1.2.2.2.2.2.2.1 a.2.2.2.2.2.1).bind λ b=>
(Sp F F b.1.1 0 b.2.1.1 b.2.1.2.1 b.2.1.2.2.1 b.2.1.2.2.2.1 b.2.1.2.2.2.2.1 b.2.1.2.2.2.2.2.1
 b.2.1.2.2.2.2.2.2.1 b.2.2.1.1 b.2.2.1.2.1 b.2.2.1.2.2.1 b.2.2.1.2.2.2.1 b.2.2.1.2.2.2.2.1 b.2.2.2.1.1
 b.2.2.2.1.2.1 b.2.2.2.1.2.2.1 b.2.2.2.1.2.2.2.1 b.2.2.2.1.2.2.2.2.1 b.2.2.2.1.2.2.2.2.2.1
 b.2.2.2.1.2.2.2.2.2.2.1 b.2.2.2.2.2.1).bind λ c=>
(acQ F c.2.1.1 c.2.1.2.1 c.2.1.2.2.1 c.2.1.2.2.2.1 c.2.1.2.2.2.2.1 c.2.1.2.2.2.2.2.1 c.2.1.2.2.2.2.2.2.1
 c.2.2.1.1 c.2.2.1.2.1 c.2.2.1.2.2.1 c.2.2.1.2.2.2.1 c.2.2.1.2.2.2.2.1 c.2.2.2.2.2.1 c.2.1.2.2.2.2.1 c.1.1).bind λ d=>
some (((d.1.1.1,d.1.1.2.1,d.1.1.2.2.1,d.1.1.2.2.2.1,d.1.1.2.2.2.2.1,d.1.1.2.2.2.2.2.1,d.1.1.2.2.2.2.2.2.1,()),d.1.2.1,()),())
noncomputable def aqM(F:Nat):aP aE:=(aqL F).fn 15 ⟨[J3,X3,.p (.l 3)],[],[J3,.p (.l 3)],[],λ d=>Sk F d.1.1.1 d.1.1.2.1 d.1.1.2.2.1 d.1.1.2.2.2.1 d.1.1.2.2.2.2.1 d.1.1.2.2.2.2.2.1 d.1.1.2.2.2.2.2.2.1 d.1.2.1.1 d.1.2.1.2.1 d.1.2.1.2.2.1 d.1.2.1.2.2.2.1 d.1.2.1.2.2.2.2.1 d.1.2.2.1⟩ λ da db=>by kernel_rfl
def asu(F:Nat)(h:List Int)(d:Int)(e:Int)(f:Int)(g:Int)(i:List Int)(j:Int)(k:List ao)(l:List Int)(m:List (List I.Field))(n:List (List (List UInt8)))(o:List (List I.Target))(p:List Int):Option ((Bool×Unit)×Unit):=
 (ab' F h d e f g i j k l m n o p).bind λ a=>
(Sg F (aU.mk h d e f g i j) (aR.mk k l m n o) p).bind λ DA=>
cond (decide (DA=0)) (cond (decide (ax (ax (ax (ax (ax (d+e)+1)-g)-f)+1)<0)) ((AX F (aU.mk a.1.1.1 a.1.1.2.1 a.1.1.2.2.1 a.1.1.2.2.2.1 a.1.1.2.2.2.2.1 a.1.1.2.2.2.2.2.1 a.1.1.2.2.2.2.2.2.1)
 a.1.2.2.1 8 (aU.mk [] 0 0 0 0 [] 0)).bind λ q=>
cond q ((nE F a.1.2.1 []).bind λ r=>
some ((r,()),())) (
some ((false,()),()))) (
cond (decide (DA=0)) ((Sk F h d e f g i j k l m n o p).bind λ b=>
(AX F (aU.mk a.1.1.1 a.1.1.2.1 a.1.1.2.2.1 a.1.1.2.2.2.1 a.1.1.2.2.2.2.1 a.1.1.2.2.2.2.2.1 a.1.1.2.2.2.2.2.2.1)
 a.1.2.2.1 DA
 (aU.mk b.1.1.1 b.1.1.2.1 b.1.1.2.2.1 b.1.1.2.2.2.1 b.1.1.2.2.2.2.1 b.1.1.2.2.2.2.2.1 b.1.1.2.2.2.2.2.2.1)).bind λ s=>
cond s ((nE F a.1.2.1 b.1.2.1).bind λ t=>
some ((t,()),())) (
some ((false,()),()))) (
(AX F (aU.mk a.1.1.1 a.1.1.2.1 a.1.1.2.2.1 a.1.1.2.2.2.1 a.1.1.2.2.2.2.1 a.1.1.2.2.2.2.2.1 a.1.1.2.2.2.2.2.2.1)
 a.1.2.2.1 DA (aU.mk [] 0 0 0 0 [] 0)).bind λ u=>
cond u ((nE F a.1.2.1 []).bind λ v=>
some ((v,()),())) (
some ((false,()),()))))) (
cond (decide (DA=0)) ((Sk F h d e f g i j k l m n o p).bind λ c=>
(AX F (aU.mk a.1.1.1 a.1.1.2.1 a.1.1.2.2.1 a.1.1.2.2.2.1 a.1.1.2.2.2.2.1 a.1.1.2.2.2.2.2.1 a.1.1.2.2.2.2.2.2.1)
 a.1.2.2.1 DA
 (aU.mk c.1.1.1 c.1.1.2.1 c.1.1.2.2.1 c.1.1.2.2.2.1 c.1.1.2.2.2.2.1 c.1.1.2.2.2.2.2.1 c.1.1.2.2.2.2.2.2.1)).bind λ w=>
cond w ((nE F a.1.2.1 c.1.2.1).bind λ x=>
some ((x,()),())) (
some ((false,()),()))) (
(AX F (aU.mk a.1.1.1 a.1.1.2.1 a.1.1.2.2.1 a.1.1.2.2.2.1 a.1.1.2.2.2.2.1 a.1.1.2.2.2.2.2.1 a.1.1.2.2.2.2.2.2.1)
 a.1.2.2.1 DA (aU.mk [] 0 0 0 0 [] 0)).bind λ y=>
cond y ((nE F a.1.2.1 []).bind λ z=>
some ((z,()),())) (
some ((false,()),()))))
@[reducible] noncomputable def aMP(F:Nat):ej bq:=⟨[J3,X3,.p (.l 3)],[],[.p (.b)],[],λ d=>asu F d.1.1.1 d.1.1.2.1 d.1.1.2.2.1 d.1.1.2.2.2.1 d.1.1.2.2.2.2.1 d.1.1.2.2.2.2.2.1 d.1.1.2.2.2.2.2.2.1 d.1.2.1.1 d.1.2.1.2.1 d.1.2.1.2.2.1 d.1.2.1.2.2.2.1 d.1.2.1.2.2.2.2.1 d.1.2.2.1⟩
end Go.Proofs.YteeliipnilghaaaGreat
namespace Go.Proofs.YteeliipnilghaaaGreat
open Go Go.RowKit aw I bc
set_option maxRecDepth 100000
@[reducible] def aMY:bI:=.c 24 [.l 3,.i .i64,.i .i64,.i .i64,.i .i64,.l 3,.i .i64]
@[reducible] def aDC:cL:=.a [.l 3,.i .i64,.i .i64,.i .i64,.i .i64,.l 3,.i .i64]
@[reducible] def aMZ:bI:=.c 30 [.l 134,.l 3,.l 124,.l 120,.l 121]
@[reducible] def aDD:cL:=.a [.l 134,.l 3,.l 124,.l 120,.l 121]
abbrev ab7:=(List ao×List Int×List (List I.Field)×List (List (List UInt8))×List (List I.Target)×Unit)
abbrev ab8:=(List Int×Int×Int×Int×Int×List Int×Int×Unit)
def xP(F:Nat)(b:Int)(a:List Int):Option ((Int×Unit)×(Unit×Unit)×List Int×Unit):=
 cond (decide (b=0)) (some ((0,()),((),()),a,())) (
(Bm F a b).bind λ c=>
cond (decide (c.1.1<0)) ((bF 8 a [b]).bind λ d=>
some (((ax (ax ((↑d.length:Int)-1)+1)),()),((),()),d,())) (
some (((ax (c.1.1+1)),()),((),()),a,())))
def AY(F:Nat):Nat->(List Int)->(Int)->(List Int)->(Int)->(Int)->(Int)->(Int)->(List Int)->(Int)->(List ao)->(List Int)->(List (List I.Field))->(List (List (List UInt8)))->(List (List I.Target))->(List Int)->(List Int)->Option ((Unit×Unit×Unit×Unit×(Unit×Unit)×Unit)×
 ab8×ab7×(Unit×Unit)×List Int×List Int×Unit)
 |0,_,_,_,_,_,_,_,_,_,_,_,_,_,_,_,_=>none
 |aQ+1,c,d,Lc,f,Lf,g,h,i,j,k,l,m,n,o,p,a=>
  cond (decide (d<(↑c.length:Int))) ((idx c d).bind λ e=>
(xP F e p).bind λ b=>
(bF 8 a [b.1.1]).bind λ q=>
AY F aQ c (ax (d+1)) Lc f Lf g h i j k l m n o b.2.2.1 q) (
some (((),(),(),(),((),()),()),(Lc,f,Lf,g,h,i,j,()),(k,l,m,n,o,()),((),()),p,a,()))
def xQ(F:Nat):Nat->(Int)->(Int)->(Int)->(List Int)->(Int)->(Int)->(Int)->(Int)->(List Int)->(Int)->(List ao)->(List Int)->(List (List I.Field))->(List (List (List UInt8)))->(List (List I.Target))->(List Int)->(List Int)->Option ((Unit×Unit×Unit×Unit×(Unit×Unit)×Int×Unit)×
 ab8×ab7×(Unit×Unit)×List Int×List Int×Unit)
 |0,_,_,_,_,_,_,_,_,_,_,_,_,_,_,_,_,_=>none
 |aQ+1,i,b,c,a,j,Ah,k,l,m,n,d,e,f,g,h,o,mc=>
  (idx a (ax (b+1))).bind λ r=>
cond (decide (c<r)) ((idx a (ax (ax (b+3)+c))).bind λ p=>
(idx a b).bind λ s=>
(s5 (aR.mk d e f g h) s c).bind λ t=>
cond t ((xP F p o).bind λ q=>
(bF 8 mc [q.1.1]).bind λ u=>
xQ F aQ i b (ax (c+1)) a j Ah k l m n d e f g h q.2.2.1 u) (
(bF 8 mc [p]).bind λ v=>
xQ F aQ i b (ax (c+1)) a j Ah k l m n d e f g h o v)) (
some (((),(),(),(),((),()),i,()),(a,j,Ah,k,l,m,n,()),(d,e,f,g,h,()),((),()),o,mc,()))
def sS(F:Nat):Nat->(Int)->(List Int)->(Int)->(Int)->(Int)->(Int)->(List Int)->(Int)->(List ao)->(List Int)->(List (List I.Field))->(List (List (List UInt8)))->(List (List I.Target))->(List Int)->(List Int)->Option ((Unit×Unit)×ab8×ab7×(Unit×Unit)×List Int×List Int×Unit)
 |0,_,_,_,_,_,_,_,_,_,_,_,_,_,_,_=>none
 |aQ+1,An,b,e,f,g,h,i,j,k,l,m,n,o,c,p=>
  cond (decide (An<(↑c.length:Int))) ((idx c An).bind λ d=>
(idx b d).bind λ q=>
(idx b (ax (d+1))).bind λ r=>
(idx b (ax (d+2))).bind λ s=>
(bF 8 p [q,r,s]).bind λ t=>
(xQ F F An d 0 b e f g h i j k l m n o c t).bind λ a=>
sS F aQ (ax (a.1.2.2.2.2.2.1+1)) a.2.1.1 a.2.1.2.1 a.2.1.2.2.1 a.2.1.2.2.2.1 a.2.1.2.2.2.2.1 a.2.1.2.2.2.2.2.1 a.2.1.2.2.2.2.2.2.1 a.2.2.1.1 a.2.2.1.2.1 a.2.2.1.2.2.1 a.2.2.1.2.2.2.1 a.2.2.1.2.2.2.2.1 a.2.2.2.2.1 a.2.2.2.2.2.1) (
some (((),()),(b,e,f,g,h,i,j,()),(k,l,m,n,o,()),((),()),c,p,()))
def xO(F:Nat)(kR:List Int)(b:Int)(c:Int)(d:Int)(e:Int)(f:List Int)(g:Int)(h:List ao)(i:List Int)(j:List (List I.Field))(k:List (List (List UInt8)))(l:List (List I.Target))(m:List Int):Option ((List Int×Unit)×Unit):=
 (AY F F m 0 kR b c d e f g h i j k l [] []).bind λ a=>
(sS F F 0 a.2.1.1 a.2.1.2.1 a.2.1.2.2.1 a.2.1.2.2.2.1 a.2.1.2.2.2.2.1 a.2.1.2.2.2.2.2.1 a.2.1.2.2.2.2.2.2.1 a.2.2.1.1
 a.2.2.1.2.1 a.2.2.1.2.2.1 a.2.2.1.2.2.2.1 a.2.2.1.2.2.2.2.1 a.2.2.2.2.1 a.2.2.2.2.2.1).bind λ n=>
some ((n.2.2.2.2.2.1,()),())
def Eo(F:Nat)(s:List Int)(nn:Int)(t:Int)(u:Int)(v:Int)(w:List Int)(x:Int)(a:List ao)(b:List Int)(c:List (List I.Field))(d:List (List (List UInt8)))(e:List (List I.Target))(r:List Int)(f:List Int)(g:Int)(h:Int)(i:Int)(j:Int)(k:List Int)(l:Int)(m:List Int):Option ((Bool×Unit)×Unit):=
 (x3 F (aU.mk f g h i j k l) (aR.mk a b c d e)).bind λ n=>
cond (decide (n=0)) ((x1 F (aU.mk f g h i j k l) (aR.mk a b c d e) m).bind λ o=>
cond (decide (o=0)&&decide ((↑r.length:Int)=(↑m.length:Int))) ((xO F s nn t u v w x a b c d e r).bind λ p=>
(xO F f g h i j k l a b c d e m).bind λ q=>
(nE F p.1.1 q.1.1).bind λ y=>
some ((y,()),())) (
some ((false,()),()))) (
some ((false,()),()))
def asv(F:Nat)(b:List Int)(c:Int)(d:Int)(e:Int)(f:Int)(g:List Int)(D0:Int)(h:List ao)(i:List Int)(j:List (List I.Field))(k:List (List (List UInt8)))(l:List (List I.Target))(m:List Int):Option ((Bool×Unit)×Unit):=
 (ab' F b c d e f g D0 h i j k l m).bind λ a=>
cond (!decide (a.1.2.2.1=0)) (some (((decide ((↑(iv a.1.2.1):Int)=0)),()),())) (
(Eo F b c d e f g D0 h i j k l m a.1.1.1 a.1.1.2.1 a.1.1.2.2.1 a.1.1.2.2.2.1 a.1.1.2.2.2.2.1 a.1.1.2.2.2.2.2.1
 a.1.1.2.2.2.2.2.2.1 a.1.2.1).bind λ n=>
some (((n.1.1&&decide (a.1.1.2.2.2.1=1)&&decide ((↑(iv a.1.1.2.2.2.2.2.1):Int)=0)&&decide (a.1.1.2.2.2.2.2.2.1=D0)),()),()))
@[reducible] noncomputable def aMQ(F:Nat):ej bq:=⟨[aDC,aDD,.p (.l 3)],[],[.p (.b)],[],λ d=>asv F d.1.1.1 d.1.1.2.1 d.1.1.2.2.1 d.1.1.2.2.2.1 d.1.1.2.2.2.2.1 d.1.1.2.2.2.2.2.1 d.1.1.2.2.2.2.2.2.1 d.1.2.1.1 d.1.2.1.2.1 d.1.2.1.2.2.1 d.1.2.1.2.2.2.1 d.1.2.1.2.2.2.2.1 d.1.2.2.1⟩
end Go.Proofs.YteeliipnilghaaaGreat
namespace Go.Proofs.YteeliipnilghaaaGreat
open Go Go.RowKit aw I bc
set_option maxRecDepth 100000
@[reducible] def Gd:bI:=.c 24 [.l 3,.i .i64,.i .i64,.i .i64,.i .i64,.l 3,.i .i64]
@[reducible] def X4:cL:=.a [.l 3,.i .i64,.i .i64,.i .i64,.i .i64,.l 3,.i .i64]
@[reducible] def Gf:bI:=.c 30 [.l 134,.l 3,.l 124,.l 120,.l 121]
@[reducible] def ajf:cL:=.a [.l 134,.l 3,.l 124,.l 120,.l 121]
noncomputable def aqN(F:Nat):aP aE:=(aqM F).fn 88 ⟨[.p (.i .i64),.p (.B 0)],[.c 22 [.R 1],.r 3 false],[.p (.i .i64)],[.c 22 [.R 1],.r 3 false],λ d=>xP F d.1.1 d.2.2.1⟩ λ da db=>by kernel_rfl
noncomputable def aqO(F:Nat):aP aE:=(aqN F).fR 52 0 F ⟨[2,3,4,7,8,9,10],[.p (.l 3),.p (.B 0),.p (.B 1),.p (.B 2),.p (.R 4),.f 88 [.B 2],.p (.i .i64)],[Gd,Gf,.c 22 [.R 3],.r 3 false,.r 3 false],[⟨.nm,[3,4,7,8,9],[.p (.B 0),.p (.B 1),.p (.B 2),.p (.R 4),.f 88 [.B 2]],[Gd,Gf,.c 22 [.R 3],.r 3 false,.r 3 false]⟩],λ k d=>AY F k d.1.1 d.1.2.2.2.2.2.2.1 d.2.1.1 d.2.1.2.1 d.2.1.2.2.1 d.2.1.2.2.2.1 d.2.1.2.2.2.2.1 d.2.1.2.2.2.2.2.1 d.2.1.2.2.2.2.2.2.1 d.2.2.1.1 d.2.2.1.2.1 d.2.2.1.2.2.1 d.2.2.1.2.2.2.1 d.2.2.1.2.2.2.2.1 d.2.2.2.2.1 d.2.2.2.2.2.1⟩ ⟨λ d=>by kernel_rfl,λ k da db=>by kernel_rfl⟩
noncomputable def aqP(F:Nat):aP aE:=(aqO F).fR 52 4 F ⟨[3,4,7,8,9,11,12,13],[.p (.B 0),.p (.B 1),.p (.B 2),.p (.R 4),.f 88 [.B 2],.p (.i .i64),.p (.i .i64),.p (.i .i64)],[Gd,Gf,.c 22 [.R 3],.r 3 false,.r 3 false],[⟨.nm,[3,4,7,8,9,11],[.p (.B 0),.p (.B 1),.p (.B 2),.p (.R 4),.f 88 [.B 2],.p (.i .i64)],[Gd,Gf,.c 22 [.R 3],.r 3 false,.r 3 false]⟩],λ k d=>xQ F k d.1.2.2.2.2.2.1 d.1.2.2.2.2.2.2.1 d.1.2.2.2.2.2.2.2.1 d.2.1.1 d.2.1.2.1 d.2.1.2.2.1 d.2.1.2.2.2.1 d.2.1.2.2.2.2.1 d.2.1.2.2.2.2.2.1 d.2.1.2.2.2.2.2.2.1 d.2.2.1.1 d.2.2.1.2.1 d.2.2.1.2.2.1 d.2.2.1.2.2.2.1 d.2.2.1.2.2.2.2.1 d.2.2.2.2.1 d.2.2.2.2.2.1⟩ ⟨λ d=>by kernel_rfl,λ k da db=>by kernel_rfl⟩
noncomputable def aqQ(F:Nat):aP aE:=(aqP F).fR 52 2 F ⟨[3,4,7,8,9,11],[.p (.B 0),.p (.B 1),.p (.B 2),.p (.R 4),.f 88 [.B 2],.p (.i .i64)],[Gd,Gf,.c 22 [.R 3],.r 3 false,.r 3 false],[⟨.nm,[8],[.p (.R 4)],[Gd,Gf,.c 22 [.R 3],.r 3 false,.r 3 false]⟩],λ k d=>sS F k d.1.2.2.2.2.2.1 d.2.1.1 d.2.1.2.1 d.2.1.2.2.1 d.2.1.2.2.2.1 d.2.1.2.2.2.2.1 d.2.1.2.2.2.2.2.1 d.2.1.2.2.2.2.2.2.1 d.2.2.1.1 d.2.2.1.2.1 d.2.2.1.2.2.1 d.2.2.1.2.2.2.1 d.2.2.1.2.2.2.2.1 d.2.2.2.2.1 d.2.2.2.2.2.1⟩ ⟨λ d=>by kernel_rfl,λ k da db=>by kernel_rfl⟩
noncomputable def aqR(F:Nat):aP aE:=(aqQ F).fn 52 ⟨[X4,ajf,.p (.l 3)],[],[.p (.l 3)],[],λ d=>xO F d.1.1.1 d.1.1.2.1 d.1.1.2.2.1 d.1.1.2.2.2.1 d.1.1.2.2.2.2.1 d.1.1.2.2.2.2.2.1 d.1.1.2.2.2.2.2.2.1 d.1.2.1.1 d.1.2.1.2.1 d.1.2.1.2.2.1 d.1.2.1.2.2.2.1 d.1.2.1.2.2.2.2.1 d.1.2.2.1⟩ λ da db=>by kernel_rfl
noncomputable def aqT(F:Nat):aP aE:=(aqR F).fn 21 ⟨[X4,ajf,.p (.l 3),X4,.p (.l 3)],[],[.p (.b)],[],λ d=>Eo F d.1.1.1 d.1.1.2.1 d.1.1.2.2.1 d.1.1.2.2.2.1 d.1.1.2.2.2.2.1 d.1.1.2.2.2.2.2.1 d.1.1.2.2.2.2.2.2.1 d.1.2.1.1 d.1.2.1.2.1 d.1.2.1.2.2.1 d.1.2.1.2.2.2.1 d.1.2.1.2.2.2.2.1 d.1.2.2.1 d.1.2.2.2.1.1 d.1.2.2.2.1.2.1 d.1.2.2.2.1.2.2.1 d.1.2.2.2.1.2.2.2.1 d.1.2.2.2.1.2.2.2.2.1 d.1.2.2.2.1.2.2.2.2.2.1 d.1.2.2.2.1.2.2.2.2.2.2.1 d.1.2.2.2.2.1⟩ λ da db=>by kernel_rfl
end Go.Proofs.YteeliipnilghaaaGreat
