/- Part 5 of the proof that is ended in the last text: small logic, what the functions compute, walks, plain laws. -/
import Derived.Test.YteeliipnilghaaaGreatGb4
open Int renaming le_refl->lI
open List renaming length->jb,length_pos_iff->l8,mem_append->cj,mem_singleton->dT,replicate->fV,take->mV
open Nat renaming mul_one->j3,zero_add->jM,zero_le->gT
open Option renaming map->ee,map_eq_some_iff->cz,some.injEq->aH
namespace Go.Proofs.YteeliipnilghaaaGreat
open Go Go.RowKit ay I bc
set_option maxRecDepth 100000
@[reducible] def Ho{α:Type}(x:List UInt8×List UInt8×List I.Field×List I.Method×α):I.ap:=⟨x.1,x.2.1,x.2.2.1,x.2.2.2.1⟩
@[reducible] def dY{α:Type}(x:List Int×Int×Int×Int×Int×List Int×Int×α):I.aV:=⟨x.1,x.2.1,x.2.2.1,x.2.2.2.1,x.2.2.2.2.1,x.2.2.2.2.2.1,x.2.2.2.2.2.2.1⟩
@[reducible] def LG{α:Type}(x:Int×List UInt8×α):I.Kind:=⟨x.1,x.2.1⟩
@[reducible] def fj{α:Type}(x:List I.ap×List Int×List (List I.Field)×List (List (List UInt8))×List (List I.Target)×α):I.aO:=⟨x.1,x.2.1,x.2.2.1,x.2.2.2.1,x.2.2.2.2.1⟩
@[reducible] def u'{α:Type}(x:List UInt8×Bool×List I.Kind×Int×List UInt8×Int×Int×List UInt8×List I.Handler×α):I.Method:=⟨x.1,x.2.1,x.2.2.1,⟨x.2.2.2.1,x.2.2.2.2.1⟩,x.2.2.2.2.2.1,x.2.2.2.2.2.2.1,x.2.2.2.2.2.2.2.1,x.2.2.2.2.2.2.2.2.1⟩
@[reducible] def gX{α:Type}(x:List I.ap×List Int×List (List I.Field)×List (List (List UInt8))×List (List I.Target)×α):I.b':=⟨⟨x.1,x.2.1,x.2.2.1,x.2.2.2.1,x.2.2.2.2.1⟩⟩
@[reducible] def fK:bK:=.c 72 [.l 3,.i .i64,.i .i64,.i .i64,.i .i64,.l 3,.i .i64,.l 134,.l 3,.l 124,.l 120,.l 121,.l 3,.l 3,.M 1]
@[reducible] def ij:bK:=.c 72 [.l 3,.i .i64,.i .i64,.i .i64,.i .i64,.l 3,.i .i64,.l 134,.l 3,.l 124,.l 120,.l 121,.l 3,.l 3,.M 2]
@[reducible] def mu:bK:=.c 131 [.s,.b,.l 128,.i .i64,.s,.i .i64,.i .i64,.s,.l 157]
@[reducible] def akr:bK:=.c 24 [.R 1,.i .i64,.i .i64,.i .i64,.i .i64,.l 3,.i .i64]
@[reducible] def iV:bK:=.c 24 [.l 3,.i .i64,.i .i64,.i .i64,.i .i64,.l 3,.i .i64]
@[reducible] def P0:cN:=.a [.s,.b,.l 128,.i .i64,.s,.i .i64,.i .i64,.s,.l 157]
@[reducible] def ju:cN:=.a [.l 3,.i .i64,.i .i64,.i .i64,.i .i64,.l 3,.i .i64]
@[reducible] def dX:bK:=.c 30 [.l 134,.l 3,.l 124,.l 120,.l 121]
@[reducible] def hD:cN:=.a [.l 134,.l 3,.l 124,.l 120,.l 121]
@[reducible] def aks:bK:=.c 30 [.l 134,.l 3,.R 4,.R 5,.R 6]
@[reducible] def ako:bK:=.c 30 [.l 134,.R 2,.R 3,.R 4,.R 5]
@[reducible] def ik:bK:=.c 134 [.s,.s,.l 136,.l 131]
@[reducible] def akp:bK:=.c 134 [.s,.s,.R 2,.R 3]
@[reducible] def k3:bK:=.c 117 [.l 134,.M 1,.R 2]
@[reducible] def eD:bK:=.c 117 [.l 134,.M 1,.l 3]
@[reducible] def akq:bK:=.c 117 [.l 134,.M 2,.l 3]
noncomputable def atW(F:Nat):aQ aG:=⟨MD F,λ _=>auK F,rfl⟩
noncomputable def Vi(k:Nat)(a:List UInt8)(b:Int)(ao:Int):=dq ((a.length:Int)=ao/\True) (bf (Dg a k b))
theorem Zu(k:Nat)(a:List UInt8)(b:Int):bf (Dg a k b)=Vi k a b (a.length:Int):=(dJ ⟨rfl,trivial⟩).symm
noncomputable def apY(F:Nat):aQ aG:=(atW F).b1 140 0 F ⟨[0,6,7,8],[.p (.s),.p (.l 5),.p (.i .i64),.p (.i .i64)],[],
 [⟨⟨.nm,[0],[.p (.s)],[]⟩,Unit,λ d r=>((d.1.1,()),())⟩,
  ⟨⟨.rt,[2],[.p (.b)],[]⟩,Bool,λ d r=>((r,()),())⟩],
 λ k d=>Vi k d.1.2.1 d.1.2.2.2.1 d.1.2.2.1⟩ (bO.bX (λ d=>dI) λ k da db q h=>by
 obtain⟨(v0:List UInt8),(v1:List UInt8),(b:Int),(v3:Int),_⟩:=da
 obtain⟨a,_⟩:=eh h
 dsimp only at a
 obtain⟨rfl,_⟩:=a
 conv=>rhs;change ee (α:=Unit⊕Bool) _ (Vi (k+1) v1 v3 (v1.length:Int));rw[<-Zu (k+1) v1 v3];simp only[Dg,ba,Zu];simp only[bW]
 kernel_rfl)
noncomputable def adt(F:Nat):aQ aG:=(apY F).rt 140 ⟨[.p (.s)],[],[.p (.b)],[],Bool,λ d=>oC F d.1.1,λ d r=>((r,()),())⟩ λ da db=>by
 obtain⟨(v0:List UInt8),_⟩:=da;conv=>rhs;simp only[oC,ba,Zu]
 kernel_rfl
noncomputable def asI(F:Nat):aQ aG:=(adt F).rt 162 ⟨[.p (.i .i64)],[],[.p (.b)],[],Bool,λ d=>OJ d.1.1,λ d r=>((r,()),())⟩ λ da db=>by
 conv=>rhs;simp only[OJ,ba]
 kernel_rfl
noncomputable def asT(F:Nat):aQ aG:=(asI F).rt 141 ⟨[.a [.i .i64,.s]],[],[.p (.b)],[],Bool,λ d=>wW F (LG d.1.1),λ d r=>((r,()),())⟩ λ da db=>by
 conv=>rhs;simp only[wW,ba]
 kernel_rfl
noncomputable def as4(F:Nat):aQ aG:=(asT F).rt 163 ⟨[.p (.i .i64),.p (.i .i64),.p (.i .i64)],[],[.p (.b)],[],Bool,λ d=>nf d.1.1 d.1.2.1 d.1.2.2.1,λ d r=>((r,()),())⟩ λ da db=>by
 conv=>rhs;simp only[nf,ba]
 kernel_rfl
noncomputable def Vj(F:Nat)(k:Nat)(a:I.Method)(b:Int)(c:Int)(dw:List I.Kind):=dq ((a.cD.length:Int)=c/\(a.cD:List I.Kind)=dw/\True) (bf (zC F a k b))
theorem Zv(F:Nat)(k:Nat)(a:I.Method)(b:Int):bf (zC F a k b)=Vj F k a b (a.cD.length:Int) a.cD:=(dJ ⟨rfl,rfl,trivial⟩).symm
noncomputable def atd(F:Nat):aQ aG:=(as4 F).b1 142 1 F ⟨[1,41,42,43],[.p (.B 0),.p (.l 128),.p (.i .i64),.p (.i .i64)],[mu],
 [⟨⟨.nm,[1],[.p (.B 0)],[mu]⟩,Unit,λ d r=>(((),()),(d.2.1,()))⟩,
  ⟨⟨.rt,[2],[.p (.i .i64)],[.d]⟩,Int,λ d r=>((r,()),((),()))⟩],
 λ k d=>Vj F k (⟨d.2.1.1,d.2.1.2.1,d.1.2.1,(LG d.2.1.2.2.2),d.2.1.2.2.2.2.2.1,d.2.1.2.2.2.2.2.2.1,d.2.1.2.2.2.2.2.2.2.1,d.2.1.2.2.2.2.2.2.2.2.1⟩:I.Method) d.1.2.2.2.1 d.1.2.2.1 d.2.1.2.2.1⟩ (bO.bX (λ d=>dI) λ k da db q h=>by
 obtain⟨_,(v0:List I.Kind),(v1:Int),(c:Int),_⟩:=da
 obtain⟨⟨(v3:List UInt8),(v4:Bool),(v5:List I.Kind),(e:Int),(f:List UInt8),(g:Int),(v9:Int),(a:List UInt8),(b:List I.Handler),_⟩,_⟩:=db
 obtain⟨i,_⟩:=eh h
 dsimp only at i
 obtain⟨rfl,rfl,_⟩:=i
 conv=>rhs;change ee (α:=Unit⊕Int) _ (Vj F (k+1) (⟨v3,v4,v0,(⟨e,f⟩:I.Kind),g,v9,a,b⟩:I.Method) c (v0.length:Int) (v0));rw[<-Zv F (k+1) (⟨v3,v4,v0,(⟨e,f⟩:I.Kind),g,v9,a,b⟩:I.Method) c];simp only[zC,ba,Zv];simp only[bW]
 kernel_rfl)
noncomputable def NY(F:Nat)(k:Nat)(a:I.Method)(mn:Int)(b:Int):=dq ((a.cL.length:Int)=b/\True) (bf (sv F a k mn))
theorem Qg(F:Nat)(k:Nat)(a:I.Method)(mn:Int):bf (sv F a k mn)=NY F k (⟨[],false,[],(⟨0,[]⟩:I.Kind),0,0,[],a.cL⟩:I.Method) mn (a.cL.length:Int):=(show bf (sv F a k mn)=bf (sv F (⟨[],false,[],(⟨0,[]⟩:I.Kind),0,0,[],a.cL⟩:I.Method) k mn) by kernel_rfl).trans (dJ ⟨rfl,trivial⟩).symm
theorem aF4(F:Nat)(k:Nat)(a:I.Method)(mn:Int):bf (Dk F a k mn)=NY F k (⟨[],false,[],(⟨0,[]⟩:I.Kind),0,0,[],a.cL⟩:I.Method) mn (a.cL.length:Int):=(show bf (Dk F a k mn)=bf (sv F a k mn) by kernel_rfl).trans (Qg F k a mn)
noncomputable def ato(F:Nat):aQ aG:=(atd F).b1 142 3 F ⟨[62,63,64],[.p (.l 157),.p (.i .i64),.p (.i .i64)],[],
 [⟨⟨.nm,[],[],[]⟩,Unit,λ d r=>((),())⟩,
  ⟨⟨.rt,[2],[.p (.i .i64)],[]⟩,Int,λ d r=>((r,()),())⟩],
 λ k d=>NY F k (⟨[],false,[],(⟨0,[]⟩:I.Kind),0,0,[],d.1.1⟩:I.Method) d.1.2.2.1 d.1.2.1⟩ (bO.bX (λ d=>dI) λ k da db q h=>by
 obtain⟨(v0:List I.Handler),(v1:Int),(a:Int),_⟩:=da
 obtain⟨b,_⟩:=eh h
 dsimp only at b
 obtain⟨rfl,_⟩:=b
 conv=>rhs;change ee (α:=Unit⊕Int) _ (NY F (k+1) (⟨[],false,[],(⟨0,[]⟩:I.Kind),0,0,[],v0⟩:I.Method) a (v0.length:Int));rw[<-Qg F (k+1) (⟨[],false,[],(⟨0,[]⟩:I.Kind),0,0,[],v0⟩:I.Method) a];simp only[sv,ba,Qg];simp only[bW]
 kernel_rfl)
noncomputable def atz(F:Nat):aQ aG:=(ato F).rt 142 ⟨[P0],[],[.p (.i .i64)],[],Int,λ d=>Dj F (u' d.1.1),λ d r=>((r,()),())⟩ λ da db=>by
 obtain⟨⟨(v0:List UInt8),(v1:Bool),(a:List I.Kind),(v3:Int),(v4:List UInt8),(v5:Int),(b:Int),(c:List UInt8),(e:List I.Handler),_⟩,_⟩:=da;conv=>rhs;simp only[Dj,ba,Zv,Qg,aF4]
 kernel_rfl
noncomputable def NV(F:Nat)(k:Nat)(c_:I.ap)(a:Int)(b:Int)(dw:List I.Field):=dq ((c_.Fields.length:Int)=b/\(c_.Fields:List I.Field)=dw/\True) (bf (wV F c_ k a))
theorem Qd(F:Nat)(k:Nat)(c_:I.ap)(a:Int):bf (wV F c_ k a)=NV F k c_ a (c_.Fields.length:Int) c_.Fields:=(dJ ⟨rfl,rfl,trivial⟩).symm
theorem aF2(F:Nat)(k:Nat)(c_:I.ap)(a:Int):bf (Dh F c_ k a)=NV F k c_ a (c_.Fields.length:Int) c_.Fields:=(show bf (Dh F c_ k a)=bf (wV F c_ k a) by kernel_rfl).trans (Qd F k c_ a)
noncomputable def atK(F:Nat):aQ aG:=(atz F).b1 107 1 F ⟨[1,36,37,38],[.p (.B 0),.p (.l 136),.p (.i .i64),.p (.i .i64)],[ik],
 [⟨⟨.nm,[1],[.p (.B 0)],[ik]⟩,Unit,λ d r=>(((),()),(d.2.1,()))⟩,
  ⟨⟨.rt,[2],[.p (.i .i64)],[.d]⟩,Int,λ d r=>((r,()),((),()))⟩],
 λ k d=>NV F k (⟨d.2.1.1,d.2.1.2.1,d.1.2.1,d.2.1.2.2.2.1⟩:I.ap) d.1.2.2.2.1 d.1.2.2.1 d.2.1.2.2.1⟩ (bO.bX (λ d=>dI) λ k da db q h=>by
 obtain⟨_,(v0:List I.Field),(v1:Int),(a:Int),_⟩:=da
 obtain⟨⟨(v3:List UInt8),(v4:List UInt8),(v5:List I.Field),(b:List I.Method),_⟩,_⟩:=db
 obtain⟨c,_⟩:=eh h
 dsimp only at c
 obtain⟨rfl,rfl,_⟩:=c
 conv=>rhs;change ee (α:=Unit⊕Int) _ (NV F (k+1) (⟨v3,v4,v0,b⟩:I.ap) a (v0.length:Int) (v0));rw[<-Qd F (k+1) (⟨v3,v4,v0,b⟩:I.ap) a];simp only[wV,ba,Qd];simp only[bW]
 kernel_rfl)
noncomputable def NW(F:Nat)(k:Nat)(c_:I.ap)(a:Int)(b:Int):=dq ((c_.bp.length:Int)=b/\True) (bf (su F c_ k a))
theorem Qf(F:Nat)(k:Nat)(c_:I.ap)(a:Int):bf (su F c_ k a)=NW F k (⟨[],[],[],c_.bp⟩:I.ap) a (c_.bp.length:Int):=(show bf (su F c_ k a)=bf (su F (⟨[],[],[],c_.bp⟩:I.ap) k a) by kernel_rfl).trans (dJ ⟨rfl,trivial⟩).symm
theorem aF3(F:Nat)(k:Nat)(c_:I.ap)(a:Int):bf (Di F c_ k a)=NW F k (⟨[],[],[],c_.bp⟩:I.ap) a (c_.bp.length:Int):=(show bf (Di F c_ k a)=bf (su F c_ k a) by kernel_rfl).trans (Qf F k c_ a)
noncomputable def apZ(F:Nat):aQ aG:=(atK F).b1 107 4 F ⟨[54,55,56],[.p (.l 131),.p (.i .i64),.p (.i .i64)],[],
 [⟨⟨.nm,[],[],[]⟩,Unit,λ d r=>((),())⟩,
  ⟨⟨.rt,[2],[.p (.i .i64)],[]⟩,Int,λ d r=>((r,()),())⟩],
 λ k d=>NW F k (⟨[],[],[],d.1.1⟩:I.ap) d.1.2.2.1 d.1.2.1⟩ (bO.bX (λ d=>dI) λ k da db q h=>by
 obtain⟨(v0:List I.Method),(v1:Int),(a:Int),_⟩:=da
 obtain⟨b,_⟩:=eh h
 dsimp only at b
 obtain⟨rfl,_⟩:=b
 conv=>rhs;change ee (α:=Unit⊕Int) _ (NW F (k+1) (⟨[],[],[],v0⟩:I.ap) a (v0.length:Int));rw[<-Qf F (k+1) (⟨[],[],[],v0⟩:I.ap) a];simp only[su,ba,Qf];simp only[bW]
 kernel_rfl)
noncomputable def ap_(F:Nat):aQ aG:=(apZ F).rt 107 ⟨[.a [.s,.s,.l 136,.l 131]],[],[.p (.i .i64)],[],Int,λ d=>Kb F (Ho d.1.1),λ d r=>((r,()),())⟩ λ da db=>by
 obtain⟨⟨(v0:List UInt8),(v1:List UInt8),(a:List I.Field),(v3:List I.Method),_⟩,_⟩:=da;conv=>rhs;simp only[Kb,ba,Qd,aF2,Qf,aF3]
 kernel_rfl
noncomputable def Vh(F:Nat)(k:Nat)(a:List I.ap)(b:Int)(c:Int):=dq ((a.length:Int)=c/\True) (bf (zB F a k b))
theorem Zt(F:Nat)(k:Nat)(a:List I.ap)(b:Int):bf (zB F a k b)=Vh F k a b (a.length:Int):=(dJ ⟨rfl,trivial⟩).symm
noncomputable def aqj(F:Nat):aQ aG:=(ap_ F).b1 74 0 F ⟨[9,10,11],[.p (.l 134),.p (.i .i64),.p (.i .i64)],[],
 [⟨⟨.nm,[],[],[]⟩,Unit,λ d r=>((),())⟩,
  ⟨⟨.rt,[2],[.p (.i .i64)],[]⟩,Int,λ d r=>((r,()),())⟩],
 λ k d=>Vh F k d.1.1 d.1.2.2.1 d.1.2.1⟩ (bO.bX (λ d=>dI) λ k da db q h=>by
 obtain⟨(v0:List I.ap),(v1:Int),(a:Int),_⟩:=da
 obtain⟨b,_⟩:=eh h
 dsimp only at b
 obtain⟨rfl,_⟩:=b
 conv=>rhs;change ee (α:=Unit⊕Int) _ (Vh F (k+1) v0 a (v0.length:Int));rw[<-Zt F (k+1) v0 a];simp only[zB,ba,Zt];simp only[bW]
 kernel_rfl)
noncomputable def aqu(F:Nat):aQ aG:=(aqj F).rt 74 ⟨[.p (.l 134)],[],[.p (.i .i64)],[],Int,λ d=>Ka F d.1.1,λ d r=>((r,()),())⟩ λ da db=>by
 obtain⟨(v0:List I.ap),_⟩:=da;conv=>rhs;simp only[Ka,ba,Zt]
 kernel_rfl
noncomputable def aqF(F:Nat):aQ aG:=(aqu F).b1 75 2 F ⟨[3,5,8,9,10,23,24,25],[.p (.R 0),.p (.B 1),.p (.l 134),.p (.i .i64),.p (.i .i64),.p (.R 3),.p (.i .i64),.p (.i .i64)],[.r 134 false,akp,.r 136 true,.r 131 true],
 [⟨⟨.nm,[3,5,8,9,10],[.p (.R 0),.p (.B 1),.p (.l 134),.p (.i .i64),.p (.i .i64)],[.r 134 false,akp,.r 136 true,.r 131 true]⟩,List I.Method,λ d r=>(((),(),d.1.2.2.1,d.1.2.2.2.1,d.1.2.2.2.2.1,()),(d.2.1,(d.2.2.1.1,d.2.2.1.2.1,(),(),()),d.2.2.2.1,r,()))⟩],
 λ k d=>uJ k d.2.2.2.2.1 d.1.2.2.2.2.2.2.1 d.1.2.2.2.2.2.2.2.1⟩ (bO.bX (λ d=>rfl) λ k da db q h=>by
 obtain⟨_,_,(v0:List I.ap),(v1:Int),(a:Int),_,(v3:Int),(v4:Int),_⟩:=da
 obtain⟨(v5:List I.ap),⟨(b:List UInt8),(c:List UInt8),_,_,_⟩,(e:List I.Field),(v9:List I.Method),_⟩:=db
 conv=>rhs;simp only[uJ,ba,aaW,aaX];simp only[bW]
 kernel_rfl)
noncomputable def VD(F:Nat)(k:Nat)(a:List I.ap)(b:List I.ap)(c:Int)(d:Int):=dq ((a.length:Int)=d/\True) (sJ F a k b c)
theorem ZP(F:Nat)(k:Nat)(a:List I.ap)(b:List I.ap)(c:Int):sJ F a k b c=VD F k a b c (a.length:Int):=(dJ ⟨rfl,trivial⟩).symm
noncomputable def aqQ(F:Nat):aQ aG:=(aqF F).b1 75 0 F ⟨[3,8,9,10],[.p (.R 0),.p (.l 134),.p (.i .i64),.p (.i .i64)],[.r 134 false],
 [⟨⟨.nm,[3],[.p (.R 0)],[.r 134 false]⟩,List I.ap,λ d r=>(((),()),(r,()))⟩],
 λ k d=>VD F k d.1.2.1 d.2.1 d.1.2.2.2.1 d.1.2.2.1⟩ (bO.bX (λ d=>dI) λ k da db q h=>by
 obtain⟨_,(v0:List I.ap),(v1:Int),(a:Int),_⟩:=da
 obtain⟨(v3:List I.ap),_⟩:=db
 obtain⟨b,_⟩:=eh h
 dsimp only at b
 obtain⟨rfl,_⟩:=b
 conv=>rhs;change ee (α:=List I.ap) _ (VD F (k+1) v0 v3 a (v0.length:Int));rw[<-ZP F (k+1) v0 v3 a];simp only[sJ,ba,ZP,aaV,aaY];simp only[bW]
 kernel_rfl)
noncomputable def aq1(F:Nat):aQ aG:=(aqQ F).rt 75 ⟨[.p (.l 134)],[],[.p (.l 134)],[],List I.ap,λ d=>Ks F d.1.1,λ d r=>((r,()),())⟩ λ da db=>by
 obtain⟨(v0:List I.ap),_⟩:=da;conv=>rhs;simp only[Ks,ba,ZP]
 kernel_rfl
noncomputable def Vt(k:Nat)(a:I.bt)(b:List ((List UInt8)×Int))(sO:Int)(c:Int)(aT:List I.ap):=dq ((a.l.length:Int)=c/\(a.l:List I.ap)=aT/\True) (bf (pM a k b sO))
theorem ZF(k:Nat)(a:I.bt)(b:List ((List UInt8)×Int))(sO:Int):bf (pM a k b sO)=Vt k (⟨a.l,[],a.dB⟩:I.bt) b sO (a.l.length:Int) a.l:=(show bf (pM a k b sO)=bf (pM (⟨a.l,[],a.dB⟩:I.bt) k b sO) by kernel_rfl).trans (dJ ⟨rfl,rfl,trivial⟩).symm
noncomputable def ara(F:Nat):aQ aG:=(aq1 F).b1 76 0 F ⟨[0,14,15,16],[.p (.B 0),.p (.l 134),.p (.i .i64),.p (.i .i64)],[k3,.m 9 3,.r 3 true],
 [⟨⟨.nm,[0],[.p (.B 0)],[k3,.m 9 3,.r 3 true]⟩,List ((List UInt8)×Int),λ d r=>(((),()),((d.2.1.1,(),(),()),r,d.2.2.2.1,()))⟩,
  ⟨⟨.rt,[2],[.p (.i .i64)],[k3,.m 9 3,.r 3 true]⟩,Int×I.bt,λ d r=>((r.1,()),((d.2.1.1,(),(),()),r.2.b3,d.2.2.2.1,()))⟩],
 λ k d=>Vt k (⟨d.1.2.1,[],d.2.2.2.1⟩:I.bt) d.2.2.1 d.1.2.2.2.1 d.1.2.2.1 d.2.1.1⟩ (bO.bX (λ d=>dI) λ k da db q h=>by
 obtain⟨_,(v0:List I.ap),(v1:Int),(a:Int),_⟩:=da
 obtain⟨⟨(v3:List I.ap),_,_,_⟩,(v4:List ((List UInt8)×Int)),(v5:List Int),_⟩:=db
 obtain⟨b,_⟩:=eh h
 dsimp only at b
 obtain⟨rfl,rfl,_⟩:=b
 conv=>rhs;change ee (α:=(List ((List UInt8)×Int))⊕(Int×I.bt)) _ (Vt (k+1) (⟨v0,[],v5⟩:I.bt) v4 a (v0.length:Int) (v0));rw[<-ZF (k+1) (⟨v0,[],v5⟩:I.bt) v4 a];simp only[pM,ba,ZF];simp only[bW]
 kernel_rfl)
noncomputable def arn(F:Nat):aQ aG:=(ara F).rt 76 ⟨[.p (.B 0)],[k3,.m 9 3,.r 3 true],[.p (.i .i64)],[k3,.m 9 3,.r 3 true],Int×I.bt,λ d=>Gt F (⟨d.2.1.1,d.2.2.1,d.2.2.2.1⟩:I.bt),λ d r=>((r.1,()),((d.2.1.1,(),(),()),r.2.b3,d.2.2.2.1,()))⟩ λ da db=>by
 obtain⟨_,_⟩:=da;obtain⟨⟨(v0:List I.ap),_,_,_⟩,(v1:List ((List UInt8)×Int)),(a:List Int),_⟩:=db;conv=>rhs;simp only[Gt,ba,ZF]
 kernel_rfl
noncomputable def Vl(k:Nat)(a:I.bt)(b:Int)(c:Int)(aT:List I.ap):=dq ((a.l.length:Int)=c/\(a.l:List I.ap)=aT/\True) (bf (xm a k b))
theorem Zx(k:Nat)(a:I.bt)(b:Int):bf (xm a k b)=Vl k a b (a.l.length:Int) a.l:=(dJ ⟨rfl,rfl,trivial⟩).symm
noncomputable def ary(F:Nat):aQ aG:=(arn F).b1 77 0 F ⟨[0,14,15,16],[.p (.B 0),.p (.l 134),.p (.i .i64),.p (.i .i64)],[k3,.m 9 3,.r 3 true],
 [⟨⟨.nm,[0],[.p (.B 0)],[k3,.m 9 3,.r 3 true]⟩,Unit,λ d r=>(((),()),((d.2.1.1,(),(),()),d.2.2.1,d.2.2.2.1,()))⟩,
  ⟨⟨.rt,[2],[.p (.i .i64)],[k3,.m 9 3,.r 3 true]⟩,Int×I.bt,λ d r=>((r.1,()),((d.2.1.1,(),(),()),d.2.2.1,r.2.dB,()))⟩],
 λ k d=>Vl k (⟨d.1.2.1,d.2.2.1,d.2.2.2.1⟩:I.bt) d.1.2.2.2.1 d.1.2.2.1 d.2.1.1⟩ (bO.bX (λ d=>dI) λ k da db q h=>by
 obtain⟨_,(v0:List I.ap),(v1:Int),(a:Int),_⟩:=da
 obtain⟨⟨(v3:List I.ap),_,_,_⟩,(v4:List ((List UInt8)×Int)),(v5:List Int),_⟩:=db
 obtain⟨b,_⟩:=eh h
 dsimp only at b
 obtain⟨rfl,rfl,_⟩:=b
 conv=>rhs;change ee (α:=Unit⊕(Int×I.bt)) _ (Vl (k+1) (⟨v0,v4,v5⟩:I.bt) a (v0.length:Int) (v0));rw[<-Zx (k+1) (⟨v0,v4,v5⟩:I.bt) a];simp only[xm,ba,Zx];simp only[bW]
 kernel_rfl)
noncomputable def Vm(k:Nat)(a:I.bt)(b:List Int)(c:Int)(d:Int)(aT:List I.ap):=dq ((a.l.length:Int)=d/\(a.l:List I.ap)=aT/\True) (bf (nn a k b c))
theorem Zy(k:Nat)(a:I.bt)(b:List Int)(c:Int):bf (nn a k b c)=Vm k (⟨a.l,a.b3,[]⟩:I.bt) b c (a.l.length:Int) a.l:=(show bf (nn a k b c)=bf (nn (⟨a.l,a.b3,[]⟩:I.bt) k b c) by kernel_rfl).trans (dJ ⟨rfl,rfl,trivial⟩).symm
noncomputable def arJ(F:Nat):aQ aG:=(ary F).b1 77 2 F ⟨[0,31,32,33],[.p (.B 0),.p (.l 134),.p (.i .i64),.p (.i .i64)],[k3,.m 9 3,.r 3 false],
 [⟨⟨.nm,[0],[.p (.B 0)],[k3,.m 9 3,.r 3 false]⟩,List Int,λ d r=>(((),()),((d.2.1.1,(),(),()),d.2.2.1,r,()))⟩,
  ⟨⟨.rt,[2],[.p (.i .i64)],[k3,.m 9 3,.r 3 false]⟩,Int×I.bt,λ d r=>((r.1,()),((d.2.1.1,(),(),()),d.2.2.1,r.2.dB,()))⟩],
 λ k d=>Vm k (⟨d.1.2.1,d.2.2.1,[]⟩:I.bt) d.2.2.2.1 d.1.2.2.2.1 d.1.2.2.1 d.2.1.1⟩ (bO.bX (λ d=>dI) λ k da db q h=>by
 obtain⟨_,(v0:List I.ap),(v1:Int),(a:Int),_⟩:=da
 obtain⟨⟨(v3:List I.ap),_,_,_⟩,(v4:List ((List UInt8)×Int)),(v5:List Int),_⟩:=db
 obtain⟨b,_⟩:=eh h
 dsimp only at b
 obtain⟨rfl,rfl,_⟩:=b
 conv=>rhs;change ee (α:=(List Int)⊕(Int×I.bt)) _ (Vm (k+1) (⟨v0,v4,[]⟩:I.bt) v5 a (v0.length:Int) (v0));rw[<-Zy (k+1) (⟨v0,v4,[]⟩:I.bt) v5 a];simp only[nn,ba,Zy];simp only[bW]
 kernel_rfl)
noncomputable def Vo(k:Nat)(a:I.bt)(b:List Int)(c:Int)(d:Int)(e:Int)(aT:Int):=dq ((a.l.length:Int)=e/\(a.l.length:Int)=aT/\True) (uH a b k c d)
theorem ZA(k:Nat)(a:I.bt)(b:List Int)(c:Int)(d:Int):uH a b k c d=Vo k (⟨a.l,a.b3,[]⟩:I.bt) b c d (a.l.length:Int) (a.l.length:Int):=(show uH a b k c d=uH (⟨a.l,a.b3,[]⟩:I.bt) b k c d by kernel_rfl).trans (dJ ⟨rfl,rfl,trivial⟩).symm
noncomputable def arT(F:Nat):aQ aG:=(arJ F).b1 77 7 F ⟨[0,10,69,70,78,79],[.p (.B 0),.p (.i .i64),.p (.i .i64),.p (.i .i64),.p (.i .i64),.p (.i .i64)],[k3,.m 9 3,.r 3 true],
 [⟨⟨.nm,[0,10,69,70],[.p (.B 0),.p (.i .i64),.p (.i .i64),.p (.i .i64)],[k3,.m 9 3,.r 3 true]⟩,Int,λ d r=>(((),r,d.1.2.2.1,d.1.2.2.2.1,()),((d.2.1.1,(),(),()),d.2.2.1,d.2.2.2.1,()))⟩],
 λ k d=>Vo k (⟨d.2.1.1,d.2.2.1,[]⟩:I.bt) d.2.2.2.1 d.1.2.1 d.1.2.2.2.2.2.1 d.1.2.2.1 d.1.2.2.2.2.1⟩ (bO.bX (λ d=>dI) λ k da db q h=>by
 obtain⟨_,(v0:Int),(v1:Int),(e:Int),(v3:Int),(v4:Int),_⟩:=da
 obtain⟨⟨(v5:List I.ap),_,_,_⟩,(a:List ((List UInt8)×Int)),(b:List Int),_⟩:=db
 obtain⟨c,_⟩:=eh h
 dsimp only at c
 obtain⟨rfl,rfl,_⟩:=c
 conv=>rhs;change ee (α:=Int) _ (Vo (k+1) (⟨v5,a,[]⟩:I.bt) b v0 v4 (v5.length:Int) (v5.length:Int));rw[<-ZA (k+1) (⟨v5,a,[]⟩:I.bt) b v0 v4];simp only[uH,ba,ZA];simp only[bW]
 kernel_rfl)
noncomputable def Vn(F:Nat)(k:Nat)(a:I.bt)(b:List Int)(c:Int)(d:Int):=dq ((a.l.length:Int)=d/\True) (bf (sC F a b k c))
theorem Zz(F:Nat)(k:Nat)(a:I.bt)(b:List Int)(c:Int):bf (sC F a b k c)=Vn F k (⟨a.l,a.b3,[]⟩:I.bt) b c (a.l.length:Int):=(show bf (sC F a b k c)=bf (sC F (⟨a.l,a.b3,[]⟩:I.bt) b k c) by kernel_rfl).trans (dJ ⟨rfl,trivial⟩).symm
noncomputable def ar4(F:Nat):aQ aG:=(arT F).b1 77 5 F ⟨[0,69,70],[.p (.B 0),.p (.i .i64),.p (.i .i64)],[k3,.m 9 3,.r 3 true],
 [⟨⟨.nm,[],[],[k3,.m 9 3,.r 3 true]⟩,Unit,λ d r=>((),((d.2.1.1,(),(),()),d.2.2.1,d.2.2.2.1,()))⟩,
  ⟨⟨.rt,[2],[.p (.i .i64)],[k3,.m 9 3,.r 3 true]⟩,Int×I.bt,λ d r=>((r.1,()),((d.2.1.1,(),(),()),d.2.2.1,r.2.dB,()))⟩],
 λ k d=>Vn F k (⟨d.2.1.1,d.2.2.1,[]⟩:I.bt) d.2.2.2.1 d.1.2.2.1 d.1.2.1⟩ (bO.bX (λ d=>dI) λ k da db q h=>by
 obtain⟨_,(v0:Int),(v1:Int),_⟩:=da
 obtain⟨⟨(a:List I.ap),_,_,_⟩,(v3:List ((List UInt8)×Int)),(v4:List Int),_⟩:=db
 obtain⟨b,_⟩:=eh h
 dsimp only at b
 obtain⟨rfl,_⟩:=b
 conv=>rhs;change ee (α:=Unit⊕(Int×I.bt)) _ (Vn F (k+1) (⟨a,v3,[]⟩:I.bt) v4 v1 (a.length:Int));rw[<-Zz F (k+1) (⟨a,v3,[]⟩:I.bt) v4 v1];simp only[sC,ba,ZA,Zz];simp only[bW]
 kernel_rfl)
noncomputable def asd(F:Nat):aQ aG:=(ar4 F).rt 77 ⟨[.p (.B 0)],[k3,.m 9 3,.r 3 false],[.p (.i .i64)],[k3,.m 9 3,.r 3 false],Int×I.bt,λ d=>Pc F (⟨d.2.1.1,d.2.2.1,d.2.2.2.1⟩:I.bt),λ d r=>((r.1,()),((d.2.1.1,(),(),()),d.2.2.1,r.2.dB,()))⟩ λ da db=>by
 obtain⟨_,_⟩:=da;obtain⟨⟨(v0:List I.ap),_,_,_⟩,(v1:List ((List UInt8)×Int)),(a:List Int),_⟩:=db;conv=>rhs;simp only[Pc,ba,Zx,Zy,Zz]
 kernel_rfl
noncomputable def asp(F:Nat):aQ aG:=(asd F).rt 78 ⟨[.p (.B 0)],[eD,.m 9 3],[.p (.i .i64)],[eD,.m 9 3],Int,λ d=>Pd F (⟨d.2.1.1,d.2.2.1,d.2.1.2.2.1⟩:I.bt),λ d r=>((r,()),((d.2.1.1,(),d.2.1.2.2.1,()),d.2.2.1,()))⟩ λ da db=>by
 conv=>rhs;simp only[Pd,ba]
 kernel_rfl
noncomputable def ast(F:Nat):aQ aG:=(asp F).rt 112 ⟨[.a [.i .i64,.s],.p (.B 0)],[.c 120 [.R 1],.r 9 false],[],[.c 120 [.R 1],.r 9 false],List (List UInt8),λ d=>DH (LG d.1.1) d.2.2.1,λ d r=>((),(((),()),r,()))⟩ λ da db=>by
 conv=>rhs;simp only[DH,ba]
 kernel_rfl
noncomputable def Vy(k:Nat)(a:I.ap)(DB:List (List UInt8))(c:Int)(bQ:Int)(b:List I.Field):=dq ((a.Fields.length:Int)=bQ/\(a.Fields:List I.Field)=b/\True) (xp a k DB c)
theorem ZK(k:Nat)(a:I.ap)(DB:List (List UInt8))(b:Int):xp a k DB b=Vy k a DB b (a.Fields.length:Int) a.Fields:=(dJ ⟨rfl,rfl,trivial⟩).symm
noncomputable def asu(F:Nat):aQ aG:=(ast F).b1 79 2 F ⟨[0,3,4,6,23,24,25,30,31,32],[.p (.B 0),.p (.B 2),.f 112 [.B 2],.p (.B 4),.p (.l 134),.p (.i .i64),.p (.i .i64),.p (.l 136),.p (.i .i64),.p (.i .i64)],[eD,.m 9 3,.c 120 [.R 3],.r 9 false,ik],
 [⟨⟨.nm,[0,3,4,6,23,24,25],[.p (.B 0),.p (.B 2),.f 112 [.B 2],.p (.B 4),.p (.l 134),.p (.i .i64),.p (.i .i64)],[eD,.m 9 3,.c 120 [.R 3],.r 9 false,ik]⟩,List (List UInt8),λ d r=>(((),(),((),()),(),d.1.2.2.2.2.1,d.1.2.2.2.2.2.1,d.1.2.2.2.2.2.2.1,()),((d.2.1.1,(),d.2.1.2.2.1,()),d.2.2.1,((),()),r,d.2.2.2.2.2.1,()))⟩],
 λ k d=>Vy k (⟨d.2.2.2.2.2.1.1,d.2.2.2.2.2.1.2.1,d.1.2.2.2.2.2.2.2.1,d.2.2.2.2.2.1.2.2.2.1⟩:I.ap) d.2.2.2.2.1 d.1.2.2.2.2.2.2.2.2.2.1 d.1.2.2.2.2.2.2.2.2.1 d.2.2.2.2.2.1.2.2.1⟩ (bO.bX (λ d=>dI) λ k da db q h=>by
 obtain⟨_,_,⟨_,_⟩,_,(v0:List I.ap),(v1:Int),(g:Int),(v3:List I.Field),(v4:Int),(v5:Int),_⟩:=da
 obtain⟨⟨(i:List I.ap),_,(j:List Int),_⟩,(l:List ((List UInt8)×Int)),⟨_,_⟩,(v9:List (List UInt8)),⟨(a:List UInt8),(b:List UInt8),(f:List I.Field),(c:List I.Method),_⟩,_⟩:=db
 obtain⟨e,_⟩:=eh h
 dsimp only at e
 obtain⟨rfl,rfl,_⟩:=e
 conv=>rhs;change ee (α:=List (List UInt8)) _ (Vy (k+1) (⟨a,b,v3,c⟩:I.ap) v9 v5 (v3.length:Int) (v3));rw[<-ZK (k+1) (⟨a,b,v3,c⟩:I.ap) v9 v5];simp only[xp,ba,ZK];simp only[bW]
 kernel_rfl)
noncomputable def VA(k:Nat)(a:I.Method)(c:List (List UInt8))(d:Int)(e:Int)(b:List I.Kind):=dq ((a.cD.length:Int)=e/\(a.cD:List I.Kind)=b/\True) (xq a k c d)
theorem ZM(k:Nat)(a:I.Method)(b:List (List UInt8))(c:Int):xq a k b c=VA k a b c (a.cD.length:Int) a.cD:=(dJ ⟨rfl,rfl,trivial⟩).symm
noncomputable def asD(F:Nat):aQ aG:=(asu F).b1 79 6 F ⟨[0,3,4,10,23,24,25,42,43,44,49,50,51],[.p (.B 0),.p (.B 2),.f 112 [.B 2],.p (.B 4),.p (.l 134),.p (.i .i64),.p (.i .i64),.p (.l 131),.p (.i .i64),.p (.i .i64),.p (.l 128),.p (.i .i64),.p (.i .i64)],[eD,.m 9 3,.c 120 [.R 3],.r 9 false,mu],
 [⟨⟨.nm,[0,3,4,10,23,24,25,42,43,44],[.p (.B 0),.p (.B 2),.f 112 [.B 2],.p (.B 4),.p (.l 134),.p (.i .i64),.p (.i .i64),.p (.l 131),.p (.i .i64),.p (.i .i64)],[eD,.m 9 3,.c 120 [.R 3],.r 9 false,mu]⟩,List (List UInt8),λ d r=>(((),(),((),()),(),d.1.2.2.2.2.1,d.1.2.2.2.2.2.1,d.1.2.2.2.2.2.2.1,d.1.2.2.2.2.2.2.2.1,d.1.2.2.2.2.2.2.2.2.1,d.1.2.2.2.2.2.2.2.2.2.1,()),((d.2.1.1,(),d.2.1.2.2.1,()),d.2.2.1,((),()),r,d.2.2.2.2.2.1,()))⟩],
 λ k d=>VA k (⟨d.2.2.2.2.2.1.1,d.2.2.2.2.2.1.2.1,d.1.2.2.2.2.2.2.2.2.2.2.1,(LG d.2.2.2.2.2.1.2.2.2),d.2.2.2.2.2.1.2.2.2.2.2.1,d.2.2.2.2.2.1.2.2.2.2.2.2.1,d.2.2.2.2.2.1.2.2.2.2.2.2.2.1,d.2.2.2.2.2.1.2.2.2.2.2.2.2.2.1⟩:I.Method) d.2.2.2.2.1 d.1.2.2.2.2.2.2.2.2.2.2.2.2.1 d.1.2.2.2.2.2.2.2.2.2.2.2.1 d.2.2.2.2.2.1.2.2.1⟩ (bO.bX (λ d=>dI) λ k da db q h=>by
 obtain⟨_,_,⟨_,_⟩,_,(v0:List I.ap),(v1:Int),(s:Int),(v3:List I.Method),(v4:Int),(v5:Int),(f:List I.Kind),(t:Int),(g:Int),_⟩:=da
 obtain⟨⟨(v9:List I.ap),_,(o:List Int),_⟩,(p:List ((List UInt8)×Int)),⟨_,_⟩,(a:List (List UInt8)),⟨(i:List UInt8),(j:Bool),(u:List I.Kind),(l:Int),(b:List UInt8),(nz:Int),(m:Int),(c:List UInt8),(e:List I.Handler),_⟩,_⟩:=db
 obtain⟨n,_⟩:=eh h
 dsimp only at n
 obtain⟨rfl,rfl,_⟩:=n
 conv=>rhs;change ee (α:=List (List UInt8)) _ (VA (k+1) (⟨i,j,f,(⟨l,b⟩:I.Kind),nz,m,c,e⟩:I.Method) a g (f.length:Int) (f));rw[<-ZM (k+1) (⟨i,j,f,(⟨l,b⟩:I.Kind),nz,m,c,e⟩:I.Method) a g];simp only[xq,ba,ZM];simp only[bW]
 kernel_rfl)
noncomputable def VB(k:Nat)(a:I.Method)(b:List (List UInt8))(c:Int)(d:Int):=dq ((a.cL.length:Int)=d/\True) (sI a k b c)
theorem ZN(k:Nat)(a:I.Method)(b:List (List UInt8))(c:Int):sI a k b c=VB k (⟨[],false,[],(⟨0,[]⟩:I.Kind),0,0,[],a.cL⟩:I.Method) b c (a.cL.length:Int):=(show sI a k b c=sI (⟨[],false,[],(⟨0,[]⟩:I.Kind),0,0,[],a.cL⟩:I.Method) k b c by kernel_rfl).trans (dJ ⟨rfl,trivial⟩).symm
noncomputable def asG(F:Nat):aQ aG:=(asD F).b1 79 8 F ⟨[0,3,4,23,24,25,42,43,44,64,65,66],[.p (.B 0),.p (.B 2),.f 112 [.B 2],.p (.l 134),.p (.i .i64),.p (.i .i64),.p (.l 131),.p (.i .i64),.p (.i .i64),.p (.l 157),.p (.i .i64),.p (.i .i64)],[eD,.m 9 3,.c 120 [.R 3],.r 9 false],
 [⟨⟨.nm,[0,3,4,23,24,25,42,43,44],[.p (.B 0),.p (.B 2),.f 112 [.B 2],.p (.l 134),.p (.i .i64),.p (.i .i64),.p (.l 131),.p (.i .i64),.p (.i .i64)],[eD,.m 9 3,.c 120 [.R 3],.r 9 false]⟩,List (List UInt8),λ d r=>(((),(),((),()),d.1.2.2.2.1,d.1.2.2.2.2.1,d.1.2.2.2.2.2.1,d.1.2.2.2.2.2.2.1,d.1.2.2.2.2.2.2.2.1,d.1.2.2.2.2.2.2.2.2.1,()),((d.2.1.1,(),d.2.1.2.2.1,()),d.2.2.1,((),()),r,()))⟩],
 λ k d=>VB k (⟨[],false,[],(⟨0,[]⟩:I.Kind),0,0,[],d.1.2.2.2.2.2.2.2.2.2.1⟩:I.Method) d.2.2.2.2.1 d.1.2.2.2.2.2.2.2.2.2.2.2.1 d.1.2.2.2.2.2.2.2.2.2.2.1⟩ (bO.bX (λ d=>dI) λ k da db q h=>by
 obtain⟨_,_,⟨_,_⟩,(v0:List I.ap),(v1:Int),(i:Int),(v3:List I.Method),(v4:Int),(v5:Int),(b:List I.Handler),(j:Int),(c:Int),_⟩:=da
 obtain⟨⟨(v9:List I.ap),_,(f:List Int),_⟩,(g:List ((List UInt8)×Int)),⟨_,_⟩,(a:List (List UInt8)),_⟩:=db
 obtain⟨e,_⟩:=eh h
 dsimp only at e
 obtain⟨rfl,_⟩:=e
 conv=>rhs;change ee (α:=List (List UInt8)) _ (VB (k+1) (⟨[],false,[],(⟨0,[]⟩:I.Kind),0,0,[],b⟩:I.Method) a c (b.length:Int));rw[<-ZN (k+1) (⟨[],false,[],(⟨0,[]⟩:I.Kind),0,0,[],b⟩:I.Method) a c];simp only[sI,ba,ZN];simp only[bW]
 kernel_rfl)
noncomputable def Vz(F:Nat)(k:Nat)(a:I.ap)(b:List (List UInt8))(c:Int)(bQ:Int):=dq ((a.bp.length:Int)=bQ/\True) (sH F a k b c)
theorem ZL(F:Nat)(k:Nat)(a:I.ap)(b:List (List UInt8))(c:Int):sH F a k b c=Vz F k (⟨[],[],[],a.bp⟩:I.ap) b c (a.bp.length:Int):=(show sH F a k b c=sH F (⟨[],[],[],a.bp⟩:I.ap) k b c by kernel_rfl).trans (dJ ⟨rfl,trivial⟩).symm
noncomputable def asH(F:Nat):aQ aG:=(asG F).b1 79 4 F ⟨[0,3,4,23,24,25,42,43,44],[.p (.B 0),.p (.B 2),.f 112 [.B 2],.p (.l 134),.p (.i .i64),.p (.i .i64),.p (.l 131),.p (.i .i64),.p (.i .i64)],[eD,.m 9 3,.c 120 [.R 3],.r 9 false],
 [⟨⟨.nm,[0,3,4,23,24,25],[.p (.B 0),.p (.B 2),.f 112 [.B 2],.p (.l 134),.p (.i .i64),.p (.i .i64)],[eD,.m 9 3,.c 120 [.R 3],.r 9 false]⟩,List (List UInt8),λ d r=>(((),(),((),()),d.1.2.2.2.1,d.1.2.2.2.2.1,d.1.2.2.2.2.2.1,()),((d.2.1.1,(),d.2.1.2.2.1,()),d.2.2.1,((),()),r,()))⟩],
 λ k d=>Vz F k (⟨[],[],[],d.1.2.2.2.2.2.2.1⟩:I.ap) d.2.2.2.2.1 d.1.2.2.2.2.2.2.2.2.1 d.1.2.2.2.2.2.2.2.1⟩ (bO.bX (λ d=>dI) λ k da db q h=>by
 obtain⟨_,_,⟨_,_⟩,(v0:List I.ap),(v1:Int),(b:Int),(v3:List I.Method),(v4:Int),(v5:Int),_⟩:=da
 obtain⟨⟨(c:List I.ap),_,(e:List Int),_⟩,(f:List ((List UInt8)×Int)),⟨_,_⟩,(v9:List (List UInt8)),_⟩:=db
 obtain⟨a,_⟩:=eh h
 dsimp only at a
 obtain⟨rfl,_⟩:=a
 conv=>rhs;change ee (α:=List (List UInt8)) _ (Vz F (k+1) (⟨[],[],[],v3⟩:I.ap) v9 v5 (v3.length:Int));rw[<-ZL F (k+1) (⟨[],[],[],v3⟩:I.ap) v9 v5];simp only[sH,ba,ZM,ZN,ZL];simp only[bW]
 kernel_rfl)
noncomputable def Vx(F:Nat)(k:Nat)(a:I.bt)(DA:List (List UInt8))(b:Int)(c:Int)(aT:List I.ap):=dq ((a.l.length:Int)=c/\(a.l:List I.ap)=aT/\True) (xo F a k DA b)
theorem ZJ(F:Nat)(k:Nat)(a:I.bt)(DA:List (List UInt8))(b:Int):xo F a k DA b=Vx F k a DA b (a.l.length:Int) a.l:=(dJ ⟨rfl,rfl,trivial⟩).symm
noncomputable def asJ(F:Nat):aQ aG:=(asH F).b1 79 0 F ⟨[0,3,4,23,24,25],[.p (.B 0),.p (.B 2),.f 112 [.B 2],.p (.l 134),.p (.i .i64),.p (.i .i64)],[eD,.m 9 3,.c 120 [.R 3],.r 9 false],
 [⟨⟨.nm,[0,3],[.p (.B 0),.p (.B 2)],[eD,.m 9 3,.c 120 [.R 3],.r 9 false]⟩,List (List UInt8),λ d r=>(((),(),()),((d.2.1.1,(),d.2.1.2.2.1,()),d.2.2.1,((),()),r,()))⟩],
 λ k d=>Vx F k (⟨d.1.2.2.2.1,d.2.2.1,d.2.1.2.2.1⟩:I.bt) d.2.2.2.2.1 d.1.2.2.2.2.2.1 d.1.2.2.2.2.1 d.2.1.1⟩ (bO.bX (λ d=>dI) λ k da db q h=>by
 obtain⟨_,_,⟨_,_⟩,(v0:List I.ap),(v1:Int),(a:Int),_⟩:=da
 obtain⟨⟨(v3:List I.ap),_,(v4:List Int),_⟩,(v5:List ((List UInt8)×Int)),⟨_,_⟩,(b:List (List UInt8)),_⟩:=db
 obtain⟨c,_⟩:=eh h
 dsimp only at c
 obtain⟨rfl,rfl,_⟩:=c
 conv=>rhs;change ee (α:=List (List UInt8)) _ (Vx F (k+1) (⟨v0,v5,v4⟩:I.bt) b a (v0.length:Int) (v0));rw[<-ZJ F (k+1) (⟨v0,v5,v4⟩:I.bt) b a];simp only[xo,ba,ZK,ZL,ZJ];simp only[bW]
 kernel_rfl)
noncomputable def VC(k:Nat)(b:I.bt)(a:List (List UInt8))(c:Int)(d:Int):=dq ((a.length:Int)=d/\True) (bf (zR b a k c))
theorem ZO(k:Nat)(b:I.bt)(a:List (List UInt8))(c:Int):bf (zR b a k c)=VC k b a c (a.length:Int):=(dJ ⟨rfl,trivial⟩).symm
noncomputable def asK(F:Nat):aQ aG:=(asJ F).b1 79 10 F ⟨[0,78,79,80],[.p (.B 0),.p (.R 2),.p (.i .i64),.p (.i .i64)],[eD,.m 9 3,.r 9 true],
 [⟨⟨.nm,[],[],[eD,.m 9 3,.d]⟩,Unit,λ d r=>((),((d.2.1.1,(),d.2.1.2.2.1,()),d.2.2.1,(),()))⟩,
  ⟨⟨.rt,[2],[.p (.i .i64)],[eD,.m 9 3,.d]⟩,Int,λ d r=>((r,()),((d.2.1.1,(),d.2.1.2.2.1,()),d.2.2.1,(),()))⟩],
 λ k d=>VC k (⟨d.2.1.1,d.2.2.1,d.2.1.2.2.1⟩:I.bt) d.2.2.2.1 d.1.2.2.2.1 d.1.2.2.1⟩ (bO.bX (λ d=>dI) λ k da db q h=>by
 obtain⟨_,_,(v0:Int),(v1:Int),_⟩:=da
 obtain⟨⟨(a:List I.ap),_,(v3:List Int),_⟩,(v4:List ((List UInt8)×Int)),(v5:List (List UInt8)),_⟩:=db
 obtain⟨b,_⟩:=eh h
 dsimp only at b
 obtain⟨rfl,_⟩:=b
 conv=>rhs;change ee (α:=Unit⊕Int) _ (VC (k+1) (⟨a,v4,v3⟩:I.bt) v5 v1 (v5.length:Int));rw[<-ZO (k+1) (⟨a,v4,v3⟩:I.bt) v5 v1];simp only[zR,ba,ZO];simp only[bW]
 kernel_rfl)
noncomputable def asL(F:Nat):aQ aG:=(asK F).rt 79 ⟨[.p (.B 0)],[eD,.m 9 3],[.p (.i .i64)],[eD,.m 9 3],Int,λ d=>Kr F (⟨d.2.1.1,d.2.2.1,d.2.1.2.2.1⟩:I.bt),λ d r=>((r,()),((d.2.1.1,(),d.2.1.2.2.1,()),d.2.2.1,()))⟩ λ da db=>by
 obtain⟨_,_⟩:=da;obtain⟨⟨(v0:List I.ap),_,(v1:List Int),_⟩,(a:List ((List UInt8)×Int)),_⟩:=db;conv=>rhs;simp only[Kr,ba,ZJ,ZO]
 kernel_rfl
noncomputable def VE(k:Nat)(a:List (List UInt8))(b:List ((List UInt8)×Bool))(c:Int)(d:List (List UInt8))(ao:Int):=dq ((a:List (List UInt8))=d/\(a.length:Int)=ao/\True) (zS a k b c)
theorem ZQ(k:Nat)(a:List (List UInt8))(b:List ((List UInt8)×Bool))(c:Int):zS a k b c=VE k a b c a (a.length:Int):=(dJ ⟨rfl,rfl,trivial⟩).symm
noncomputable def asM(F:Nat):aQ aG:=(asL F).b1 113 0 F ⟨[0,3,7,8,9],[.p (.l 9),.p (.M 0),.p (.l 9),.p (.i .i64),.p (.i .i64)],[.m 9 4],
 [⟨⟨.nm,[0,3],[.p (.l 9),.p (.M 0)],[.m 9 4]⟩,List ((List UInt8)×Bool),λ d r=>((d.1.1,(),()),(r,()))⟩],
 λ k d=>VE k d.1.1 d.2.1 d.1.2.2.2.2.1 d.1.2.2.1 d.1.2.2.2.1⟩ (bO.bX (λ d=>dI) λ k da db q h=>by
 obtain⟨(v0:List (List UInt8)),_,(v1:List (List UInt8)),(b:Int),(v3:Int),_⟩:=da
 obtain⟨(v4:List ((List UInt8)×Bool)),_⟩:=db
 obtain⟨a,_⟩:=eh h
 dsimp only at a
 obtain⟨rfl,rfl,_⟩:=a
 conv=>rhs;change ee (α:=List ((List UInt8)×Bool)) _ (VE (k+1) v0 v4 v3 (v0) (v0.length:Int));rw[<-ZQ (k+1) v0 v4 v3];simp only[zS,ba,ZQ];simp only[bW]
 kernel_rfl)
noncomputable def asN(F:Nat):aQ aG:=(asM F).rt 113 ⟨[.p (.l 9)],[],[.p (.b)],[],Bool,λ d=>Gv F d.1.1,λ d r=>((r,()),())⟩ λ da db=>by
 obtain⟨(v0:List (List UInt8)),_⟩:=da;conv=>rhs;simp only[Gv,ba,ZQ]
 kernel_rfl
noncomputable def Vv(k:Nat)(b:List I.Field)(c:List (List UInt8))(d:Int)(aT:Int)(a:List (List UInt8)):=dq ((b.length:Int)=aT/\([]:List (List UInt8))=a/\True) (xn b k c d)
theorem ZH(k:Nat)(a:List I.Field)(b:List (List UInt8))(c:Int):xn a k b c=Vv k a b c (a.length:Int) []:=(dJ ⟨rfl,rfl,trivial⟩).symm
noncomputable def asO(F:Nat):aQ aG:=(asN F).b1 80 2 F ⟨[0,4,5,6,14,15,16,23,24,25],[.p (.B 0),.p (.B 2),.p (.R 3),.p (.R 4),.p (.l 134),.p (.i .i64),.p (.i .i64),.p (.R 5),.p (.i .i64),.p (.i .i64)],[eD,.m 9 3,ik,.r 9 false,.r 9 false,.r 136 true],
 [⟨⟨.nm,[0,4,5,6,14,15,16],[.p (.B 0),.p (.B 2),.p (.R 3),.p (.R 4),.p (.l 134),.p (.i .i64),.p (.i .i64)],[eD,.m 9 3,ik,.r 9 false,.r 9 false,.d]⟩,List (List UInt8),λ d r=>(((),(),(),(),d.1.2.2.2.2.1,d.1.2.2.2.2.2.1,d.1.2.2.2.2.2.2.1,()),((d.2.1.1,(),d.2.1.2.2.1,()),d.2.2.1,d.2.2.2.1,r,d.2.2.2.2.2.1,(),()))⟩],
 λ k d=>Vv k d.2.2.2.2.2.2.1 d.2.2.2.2.1 d.1.2.2.2.2.2.2.2.2.2.1 d.1.2.2.2.2.2.2.2.2.1 d.2.2.2.2.2.1⟩ (bO.bX (λ d=>dI) λ k da db q h=>by
 obtain⟨_,_,_,_,(v0:List I.ap),(v1:Int),(g:Int),_,(v3:Int),(v4:Int),_⟩:=da
 obtain⟨⟨(v5:List I.ap),_,(i:List Int),_⟩,(j:List ((List UInt8)×Int)),⟨(l:List UInt8),(v9:List UInt8),(e:List I.Field),(f:List I.Method),_⟩,(a:List (List UInt8)),(m:List (List UInt8)),(b:List I.Field),_⟩:=db
 obtain⟨c,_⟩:=eh h
 dsimp only at c
 obtain⟨rfl,rfl,_⟩:=c
 conv=>rhs;change ee (α:=List (List UInt8)) _ (Vv (k+1) b a v4 (b.length:Int) ([]));rw[<-ZH (k+1) b a v4];simp only[xn,ba,ZH];simp only[bW]
 kernel_rfl)
noncomputable def Vw(k:Nat)(a:I.ap)(b:List (List UInt8))(c:Int)(bQ:Int):=dq ((a.bp.length:Int)=bQ/\True) (sG a k b c)
theorem ZI(k:Nat)(a:I.ap)(b:List (List UInt8))(c:Int):sG a k b c=Vw k (⟨[],[],[],a.bp⟩:I.ap) b c (a.bp.length:Int):=(show sG a k b c=sG (⟨[],[],[],a.bp⟩:I.ap) k b c by kernel_rfl).trans (dJ ⟨rfl,trivial⟩).symm
noncomputable def asP(F:Nat):aQ aG:=(asO F).b1 80 4 F ⟨[0,5,6,14,15,16,36,37,38],[.p (.B 0),.p (.R 2),.p (.R 3),.p (.l 134),.p (.i .i64),.p (.i .i64),.p (.l 131),.p (.i .i64),.p (.i .i64)],[eD,.m 9 3,.r 9 false,.r 9 false],
 [⟨⟨.nm,[0,5,6,14,15,16],[.p (.B 0),.p (.R 2),.p (.R 3),.p (.l 134),.p (.i .i64),.p (.i .i64)],[eD,.m 9 3,.r 9 false,.r 9 false]⟩,List (List UInt8),λ d r=>(((),(),(),d.1.2.2.2.1,d.1.2.2.2.2.1,d.1.2.2.2.2.2.1,()),((d.2.1.1,(),d.2.1.2.2.1,()),d.2.2.1,d.2.2.2.1,r,()))⟩],
 λ k d=>Vw k (⟨[],[],[],d.1.2.2.2.2.2.2.1⟩:I.ap) d.2.2.2.2.1 d.1.2.2.2.2.2.2.2.2.1 d.1.2.2.2.2.2.2.2.1⟩ (bO.bX (λ d=>dI) λ k da db q h=>by
 obtain⟨_,_,_,(v0:List I.ap),(v1:Int),(c:Int),(v3:List I.Method),(v4:Int),(v5:Int),_⟩:=da
 obtain⟨⟨(e:List I.ap),_,(f:List Int),_⟩,(g:List ((List UInt8)×Int)),(v9:List (List UInt8)),(a:List (List UInt8)),_⟩:=db
 obtain⟨b,_⟩:=eh h
 dsimp only at b
 obtain⟨rfl,_⟩:=b
 conv=>rhs;change ee (α:=List (List UInt8)) _ (Vw (k+1) (⟨[],[],[],v3⟩:I.ap) a v5 (v3.length:Int));rw[<-ZI (k+1) (⟨[],[],[],v3⟩:I.ap) a v5];simp only[sG,ba,ZI];simp only[bW]
 kernel_rfl)
noncomputable def Vu(F:Nat)(k:Nat)(a:I.bt)(b:Int)(c:Int)(aT:List I.ap):=dq ((a.l.length:Int)=c/\(a.l:List I.ap)=aT/\True) (bf (zO F a k b))
theorem ZG(F:Nat)(k:Nat)(a:I.bt)(b:Int):bf (zO F a k b)=Vu F k a b (a.l.length:Int) a.l:=(dJ ⟨rfl,rfl,trivial⟩).symm
noncomputable def asQ(F:Nat):aQ aG:=(asP F).b1 80 0 F ⟨[0,14,15,16],[.p (.B 0),.p (.l 134),.p (.i .i64),.p (.i .i64)],[eD,.m 9 3],
 [⟨⟨.nm,[],[],[eD,.m 9 3]⟩,Unit,λ d r=>((),((d.2.1.1,(),d.2.1.2.2.1,()),d.2.2.1,()))⟩,
  ⟨⟨.rt,[2],[.p (.i .i64)],[eD,.m 9 3]⟩,Int,λ d r=>((r,()),((d.2.1.1,(),d.2.1.2.2.1,()),d.2.2.1,()))⟩],
 λ k d=>Vu F k (⟨d.1.2.1,d.2.2.1,d.2.1.2.2.1⟩:I.bt) d.1.2.2.2.1 d.1.2.2.1 d.2.1.1⟩ (bO.bX (λ d=>dI) λ k da db q h=>by
 obtain⟨_,(v0:List I.ap),(v1:Int),(a:Int),_⟩:=da
 obtain⟨⟨(v3:List I.ap),_,(v4:List Int),_⟩,(v5:List ((List UInt8)×Int)),_⟩:=db
 obtain⟨b,_⟩:=eh h
 dsimp only at b
 obtain⟨rfl,rfl,_⟩:=b
 conv=>rhs;change ee (α:=Unit⊕Int) _ (Vu F (k+1) (⟨v0,v5,v4⟩:I.bt) a (v0.length:Int) (v0));rw[<-ZG F (k+1) (⟨v0,v5,v4⟩:I.bt) a];simp only[zO,ba,ZH,ZI,ZG];simp only[bW]
 kernel_rfl)
noncomputable def asR(F:Nat):aQ aG:=(asQ F).rt 80 ⟨[.p (.B 0)],[eD,.m 9 3],[.p (.i .i64)],[eD,.m 9 3],Int,λ d=>Kq F (⟨d.2.1.1,d.2.2.1,d.2.1.2.2.1⟩:I.bt),λ d r=>((r,()),((d.2.1.1,(),d.2.1.2.2.1,()),d.2.2.1,()))⟩ λ da db=>by
 obtain⟨_,_⟩:=da;obtain⟨⟨(v0:List I.ap),_,(v1:List Int),_⟩,(a:List ((List UInt8)×Int)),_⟩:=db;conv=>rhs;simp only[Kq,ba,ZG]
 kernel_rfl
noncomputable def asS(F:Nat):aQ aG:=(asR F).b1 114 0 F ⟨[0,1,5],[.p (.B 0),.p (.i .i64),.p (.R 2)],[eD,.m 9 3,.r 3 false],
 [⟨⟨.nm,[5],[.p (.R 2)],[eD,.m 9 3,.r 3 false]⟩,List Int,λ d r=>(((),()),((d.2.1.1,(),d.2.1.2.2.1,()),d.2.2.1,r,()))⟩],
 λ k d=>sE (⟨d.2.1.1,d.2.2.1,d.2.1.2.2.1⟩:I.bt) k d.2.2.2.1 d.1.2.1⟩ (bO.bX (λ d=>rfl) λ k da db q h=>by
 conv=>rhs;simp only[sE,ba];simp only[bW]
 kernel_rfl)
noncomputable def asU(F:Nat):aQ aG:=(asS F).rt 114 ⟨[.p (.B 0),.p (.i .i64)],[eD,.m 9 3],[.p (.l 3)],[eD,.m 9 3],List Int,λ d=>sD F (⟨d.2.1.1,d.2.2.1,d.2.1.2.2.1⟩:I.bt) d.1.2.1,λ d r=>((r,()),((d.2.1.1,(),d.2.1.2.2.1,()),d.2.2.1,()))⟩ λ da db=>by
 conv=>rhs;simp only[sD,ba]
 kernel_rfl
noncomputable def VM(k:Nat)(a:List I.Kind)(cc:List I.Kind)(dg:Int)(ao:Int):=dq ((a.length:Int)=ao/\True) (bf (D8 a cc k dg))
theorem ZY(k:Nat)(a:List I.Kind)(cc:List I.Kind)(dg:Int):bf (D8 a cc k dg)=VM k a cc dg (a.length:Int):=(dJ ⟨rfl,trivial⟩).symm
noncomputable def asV(F:Nat):aQ aG:=(asU F).b1 143 0 F ⟨[0,1,12,13],[.p (.l 128),.p (.l 128),.p (.i .i64),.p (.i .i64)],[],
 [⟨⟨.nm,[],[],[]⟩,Unit,λ d r=>((),())⟩,
  ⟨⟨.rt,[4],[.p (.b)],[]⟩,Bool,λ d r=>((r,()),())⟩],
 λ k d=>VM k d.1.1 d.1.2.1 d.1.2.2.2.1 d.1.2.2.1⟩ (bO.bX (λ d=>dI) λ k da db q h=>by
 obtain⟨(v0:List I.Kind),(v1:List I.Kind),(b:Int),(v3:Int),_⟩:=da
 obtain⟨a,_⟩:=eh h
 dsimp only at a
 obtain⟨rfl,_⟩:=a
 conv=>rhs;change ee (α:=Unit⊕Bool) _ (VM (k+1) v0 v1 v3 (v0.length:Int));rw[<-ZY (k+1) v0 v1 v3];simp only[D8,ba,ZY];simp only[bW]
 kernel_rfl)
noncomputable def asW(F:Nat):aQ aG:=(asV F).rt 143 ⟨[.p (.l 128),.p (.l 128)],[],[.p (.b)],[],Bool,λ d=>Ls F d.1.1 d.1.2.1,λ d r=>((r,()),())⟩ λ da db=>by
 obtain⟨(v0:List I.Kind),(v1:List I.Kind),_⟩:=da;conv=>rhs;simp only[Ls,ba,ZY]
 kernel_rfl
noncomputable def asX(F:Nat):aQ aG:=(asW F).rt 115 ⟨[P0,P0],[],[.p (.b)],[],Bool,λ d=>Pb F (u' d.1.1) (u' d.1.2.1),λ d r=>((r,()),())⟩ λ da db=>by
 obtain⟨⟨(v0:List UInt8),(v1:Bool),(f:List I.Kind),(v3:Int),(v4:List UInt8),(v5:Int),(g:Int),(h:List UInt8),(i:List I.Handler),_⟩,⟨(v9:List UInt8),(a:Bool),(b:List I.Kind),(c:Int),(j:List UInt8),(k:Int),(l:Int),(m:List UInt8),(e:List I.Handler),_⟩,_⟩:=da;conv=>rhs;simp only[Pb,ba,aED]
 kernel_rfl
noncomputable def Vs(F:Nat)(k:Nat)(b:I.Method)(a:I.ap)(c:Int)(FE:Int):=dq ((a.bp.length:Int)=FE/\True) (bf (sF F b a k c))
theorem ZE(F:Nat)(k:Nat)(b:I.Method)(a:I.ap)(c:Int):bf (sF F b a k c)=Vs F k b (⟨[],[],[],a.bp⟩:I.ap) c (a.bp.length:Int):=(show bf (sF F b a k c)=bf (sF F b (⟨[],[],[],a.bp⟩:I.ap) k c) by kernel_rfl).trans (dJ ⟨rfl,trivial⟩).symm
noncomputable def asY(F:Nat):aQ aG:=(asX F).b1 81 6 F ⟨[0,4,6,8,14,15,16,24,25,26,31,32,33,44,45,46],[.p (.B 0),.p (.B 2),.p (.i .i64),.p (.B 3),.p (.l 134),.p (.i .i64),.p (.i .i64),.p (.l 3),.p (.i .i64),.p (.i .i64),.p (.l 131),.p (.i .i64),.p (.i .i64),.p (.l 131),.p (.i .i64),.p (.i .i64)],[eD,.m 9 3,ik,mu],
 [⟨⟨.nm,[0,4,6,14,15,16,24,25,26,31,32,33],[.p (.B 0),.p (.B 2),.p (.i .i64),.p (.l 134),.p (.i .i64),.p (.i .i64),.p (.l 3),.p (.i .i64),.p (.i .i64),.p (.l 131),.p (.i .i64),.p (.i .i64)],[eD,.m 9 3,ik,mu]⟩,Unit,λ d r=>(((),(),d.1.2.2.1,d.1.2.2.2.2.1,d.1.2.2.2.2.2.1,d.1.2.2.2.2.2.2.1,d.1.2.2.2.2.2.2.2.1,d.1.2.2.2.2.2.2.2.2.1,d.1.2.2.2.2.2.2.2.2.2.1,d.1.2.2.2.2.2.2.2.2.2.2.1,d.1.2.2.2.2.2.2.2.2.2.2.2.1,d.1.2.2.2.2.2.2.2.2.2.2.2.2.1,()),((d.2.1.1,(),d.2.1.2.2.1,()),d.2.2.1,d.2.2.2.1,d.2.2.2.2.1,()))⟩,
  ⟨⟨.rt,[2],[.p (.i .i64)],[eD,.m 9 3,.d,.d]⟩,Int,λ d r=>((r,()),((d.2.1.1,(),d.2.1.2.2.1,()),d.2.2.1,(),(),()))⟩],
 λ k d=>Vs F k (u' d.2.2.2.2.1) (⟨[],[],[],d.1.2.2.2.2.2.2.2.2.2.2.2.2.2.1⟩:I.ap) d.1.2.2.2.2.2.2.2.2.2.2.2.2.2.2.2.1 d.1.2.2.2.2.2.2.2.2.2.2.2.2.2.2.1⟩ (bO.bX (λ d=>dI) λ k da db q h=>by
 obtain⟨_,_,(v0:Int),_,(v1:List I.ap),(p:Int),(v3:Int),(v4:List Int),(v5:Int),(s:Int),(t:List I.Method),(u:Int),(v9:Int),(a:List I.Method),(n:Int),(b:Int),_⟩:=da
 obtain⟨⟨(v:List I.ap),_,(w:List Int),_⟩,(x:List ((List UInt8)×Int)),⟨(y:List UInt8),(o:List UInt8),(nz:List I.Field),(z:List I.Method),_⟩,⟨(c:List UInt8),(e:Bool),(v22:List I.Kind),(f:Int),(g:List UInt8),(v25:Int),(i:Int),(j:List UInt8),(l:List I.Handler),_⟩,_⟩:=db
 obtain⟨m,_⟩:=eh h
 dsimp only at m
 obtain⟨rfl,_⟩:=m
 conv=>rhs;change ee (α:=Unit⊕Int) _ (Vs F (k+1) (⟨c,e,v22,(⟨f,g⟩:I.Kind),v25,i,j,l⟩:I.Method) (⟨[],[],[],a⟩:I.ap) b (a.length:Int));rw[<-ZE F (k+1) (⟨c,e,v22,(⟨f,g⟩:I.Kind),v25,i,j,l⟩:I.Method) (⟨[],[],[],a⟩:I.ap) b];simp only[sF,ba,ZE];simp only[bW]
 kernel_rfl)
noncomputable def Vr(F:Nat)(k:Nat)(a:I.bt)(b:I.ap)(d:Int)(e:Int)(ao:Int)(f:Int)(FD:List I.ap)(c:List I.Method):=dq ((a.l.length:Int)=ao/\(b.bp.length:Int)=f/\(a.l:List I.ap)=FD/\(b.bp:List I.Method)=c/\True) (bf (zN F a b d k e))
theorem ZD(F:Nat)(k:Nat)(a:I.bt)(b:I.ap)(c:Int)(d:Int):bf (zN F a b c k d)=Vr F k a b c d (a.l.length:Int) (b.bp.length:Int) a.l b.bp:=(dJ ⟨rfl,rfl,rfl,rfl,trivial⟩).symm
noncomputable def asZ(F:Nat):aQ aG:=(asY F).b1 81 4 F ⟨[0,4,6,14,15,16,24,25,26,31,32,33],[.p (.B 0),.p (.B 2),.p (.i .i64),.p (.l 134),.p (.i .i64),.p (.i .i64),.p (.l 3),.p (.i .i64),.p (.i .i64),.p (.l 131),.p (.i .i64),.p (.i .i64)],[eD,.m 9 3,ik],
 [⟨⟨.nm,[0,4,14,15,16,24,25,26],[.p (.B 0),.p (.B 2),.p (.l 134),.p (.i .i64),.p (.i .i64),.p (.l 3),.p (.i .i64),.p (.i .i64)],[eD,.m 9 3,ik]⟩,Unit,λ d r=>(((),(),d.1.2.2.2.1,d.1.2.2.2.2.1,d.1.2.2.2.2.2.1,d.1.2.2.2.2.2.2.1,d.1.2.2.2.2.2.2.2.1,d.1.2.2.2.2.2.2.2.2.1,()),((d.2.1.1,(),d.2.1.2.2.1,()),d.2.2.1,d.2.2.2.1,()))⟩,
  ⟨⟨.rt,[2],[.p (.i .i64)],[eD,.m 9 3,.d]⟩,Int,λ d r=>((r,()),((d.2.1.1,(),d.2.1.2.2.1,()),d.2.2.1,(),()))⟩],
 λ k d=>Vr F k (⟨d.1.2.2.2.1,d.2.2.1,d.2.1.2.2.1⟩:I.bt) (⟨d.2.2.2.1.1,d.2.2.2.1.2.1,d.2.2.2.1.2.2.1,d.1.2.2.2.2.2.2.2.2.2.1⟩:I.ap) d.1.2.2.1 d.1.2.2.2.2.2.2.2.2.2.2.2.1 d.1.2.2.2.2.1 d.1.2.2.2.2.2.2.2.2.2.2.1 d.2.1.1 d.2.2.2.1.2.2.2.1⟩ (bO.bX (λ d=>dI) λ k da db q h=>by
 obtain⟨_,_,(v0:Int),(v1:List I.ap),(l:Int),(v3:Int),(v4:List Int),(v5:Int),(m:Int),(c:List I.Method),(n:Int),(v9:Int),_⟩:=da
 obtain⟨⟨(j:List I.ap),_,(a:List Int),_⟩,(b:List ((List UInt8)×Int)),⟨(e:List UInt8),(f:List UInt8),(g:List I.Field),(o:List I.Method),_⟩,_⟩:=db
 obtain⟨i,_⟩:=eh h
 dsimp only at i
 obtain⟨rfl,rfl,rfl,rfl,_⟩:=i
 conv=>rhs;change ee (α:=Unit⊕Int) _ (Vr F (k+1) (⟨v1,b,a⟩:I.bt) (⟨e,f,g,c⟩:I.ap) v0 v9 (v1.length:Int) (c.length:Int) (v1) (c));rw[<-ZD F (k+1) (⟨v1,b,a⟩:I.bt) (⟨e,f,g,c⟩:I.ap) v0 v9];simp only[zN,ba,ZE,ZD];simp only[bW]
 kernel_rfl)
noncomputable def Vq(F:Nat)(k:Nat)(a:I.bt)(c:I.ap)(b:List Int)(d:Int)(e:Int)(bQ:Int)(eR:List I.ap):=dq ((a.l.length:Int)=e/\(b.length:Int)=bQ/\(a.l:List I.ap)=eR/\True) (bf (zM F a c b k d))
theorem ZC(F:Nat)(k:Nat)(a:I.bt)(c:I.ap)(b:List Int)(d:Int):bf (zM F a c b k d)=Vq F k a c b d (a.l.length:Int) (b.length:Int) a.l:=(dJ ⟨rfl,rfl,rfl,trivial⟩).symm
noncomputable def as0(F:Nat):aQ aG:=(asZ F).b1 81 2 F ⟨[0,4,14,15,16,24,25,26],[.p (.B 0),.p (.B 2),.p (.l 134),.p (.i .i64),.p (.i .i64),.p (.l 3),.p (.i .i64),.p (.i .i64)],[eD,.m 9 3,ik],
 [⟨⟨.nm,[0,14,15,16],[.p (.B 0),.p (.l 134),.p (.i .i64),.p (.i .i64)],[eD,.m 9 3,ik]⟩,Unit,λ d r=>(((),d.1.2.2.1,d.1.2.2.2.1,d.1.2.2.2.2.1,()),((d.2.1.1,(),d.2.1.2.2.1,()),d.2.2.1,d.2.2.2.1,()))⟩,
  ⟨⟨.rt,[2],[.p (.i .i64)],[eD,.m 9 3,.d]⟩,Int,λ d r=>((r,()),((d.2.1.1,(),d.2.1.2.2.1,()),d.2.2.1,(),()))⟩],
 λ k d=>Vq F k (⟨d.1.2.2.1,d.2.2.1,d.2.1.2.2.1⟩:I.bt) (Ho d.2.2.2.1) d.1.2.2.2.2.2.1 d.1.2.2.2.2.2.2.2.1 d.1.2.2.2.1 d.1.2.2.2.2.2.2.1 d.2.1.1⟩ (bO.bX (λ d=>dI) λ k da db q h=>by
 obtain⟨_,_,(v0:List I.ap),(v1:Int),(i:Int),(v3:List Int),(v4:Int),(v5:Int),_⟩:=da
 obtain⟨⟨(j:List I.ap),_,(e:List Int),_⟩,(f:List ((List UInt8)×Int)),⟨(v9:List UInt8),(a:List UInt8),(b:List I.Field),(c:List I.Method),_⟩,_⟩:=db
 obtain⟨g,_⟩:=eh h
 dsimp only at g
 obtain⟨rfl,rfl,rfl,_⟩:=g
 conv=>rhs;change ee (α:=Unit⊕Int) _ (Vq F (k+1) (⟨v0,f,e⟩:I.bt) (⟨v9,a,b,c⟩:I.ap) v3 v5 (v0.length:Int) (v3.length:Int) (v0));rw[<-ZC F (k+1) (⟨v0,f,e⟩:I.bt) (⟨v9,a,b,c⟩:I.ap) v3 v5];simp only[zM,ba,ZD,ZC];simp only[bW]
 kernel_rfl)
noncomputable def Vp(F:Nat)(k:Nat)(a:I.bt)(b:Int)(c:Int)(aT:List I.ap):=dq ((a.l.length:Int)=c/\(a.l:List I.ap)=aT/\True) (bf (zL F a k b))
theorem ZB(F:Nat)(k:Nat)(a:I.bt)(b:Int):bf (zL F a k b)=Vp F k a b (a.l.length:Int) a.l:=(dJ ⟨rfl,rfl,trivial⟩).symm
noncomputable def as1(F:Nat):aQ aG:=(as0 F).b1 81 0 F ⟨[0,14,15,16],[.p (.B 0),.p (.l 134),.p (.i .i64),.p (.i .i64)],[eD,.m 9 3],
 [⟨⟨.nm,[],[],[eD,.m 9 3]⟩,Unit,λ d r=>((),((d.2.1.1,(),d.2.1.2.2.1,()),d.2.2.1,()))⟩,
  ⟨⟨.rt,[2],[.p (.i .i64)],[eD,.m 9 3]⟩,Int,λ d r=>((r,()),((d.2.1.1,(),d.2.1.2.2.1,()),d.2.2.1,()))⟩],
 λ k d=>Vp F k (⟨d.1.2.1,d.2.2.1,d.2.1.2.2.1⟩:I.bt) d.1.2.2.2.1 d.1.2.2.1 d.2.1.1⟩ (bO.bX (λ d=>dI) λ k da db q h=>by
 obtain⟨_,(v0:List I.ap),(v1:Int),(a:Int),_⟩:=da
 obtain⟨⟨(v3:List I.ap),_,(v4:List Int),_⟩,(v5:List ((List UInt8)×Int)),_⟩:=db
 obtain⟨b,_⟩:=eh h
 dsimp only at b
 obtain⟨rfl,rfl,_⟩:=b
 conv=>rhs;change ee (α:=Unit⊕Int) _ (Vp F (k+1) (⟨v0,v5,v4⟩:I.bt) a (v0.length:Int) (v0));rw[<-ZB F (k+1) (⟨v0,v5,v4⟩:I.bt) a];simp only[zL,ba,ZC,ZB];simp only[bW]
 kernel_rfl)
noncomputable def as2(F:Nat):aQ aG:=(as1 F).rt 81 ⟨[.p (.B 0)],[eD,.m 9 3],[.p (.i .i64)],[eD,.m 9 3],Int,λ d=>Kp F (⟨d.2.1.1,d.2.2.1,d.2.1.2.2.1⟩:I.bt),λ d r=>((r,()),((d.2.1.1,(),d.2.1.2.2.1,()),d.2.2.1,()))⟩ λ da db=>by
 obtain⟨_,_⟩:=da;obtain⟨⟨(v0:List I.ap),_,(v1:List Int),_⟩,(a:List ((List UInt8)×Int)),_⟩:=db;conv=>rhs;simp only[Kp,ba,ZB]
 kernel_rfl
noncomputable def Vk(F:Nat)(k:Nat)(a:List I.ap)(c:Int×I.bt)(b:Int×I.bt)(d:List (List I.Target))(e:List (List (List UInt8)))(f:List (List I.Field))(g:Int)(h:Int)(ao:List I.ap)(aT:List Int)(bQ:List (List I.Field))(dw:List (List (List UInt8)))(eR:List (List I.Target))(FD:List I.ap)(FE:List Int):=dq ((a.length:Int)=h/\([]:List I.ap)=ao/\([]:List Int)=aT/\([]:List (List I.Field))=bQ/\([]:List (List (List UInt8)))=dw/\([]:List (List I.Target))=eR/\(a:List I.ap)=FD/\(b.2.dB:List Int)=FE/\True) (bf (oF F a c b k d e f g))
theorem Zw(F:Nat)(k:Nat)(a:List I.ap)(c:Int×I.bt)(b:Int×I.bt)(d:List (List I.Target))(e:List (List (List UInt8)))(f:List (List I.Field))(g:Int):bf (oF F a c b k d e f g)=Vk F k a (0,(⟨[],c.2.b3,[]⟩:I.bt)) (0,(⟨[],[],b.2.dB⟩:I.bt)) d e f g (a.length:Int) [] [] [] [] [] a b.2.dB:=(show bf (oF F a c b k d e f g)=bf (oF F a (0,(⟨[],c.2.b3,[]⟩:I.bt)) (0,(⟨[],[],b.2.dB⟩:I.bt)) k d e f g) by kernel_rfl).trans (dJ ⟨rfl,rfl,rfl,rfl,rfl,rfl,rfl,rfl,trivial⟩).symm
noncomputable def as3(F:Nat):aQ aG:=(as2 F).b1 46 2 F ⟨[2,5,9,62,63],[.p (.B 0),.p (.B 1),.p (.B 3),.p (.i .i64),.p (.i .i64)],[dX,akq,.m 9 3,aks,.r 124 false,.r 120 false,.r 121 false],
 [⟨⟨.nm,[2,9],[.p (.B 0),.p (.B 3)],[dX,akq,.m 9 3,aks,.r 124 false,.r 120 false,.r 121 false]⟩,(List (List I.Target))×(List (List (List UInt8)))×(List (List I.Field)),λ d r=>(((),(),()),(d.2.1,(d.2.2.1.1,(),d.2.2.1.2.2.1,()),d.2.2.2.1,(d.2.2.2.2.1.1,d.2.2.2.2.1.2.1,(),(),(),()),r.2.2,r.2.1,r.1,()))⟩,
  ⟨⟨.rt,[2,3],[.p (.B 0),.p (.i .i64)],[dX,.d,.d,.d,.d,.d,.d]⟩,I.aO×Int,λ d r=>(((),r.2,()),((r.1.a6,r.1.aY,r.1.Fields,r.1.Names,r.1.aZ,()),(),(),(),(),(),(),()))⟩],
 λ k d=>Vk F k d.2.2.1.1 (0,(⟨[],d.2.2.2.1,[]⟩:I.bt)) (0,(⟨[],[],d.2.2.1.2.2.1⟩:I.bt)) d.2.2.2.2.2.2.2.1 d.2.2.2.2.2.2.1 d.2.2.2.2.2.1 d.1.2.2.2.2.1 d.1.2.2.2.1 d.2.1.1 d.2.1.2.1 d.2.1.2.2.1 d.2.1.2.2.2.1 d.2.1.2.2.2.2.1 d.2.2.2.2.1.1 d.2.2.2.2.1.2.1⟩ (bO.bX (λ d=>dI) λ k da db q h=>by
 obtain⟨_,_,_,(v0:Int),(v1:Int),_⟩:=da
 obtain⟨⟨(l:List I.ap),(v3:List Int),(v4:List (List I.Field)),(v5:List (List (List UInt8))),(m:List (List I.Target)),_⟩,⟨(b:List I.ap),_,(c:List Int),_⟩,(v9:List ((List UInt8)×Int)),⟨(i:List I.ap),(j:List Int),_,_,_,_⟩,(a:List (List I.Field)),(e:List (List (List UInt8))),(f:List (List I.Target)),_⟩:=db
 obtain⟨g,_⟩:=eh h
 dsimp only at g
 obtain⟨rfl,rfl,rfl,rfl,rfl,rfl,rfl,rfl,_⟩:=g
 conv=>rhs;change ee (α:=((List (List I.Target))×(List (List (List UInt8)))×(List (List I.Field)))⊕(I.aO×Int)) _ (Vk F (k+1) b (0,(⟨[],v9,[]⟩:I.bt)) (0,(⟨[],[],c⟩:I.bt)) f e a v1 (b.length:Int) ([]) ([]) ([]) ([]) ([]) (b) ((0,(⟨[],[],c⟩:I.bt)).2.dB));rw[<-Zw F (k+1) b (0,(⟨[],v9,[]⟩:I.bt)) (0,(⟨[],[],c⟩:I.bt)) f e a v1];simp only[oF,ba,Zw];simp only[bW]
 kernel_rfl)
noncomputable def as5(F:Nat):aQ aG:=(as3 F).rt 46 ⟨[.p (.l 134)],[],[hD,.p (.i .i64)],[],I.aO×Int,λ d=>DF F d.1.1,λ d r=>(((r.1.a6,r.1.aY,r.1.Fields,r.1.Names,r.1.aZ,()),r.2,()),())⟩ λ da db=>by
 obtain⟨(v0:List I.ap),_⟩:=da;conv=>rhs;simp only[DF,ba,Zw]
 kernel_rfl
noncomputable def VO(k:Nat)(a:List Int)(cc:List Int)(dg:Int)(ao:Int):=dq ((a.length:Int)=ao/\True) (bf (AG a cc k dg))
theorem Z0(k:Nat)(a:List Int)(cc:List Int)(dg:Int):bf (AG a cc k dg)=VO k a cc dg (a.length:Int):=(dJ ⟨rfl,trivial⟩).symm
noncomputable def as6(F:Nat):aQ aG:=(as5 F).b1 126 0 F ⟨[0,1,12,13],[.p (.l 3),.p (.l 3),.p (.i .i64),.p (.i .i64)],[],
 [⟨⟨.nm,[],[],[]⟩,Unit,λ d r=>((),())⟩,
  ⟨⟨.rt,[4],[.p (.b)],[]⟩,Bool,λ d r=>((r,()),())⟩],
 λ k d=>VO k d.1.1 d.1.2.1 d.1.2.2.2.1 d.1.2.2.1⟩ (bO.bX (λ d=>dI) λ k da db q h=>by
 obtain⟨(v0:List Int),(v1:List Int),(b:Int),(v3:Int),_⟩:=da
 obtain⟨a,_⟩:=eh h
 dsimp only at a
 obtain⟨rfl,_⟩:=a
 conv=>rhs;change ee (α:=Unit⊕Bool) _ (VO (k+1) v0 v1 v3 (v0.length:Int));rw[<-Z0 (k+1) v0 v1 v3];simp only[AG,ba,Z0];simp only[bW]
 kernel_rfl)
noncomputable def as7(F:Nat):aQ aG:=(as6 F).rt 126 ⟨[.p (.l 3),.p (.l 3)],[],[.p (.b)],[],Bool,λ d=>Lu F d.1.1 d.1.2.1,λ d r=>((r,()),())⟩ λ da db=>by
 obtain⟨(v0:List Int),(v1:List Int),_⟩:=da;conv=>rhs;simp only[Lu,ba,Z0]
 kernel_rfl
noncomputable def VL(k:Nat)(a:List I.Field)(cc:List I.Field)(dg:Int)(ao:Int):=dq ((a.length:Int)=ao/\True) (bf (AE a cc k dg))
theorem ZX(k:Nat)(a:List I.Field)(cc:List I.Field)(dg:Int):bf (AE a cc k dg)=VL k a cc dg (a.length:Int):=(dJ ⟨rfl,trivial⟩).symm
noncomputable def as8(F:Nat):aQ aG:=(as7 F).b1 128 0 F ⟨[0,1,12,13],[.p (.l 136),.p (.l 136),.p (.i .i64),.p (.i .i64)],[],
 [⟨⟨.nm,[],[],[]⟩,Unit,λ d r=>((),())⟩,
  ⟨⟨.rt,[4],[.p (.b)],[]⟩,Bool,λ d r=>((r,()),())⟩],
 λ k d=>VL k d.1.1 d.1.2.1 d.1.2.2.2.1 d.1.2.2.1⟩ (bO.bX (λ d=>dI) λ k da db q h=>by
 obtain⟨(v0:List I.Field),(v1:List I.Field),(b:Int),(v3:Int),_⟩:=da
 obtain⟨a,_⟩:=eh h
 dsimp only at a
 obtain⟨rfl,_⟩:=a
 conv=>rhs;change ee (α:=Unit⊕Bool) _ (VL (k+1) v0 v1 v3 (v0.length:Int));rw[<-ZX (k+1) v0 v1 v3];simp only[AE,ba,ZX];simp only[bW]
 kernel_rfl)
noncomputable def as9(F:Nat):aQ aG:=(as8 F).rt 128 ⟨[.p (.l 136),.p (.l 136)],[],[.p (.b)],[],Bool,λ d=>Lr F d.1.1 d.1.2.1,λ d r=>((r,()),())⟩ λ da db=>by
 obtain⟨(v0:List I.Field),(v1:List I.Field),_⟩:=da;conv=>rhs;simp only[Lr,ba,ZX]
 kernel_rfl
noncomputable def VI(F:Nat)(k:Nat)(a:List (List I.Field))(cc:List (List I.Field))(b:Int)(ao:Int):=dq ((a.length:Int)=ao/\True) (bf (AB F a cc k b))
theorem ZU(F:Nat)(k:Nat)(a:List (List I.Field))(cc:List (List I.Field))(b:Int):bf (AB F a cc k b)=VI F k a cc b (a.length:Int):=(dJ ⟨rfl,trivial⟩).symm
noncomputable def as_(F:Nat):aQ aG:=(as9 F).b1 127 0 F ⟨[1,2,15,16,17],[.p (.l 124),.f 128 [],.p (.l 124),.p (.i .i64),.p (.i .i64)],[],
 [⟨⟨.nm,[],[],[]⟩,Unit,λ d r=>((),())⟩,
  ⟨⟨.rt,[6],[.p (.b)],[]⟩,Bool,λ d r=>((r,()),())⟩],
 λ k d=>VI F k d.1.2.2.1 d.1.1 d.1.2.2.2.2.1 d.1.2.2.2.1⟩ (bO.bX (λ d=>dI) λ k da db q h=>by
 obtain⟨(v0:List (List I.Field)),_,(v1:List (List I.Field)),(b:Int),(v3:Int),_⟩:=da
 obtain⟨a,_⟩:=eh h
 dsimp only at a
 obtain⟨rfl,_⟩:=a
 conv=>rhs;change ee (α:=Unit⊕Bool) _ (VI F (k+1) v1 v0 v3 (v1.length:Int));rw[<-ZU F (k+1) v1 v0 v3];simp only[AB,ba,ZU];simp only[bW]
 kernel_rfl)
noncomputable def as'(F:Nat):aQ aG:=(as_ F).rt 127 ⟨[.p (.l 124),.p (.l 124),.f 128 []],[],[.p (.b)],[],Bool,λ d=>Ln F d.1.1 d.1.2.1,λ d r=>((r,()),())⟩ λ da db=>by
 obtain⟨(v0:List (List I.Field)),(v1:List (List I.Field)),_,_⟩:=da;conv=>rhs;simp only[Ln,ba,ZU]
 kernel_rfl
noncomputable def VP(k:Nat)(a:List (List UInt8))(cc:List (List UInt8))(dg:Int)(ao:Int):=dq ((a.length:Int)=ao/\True) (bf (AH a cc k dg))
theorem Z1(k:Nat)(a:List (List UInt8))(cc:List (List UInt8))(dg:Int):bf (AH a cc k dg)=VP k a cc dg (a.length:Int):=(dJ ⟨rfl,trivial⟩).symm
noncomputable def ata(F:Nat):aQ aG:=(as' F).b1 130 0 F ⟨[0,1,12,13],[.p (.l 9),.p (.l 9),.p (.i .i64),.p (.i .i64)],[],
 [⟨⟨.nm,[],[],[]⟩,Unit,λ d r=>((),())⟩,
  ⟨⟨.rt,[4],[.p (.b)],[]⟩,Bool,λ d r=>((r,()),())⟩],
 λ k d=>VP k d.1.1 d.1.2.1 d.1.2.2.2.1 d.1.2.2.1⟩ (bO.bX (λ d=>dI) λ k da db q h=>by
 obtain⟨(v0:List (List UInt8)),(v1:List (List UInt8)),(b:Int),(v3:Int),_⟩:=da
 obtain⟨a,_⟩:=eh h
 dsimp only at a
 obtain⟨rfl,_⟩:=a
 conv=>rhs;change ee (α:=Unit⊕Bool) _ (VP (k+1) v0 v1 v3 (v0.length:Int));rw[<-Z1 (k+1) v0 v1 v3];simp only[AH,ba,Z1];simp only[bW]
 kernel_rfl)
noncomputable def atb(F:Nat):aQ aG:=(ata F).rt 130 ⟨[.p (.l 9),.p (.l 9)],[],[.p (.b)],[],Bool,λ d=>Lv F d.1.1 d.1.2.1,λ d r=>((r,()),())⟩ λ da db=>by
 obtain⟨(v0:List (List UInt8)),(v1:List (List UInt8)),_⟩:=da;conv=>rhs;simp only[Lv,ba,Z1]
 kernel_rfl
noncomputable def VK(F:Nat)(k:Nat)(a:List (List (List UInt8)))(cc:List (List (List UInt8)))(b:Int)(ao:Int):=dq ((a.length:Int)=ao/\True) (bf (AD F a cc k b))
theorem ZW(F:Nat)(k:Nat)(a:List (List (List UInt8)))(cc:List (List (List UInt8)))(b:Int):bf (AD F a cc k b)=VK F k a cc b (a.length:Int):=(dJ ⟨rfl,trivial⟩).symm
noncomputable def atc(F:Nat):aQ aG:=(atb F).b1 129 0 F ⟨[1,2,15,16,17],[.p (.l 120),.f 130 [],.p (.l 120),.p (.i .i64),.p (.i .i64)],[],
 [⟨⟨.nm,[],[],[]⟩,Unit,λ d r=>((),())⟩,
  ⟨⟨.rt,[6],[.p (.b)],[]⟩,Bool,λ d r=>((r,()),())⟩],
 λ k d=>VK F k d.1.2.2.1 d.1.1 d.1.2.2.2.2.1 d.1.2.2.2.1⟩ (bO.bX (λ d=>dI) λ k da db q h=>by
 obtain⟨(v0:List (List (List UInt8))),_,(v1:List (List (List UInt8))),(b:Int),(v3:Int),_⟩:=da
 obtain⟨a,_⟩:=eh h
 dsimp only at a
 obtain⟨rfl,_⟩:=a
 conv=>rhs;change ee (α:=Unit⊕Bool) _ (VK F (k+1) v1 v0 v3 (v1.length:Int));rw[<-ZW F (k+1) v1 v0 v3];simp only[AD,ba,ZW];simp only[bW]
 kernel_rfl)
noncomputable def ate(F:Nat):aQ aG:=(atc F).rt 129 ⟨[.p (.l 120),.p (.l 120),.f 130 []],[],[.p (.b)],[],Bool,λ d=>Lq F d.1.1 d.1.2.1,λ d r=>((r,()),())⟩ λ da db=>by
 obtain⟨(v0:List (List (List UInt8))),(v1:List (List (List UInt8))),_,_⟩:=da;conv=>rhs;simp only[Lq,ba,ZW]
 kernel_rfl
noncomputable def VN(k:Nat)(a:List I.Target)(cc:List I.Target)(dg:Int)(ao:Int):=dq ((a.length:Int)=ao/\True) (bf (AF a cc k dg))
theorem ZZ(k:Nat)(a:List I.Target)(cc:List I.Target)(dg:Int):bf (AF a cc k dg)=VN k a cc dg (a.length:Int):=(dJ ⟨rfl,trivial⟩).symm
noncomputable def atf(F:Nat):aQ aG:=(ate F).b1 132 0 F ⟨[0,1,12,13],[.p (.l 166),.p (.l 166),.p (.i .i64),.p (.i .i64)],[],
 [⟨⟨.nm,[],[],[]⟩,Unit,λ d r=>((),())⟩,
  ⟨⟨.rt,[4],[.p (.b)],[]⟩,Bool,λ d r=>((r,()),())⟩],
 λ k d=>VN k d.1.1 d.1.2.1 d.1.2.2.2.1 d.1.2.2.1⟩ (bO.bX (λ d=>dI) λ k da db q h=>by
 obtain⟨(v0:List I.Target),(v1:List I.Target),(b:Int),(v3:Int),_⟩:=da
 obtain⟨a,_⟩:=eh h
 dsimp only at a
 obtain⟨rfl,_⟩:=a
 conv=>rhs;change ee (α:=Unit⊕Bool) _ (VN (k+1) v0 v1 v3 (v0.length:Int));rw[<-ZZ (k+1) v0 v1 v3];simp only[AF,ba,ZZ];simp only[bW]
 kernel_rfl)
noncomputable def atg(F:Nat):aQ aG:=(atf F).rt 132 ⟨[.p (.l 166),.p (.l 166)],[],[.p (.b)],[],Bool,λ d=>Lt F d.1.1 d.1.2.1,λ d r=>((r,()),())⟩ λ da db=>by
 obtain⟨(v0:List I.Target),(v1:List I.Target),_⟩:=da;conv=>rhs;simp only[Lt,ba,ZZ]
 kernel_rfl
noncomputable def VJ(F:Nat)(k:Nat)(a:List (List I.Target))(cc:List (List I.Target))(b:Int)(ao:Int):=dq ((a.length:Int)=ao/\True) (bf (AC F a cc k b))
theorem ZV(F:Nat)(k:Nat)(a:List (List I.Target))(cc:List (List I.Target))(b:Int):bf (AC F a cc k b)=VJ F k a cc b (a.length:Int):=(dJ ⟨rfl,trivial⟩).symm
noncomputable def ath(F:Nat):aQ aG:=(atg F).b1 131 0 F ⟨[1,2,15,16,17],[.p (.l 121),.f 132 [],.p (.l 121),.p (.i .i64),.p (.i .i64)],[],
 [⟨⟨.nm,[],[],[]⟩,Unit,λ d r=>((),())⟩,
  ⟨⟨.rt,[6],[.p (.b)],[]⟩,Bool,λ d r=>((r,()),())⟩],
 λ k d=>VJ F k d.1.2.2.1 d.1.1 d.1.2.2.2.2.1 d.1.2.2.2.1⟩ (bO.bX (λ d=>dI) λ k da db q h=>by
 obtain⟨(v0:List (List I.Target)),_,(v1:List (List I.Target)),(b:Int),(v3:Int),_⟩:=da
 obtain⟨a,_⟩:=eh h
 dsimp only at a
 obtain⟨rfl,_⟩:=a
 conv=>rhs;change ee (α:=Unit⊕Bool) _ (VJ F (k+1) v1 v0 v3 (v1.length:Int));rw[<-ZV F (k+1) v1 v0 v3];simp only[AC,ba,ZV];simp only[bW]
 kernel_rfl)
noncomputable def ati(F:Nat):aQ aG:=(ath F).rt 131 ⟨[.p (.l 121),.p (.l 121),.f 132 []],[],[.p (.b)],[],Bool,λ d=>Lp F d.1.1 d.1.2.1,λ d r=>((r,()),())⟩ λ da db=>by
 obtain⟨(v0:List (List I.Target)),(v1:List (List I.Target)),_,_⟩:=da;conv=>rhs;simp only[Lp,ba,ZV]
 kernel_rfl
noncomputable def atj(F:Nat):aQ aG:=(ati F).rt 100 ⟨[hD,hD],[],[.p (.b)],[],Bool,λ d=>Gu F (fj d.1.1) (fj d.1.2.1),λ d r=>((r,()),())⟩ λ da db=>by
 conv=>rhs;simp only[Gu,ba]
 kernel_rfl
noncomputable def atk(F:Nat):aQ aG:=(atj F).rt 64 ⟨[hD],[],[.p (.i .i64)],[],Int,λ d=>oE F (fj d.1.1),λ d r=>((r,()),())⟩ λ da db=>by
 conv=>rhs;simp only[oE,ba]
 kernel_rfl
noncomputable def atl(F:Nat):aQ aG:=(atk F).rt 84 ⟨[.p (.i .i64),.p (.i .i64),.p (.i .i64)],[],[.p (.b)],[],Bool,λ d=>py d.1.1 d.1.2.1 d.1.2.2.1,λ d r=>((r,()),())⟩ λ da db=>by
 conv=>rhs;simp only[py,ba]
 kernel_rfl
noncomputable def atm(F:Nat):aQ aG:=(atl F).rt 101 ⟨[ju],[],[.p (.i .i64)],[],Int,λ d=>F5 (dY d.1.1),λ d r=>((r,()),())⟩ λ da db=>by
 conv=>rhs;simp only[F5,ba]
 kernel_rfl
noncomputable def atn(F:Nat):aQ aG:=(atm F).rt 92 ⟨[hD,.p (.i .i64)],[],[.p (.b)],[],Bool,λ d=>wE (gX d.1.1) d.1.2.1,λ d r=>((r,()),())⟩ λ da db=>by
 conv=>rhs;simp only[wE,ba]
 kernel_rfl
noncomputable def atp(F:Nat):aQ aG:=(atn F).rt 93 ⟨[hD,.p (.i .i64),.p (.i .i64)],[],[.p (.b)],[],Bool,λ d=>wF (gX d.1.1) d.1.2.1 d.1.2.2.1,λ d r=>((r,()),())⟩ λ da db=>by
 conv=>rhs;simp only[wF,ba]
 kernel_rfl
noncomputable def Vd(k:Nat)(a:Int)(b:I.bj)(c:List Int)(d:List (Int×Bool))(e:Int):=dq (True) (bf (px a b k c d e))
theorem Zq(k:Nat)(b:Int)(a:I.bj)(c:List Int)(d:List (Int×Bool))(e:Int):bf (px b a k c d e)=Vd k b (⟨(⟨a.H.Words,a.H.ak,a.H.aM,a.H.aX,a.H.aW,a.H.aS,a.H.Next⟩:I.aV),(⟨(⟨a.S.K.a6,a.S.K.aY,a.S.K.Fields,a.S.K.Names,a.S.K.aZ⟩:I.aO)⟩:I.b'),a.ak,a.aM,[]⟩:I.bj) c d e:=(show bf (px b a k c d e)=bf (px b (⟨(⟨a.H.Words,a.H.ak,a.H.aM,a.H.aX,a.H.aW,a.H.aS,a.H.Next⟩:I.aV),(⟨(⟨a.S.K.a6,a.S.K.aY,a.S.K.Fields,a.S.K.Names,a.S.K.aZ⟩:I.aO)⟩:I.b'),a.ak,a.aM,[]⟩:I.bj) k c d e) by kernel_rfl).trans (dJ trivial).symm
noncomputable def atq(F:Nat):aQ aG:=(atp F).b1 102 0 F ⟨[0,2,8,9],[.p (.B 0),.p (.i .i64),.p (.R 2),.p (.i .i64)],[fK,.m 3 4,.r 3 false],
 [⟨⟨.nm,[8],[.p (.R 2)],[fK,.m 3 4,.r 3 false]⟩,(List Int)×(List (Int×Bool)),λ d r=>(((),()),((d.2.1.1,d.2.1.2.1,d.2.1.2.2.1,d.2.1.2.2.2.1,d.2.1.2.2.2.2.1,d.2.1.2.2.2.2.2.1,d.2.1.2.2.2.2.2.2.1,d.2.1.2.2.2.2.2.2.2.1,d.2.1.2.2.2.2.2.2.2.2.1,d.2.1.2.2.2.2.2.2.2.2.2.1,d.2.1.2.2.2.2.2.2.2.2.2.2.1,d.2.1.2.2.2.2.2.2.2.2.2.2.2.1,d.2.1.2.2.2.2.2.2.2.2.2.2.2.2.1,d.2.1.2.2.2.2.2.2.2.2.2.2.2.2.2.1,(),()),r.2,r.1,()))⟩,
  ⟨⟨.rt,[6,7],[.p (.l 3),.p (.b)],[fK,.m 3 4,.d]⟩,(List Int)×Bool×I.bj,λ d r=>((r.1,r.2.1,()),((d.2.1.1,d.2.1.2.1,d.2.1.2.2.1,d.2.1.2.2.2.1,d.2.1.2.2.2.2.1,d.2.1.2.2.2.2.2.1,d.2.1.2.2.2.2.2.2.1,d.2.1.2.2.2.2.2.2.2.1,d.2.1.2.2.2.2.2.2.2.2.1,d.2.1.2.2.2.2.2.2.2.2.2.1,d.2.1.2.2.2.2.2.2.2.2.2.2.1,d.2.1.2.2.2.2.2.2.2.2.2.2.2.1,d.2.1.2.2.2.2.2.2.2.2.2.2.2.2.1,d.2.1.2.2.2.2.2.2.2.2.2.2.2.2.2.1,(),()),r.2.2.dP,(),()))⟩],
 λ k d=>Vd k d.1.2.1 (⟨(dY d.2.1),(gX d.2.1.2.2.2.2.2.2.2),d.2.1.2.2.2.2.2.2.2.2.2.2.2.2.1,d.2.1.2.2.2.2.2.2.2.2.2.2.2.2.2.1,[]⟩:I.bj) d.2.2.2.1 d.2.2.1 d.1.2.2.2.1⟩ (bO.bX (λ d=>dI) λ k da db q h=>by
 obtain⟨_,(v0:Int),_,(v1:Int),_⟩:=da
 obtain⟨⟨(f:List Int),(v3:Int),(v4:Int),(v5:Int),(g:Int),(i:List Int),(j:Int),(v9:List I.ap),(a:List Int),(b:List (List I.Field)),(c:List (List (List UInt8))),(l:List (List I.Target)),(m:List Int),(n:List Int),_,_⟩,(o:List (Int×Bool)),(e:List Int),_⟩:=db
 conv=>rhs;change ee (α:=((List Int)×(List (Int×Bool)))⊕((List Int)×Bool×I.bj)) _ (Vd (k+1) v0 (⟨(⟨f,v3,v4,v5,g,i,j⟩:I.aV),(⟨(⟨v9,a,b,c,l⟩:I.aO)⟩:I.b'),m,n,[]⟩:I.bj) e o v1);rw[<-Zq (k+1) v0 (⟨(⟨f,v3,v4,v5,g,i,j⟩:I.aV),(⟨(⟨v9,a,b,c,l⟩:I.aO)⟩:I.b'),m,n,[]⟩:I.bj) e o v1];simp only[px,ba,Zq];simp only[bW]
 kernel_rfl)
noncomputable def atr(F:Nat):aQ aG:=(atq F).rt 102 ⟨[.p (.B 0),.p (.i .i64),.p (.i .i64)],[fK,.m 3 4],[.p (.l 3),.p (.b)],[fK,.m 3 4],(List Int)×Bool×I.bj,λ d=>na F (⟨(dY d.2.1),(gX d.2.1.2.2.2.2.2.2.2),d.2.1.2.2.2.2.2.2.2.2.2.2.2.2.1,d.2.1.2.2.2.2.2.2.2.2.2.2.2.2.2.1,d.2.2.1⟩:I.bj) d.1.2.1 d.1.2.2.1,λ d r=>((r.1,r.2.1,()),((d.2.1.1,d.2.1.2.1,d.2.1.2.2.1,d.2.1.2.2.2.1,d.2.1.2.2.2.2.1,d.2.1.2.2.2.2.2.1,d.2.1.2.2.2.2.2.2.1,d.2.1.2.2.2.2.2.2.2.1,d.2.1.2.2.2.2.2.2.2.2.1,d.2.1.2.2.2.2.2.2.2.2.2.1,d.2.1.2.2.2.2.2.2.2.2.2.2.1,d.2.1.2.2.2.2.2.2.2.2.2.2.2.1,d.2.1.2.2.2.2.2.2.2.2.2.2.2.2.1,d.2.1.2.2.2.2.2.2.2.2.2.2.2.2.2.1,(),()),r.2.2.dP,()))⟩ λ da db=>by
 obtain⟨_,(v0:Int),(v1:Int),_⟩:=da;obtain⟨⟨(e:List Int),(v3:Int),(v4:Int),(v5:Int),(f:Int),(g:List Int),(h:Int),(v9:List I.ap),(a:List Int),(b:List (List I.Field)),(c:List (List (List UInt8))),(i:List (List I.Target)),(j:List Int),(k:List Int),_,_⟩,(l:List (Int×Bool)),_⟩:=db;conv=>rhs;simp only[na,ba,Zq]
 kernel_rfl
noncomputable def VG(k:Nat)(a:List (List Int))(b:Int)(c:Int)(ao:List (List Int))(aT:Int):=dq ((a:List (List Int))=ao/\(a.length:Int)=aT/\True) (xN a k b c)
theorem ZS(k:Nat)(a:List (List Int))(b:Int)(c:Int):xN a k b c=VG k a b c a (a.length:Int):=(dJ ⟨rfl,rfl,trivial⟩).symm
noncomputable def ats(F:Nat):aQ aG:=(atr F).b1 135 0 F ⟨[0,3,9,10,11],[.p (.l 22),.p (.i .i64),.p (.l 22),.p (.i .i64),.p (.i .i64)],[],
 [⟨⟨.nm,[0,3],[.p (.l 22),.p (.i .i64)],[]⟩,Int,λ d r=>((d.1.1,r,()),())⟩],
 λ k d=>VG k d.1.1 d.1.2.1 d.1.2.2.2.2.1 d.1.2.2.1 d.1.2.2.2.1⟩ (bO.bX (λ d=>dI) λ k da db q h=>by
 obtain⟨(v0:List (List Int)),(v1:Int),(b:List (List Int)),(v3:Int),(v4:Int),_⟩:=da
 obtain⟨a,_⟩:=eh h
 dsimp only at a
 obtain⟨rfl,rfl,_⟩:=a
 conv=>rhs;change ee (α:=Int) _ (VG (k+1) v0 v1 v4 (v0) (v0.length:Int));rw[<-ZS (k+1) v0 v1 v4];simp only[xN,ba,ZS];simp only[bW]
 kernel_rfl)
noncomputable def VH(k:Nat)(a:List (List Int))(b:List Int)(c:Int)(d:Int):=dq ((a.length:Int)=d/\True) (xO a k b c)
theorem ZT(k:Nat)(a:List (List Int))(b:List Int)(c:Int):xO a k b c=VH k a b c (a.length:Int):=(dJ ⟨rfl,trivial⟩).symm
noncomputable def att(F:Nat):aQ aG:=(ats F).b1 135 2 F ⟨[6,25,26,27],[.p (.R 0),.p (.l 22),.p (.i .i64),.p (.i .i64)],[.r 3 false],
 [⟨⟨.nm,[6],[.p (.R 0)],[.r 3 false]⟩,List Int,λ d r=>(((),()),(r,()))⟩],
 λ k d=>VH k d.1.2.1 d.2.1 d.1.2.2.2.1 d.1.2.2.1⟩ (bO.bX (λ d=>dI) λ k da db q h=>by
 obtain⟨_,(v0:List (List Int)),(v1:Int),(a:Int),_⟩:=da
 obtain⟨(v3:List Int),_⟩:=db
 obtain⟨b,_⟩:=eh h
 dsimp only at b
 obtain⟨rfl,_⟩:=b
 conv=>rhs;change ee (α:=List Int) _ (VH (k+1) v0 v3 a (v0.length:Int));rw[<-ZT (k+1) v0 v3 a];simp only[xO,ba,ZT];simp only[bW]
 kernel_rfl)
noncomputable def atu(F:Nat):aQ aG:=(att F).rt 135 ⟨[.p (.l 22)],[],[.p (.l 3)],[],List Int,λ d=>Hl F d.1.1,λ d r=>((r,()),())⟩ λ da db=>by
 obtain⟨(v0:List (List Int)),_⟩:=da;conv=>rhs;simp only[Hl,ba,ZS,ZT,QL]
 kernel_rfl
noncomputable def atv(F:Nat):aQ aG:=(atu F).rt 133 ⟨[.p (.B 0)],[fK,.m 3 4],[.p (.l 3)],[fK,.m 3 4],List Int,λ d=>zo F (⟨(dY d.2.1),(gX d.2.1.2.2.2.2.2.2.2),d.2.1.2.2.2.2.2.2.2.2.2.2.2.2.1,d.2.1.2.2.2.2.2.2.2.2.2.2.2.2.2.1,d.2.2.1⟩:I.bj),λ d r=>((r,()),((d.2.1.1,d.2.1.2.1,d.2.1.2.2.1,d.2.1.2.2.2.1,d.2.1.2.2.2.2.1,d.2.1.2.2.2.2.2.1,d.2.1.2.2.2.2.2.2.1,d.2.1.2.2.2.2.2.2.2.1,d.2.1.2.2.2.2.2.2.2.2.1,d.2.1.2.2.2.2.2.2.2.2.2.1,d.2.1.2.2.2.2.2.2.2.2.2.2.1,d.2.1.2.2.2.2.2.2.2.2.2.2.2.1,d.2.1.2.2.2.2.2.2.2.2.2.2.2.2.1,d.2.1.2.2.2.2.2.2.2.2.2.2.2.2.2.1,(),()),d.2.2.1,()))⟩ λ da db=>by
 conv=>rhs;simp only[zo,ba]
 kernel_rfl
noncomputable def Va(k:Nat)(a:I.bj)(hE:List Int)(b:List (Int×Bool))(c:Int)(d:Int):=dq ((hE.length:Int)=d/\True) (bf (wH a hE k b c))
theorem Zn(k:Nat)(a:I.bj)(hE:List Int)(b:List (Int×Bool))(c:Int):bf (wH a hE k b c)=Va k a hE b c (hE.length:Int):=(dJ ⟨rfl,trivial⟩).symm
noncomputable def atw(F:Nat):aQ aG:=(atv F).b1 103 0 F ⟨[0,3,9,10,11],[.p (.B 0),.p (.M 2),.p (.l 3),.p (.i .i64),.p (.i .i64)],[fK,.m 3 4,.m 3 4],
 [⟨⟨.nm,[0,3],[.p (.B 0),.p (.M 2)],[fK,.m 3 4,.m 3 4]⟩,List (Int×Bool),λ d r=>(((),(),()),((d.2.1.1,d.2.1.2.1,d.2.1.2.2.1,d.2.1.2.2.2.1,d.2.1.2.2.2.2.1,d.2.1.2.2.2.2.2.1,d.2.1.2.2.2.2.2.2.1,d.2.1.2.2.2.2.2.2.2.1,d.2.1.2.2.2.2.2.2.2.2.1,d.2.1.2.2.2.2.2.2.2.2.2.1,d.2.1.2.2.2.2.2.2.2.2.2.2.1,d.2.1.2.2.2.2.2.2.2.2.2.2.2.1,d.2.1.2.2.2.2.2.2.2.2.2.2.2.2.1,d.2.1.2.2.2.2.2.2.2.2.2.2.2.2.2.1,(),()),d.2.2.1,r,()))⟩,
  ⟨⟨.rt,[2],[.p (.i .i64)],[fK,.m 3 4,.d]⟩,Int,λ d r=>((r,()),((d.2.1.1,d.2.1.2.1,d.2.1.2.2.1,d.2.1.2.2.2.1,d.2.1.2.2.2.2.1,d.2.1.2.2.2.2.2.1,d.2.1.2.2.2.2.2.2.1,d.2.1.2.2.2.2.2.2.2.1,d.2.1.2.2.2.2.2.2.2.2.1,d.2.1.2.2.2.2.2.2.2.2.2.1,d.2.1.2.2.2.2.2.2.2.2.2.2.1,d.2.1.2.2.2.2.2.2.2.2.2.2.2.1,d.2.1.2.2.2.2.2.2.2.2.2.2.2.2.1,d.2.1.2.2.2.2.2.2.2.2.2.2.2.2.2.1,(),()),d.2.2.1,(),()))⟩],
 λ k d=>Va k (⟨(dY d.2.1),(gX d.2.1.2.2.2.2.2.2.2),d.2.1.2.2.2.2.2.2.2.2.2.2.2.2.1,d.2.1.2.2.2.2.2.2.2.2.2.2.2.2.2.1,d.2.2.1⟩:I.bj) d.1.2.2.1 d.2.2.2.1 d.1.2.2.2.2.1 d.1.2.2.2.1⟩ (bO.bX (λ d=>dI) λ k da db q h=>by
 obtain⟨_,_,(v0:List Int),(v1:Int),(f:Int),_⟩:=da
 obtain⟨⟨(v3:List Int),(v4:Int),(v5:Int),(g:Int),(i:Int),(j:List Int),(v9:Int),(a:List I.ap),(b:List Int),(c:List (List I.Field)),(l:List (List (List UInt8))),(m:List (List I.Target)),(n:List Int),(o:List Int),_,_⟩,(e:List (Int×Bool)),(nz:List (Int×Bool)),_⟩:=db
 obtain⟨p,_⟩:=eh h
 dsimp only at p
 obtain⟨rfl,_⟩:=p
 conv=>rhs;change ee (α:=(List (Int×Bool))⊕Int) _ (Va (k+1) (⟨(⟨v3,v4,v5,g,i,j,v9⟩:I.aV),(⟨(⟨a,b,c,l,m⟩:I.aO)⟩:I.b'),n,o,e⟩:I.bj) v0 nz f (v0.length:Int));rw[<-Zn (k+1) (⟨(⟨v3,v4,v5,g,i,j,v9⟩:I.aV),(⟨(⟨a,b,c,l,m⟩:I.aO)⟩:I.b'),n,o,e⟩:I.bj) v0 nz f];simp only[wH,ba,Zn];simp only[bW]
 kernel_rfl)
noncomputable def atx(F:Nat):aQ aG:=(atw F).rt 103 ⟨[.p (.B 0)],[fK,.m 3 4],[.p (.i .i64)],[fK,.m 3 4],Int,λ d=>F2 F (⟨(dY d.2.1),(gX d.2.1.2.2.2.2.2.2.2),d.2.1.2.2.2.2.2.2.2.2.2.2.2.2.1,d.2.1.2.2.2.2.2.2.2.2.2.2.2.2.2.1,d.2.2.1⟩:I.bj),λ d r=>((r,()),((d.2.1.1,d.2.1.2.1,d.2.1.2.2.1,d.2.1.2.2.2.1,d.2.1.2.2.2.2.1,d.2.1.2.2.2.2.2.1,d.2.1.2.2.2.2.2.2.1,d.2.1.2.2.2.2.2.2.2.1,d.2.1.2.2.2.2.2.2.2.2.1,d.2.1.2.2.2.2.2.2.2.2.2.1,d.2.1.2.2.2.2.2.2.2.2.2.2.1,d.2.1.2.2.2.2.2.2.2.2.2.2.2.1,d.2.1.2.2.2.2.2.2.2.2.2.2.2.2.1,d.2.1.2.2.2.2.2.2.2.2.2.2.2.2.2.1,(),()),d.2.2.1,()))⟩ λ da db=>by
 obtain⟨_,_⟩:=da;obtain⟨⟨(v0:List Int),(v1:Int),(e:Int),(v3:Int),(v4:Int),(v5:List Int),(f:Int),(g:List I.ap),(h:List Int),(v9:List (List I.Field)),(a:List (List (List UInt8))),(b:List (List I.Target)),(c:List Int),(i:List Int),_,_⟩,(j:List (Int×Bool)),_⟩:=db;conv=>rhs;simp only[F2,ba,Zn]
 kernel_rfl
noncomputable def aty(F:Nat):aQ aG:=(atx F).rt 99 ⟨[hD,.p (.i .i64),.p (.i .i64)],[],[.p (.b)],[],Bool,λ d=>qL (gX d.1.1) d.1.2.1 d.1.2.2.1,λ d r=>((r,()),())⟩ λ da db=>by
 conv=>rhs;simp only[qL,ba]
 kernel_rfl
noncomputable def atA(F:Nat):aQ aG:=(aty F).b1 134 0 F ⟨[0,1,5,15,16],[.p (.B 0),.p (.i .i64),.p (.R 2),.p (.i .i64),.p (.i .i64)],[fK,.m 3 4,.r 3 false],
 [⟨⟨.nm,[5],[.p (.R 2)],[fK,.m 3 4,.r 3 false]⟩,List Int,λ d r=>(((),()),((d.2.1.1,d.2.1.2.1,d.2.1.2.2.1,d.2.1.2.2.2.1,d.2.1.2.2.2.2.1,d.2.1.2.2.2.2.2.1,d.2.1.2.2.2.2.2.2.1,d.2.1.2.2.2.2.2.2.2.1,d.2.1.2.2.2.2.2.2.2.2.1,d.2.1.2.2.2.2.2.2.2.2.2.1,d.2.1.2.2.2.2.2.2.2.2.2.2.1,d.2.1.2.2.2.2.2.2.2.2.2.2.2.1,d.2.1.2.2.2.2.2.2.2.2.2.2.2.2.1,d.2.1.2.2.2.2.2.2.2.2.2.2.2.2.2.1,(),()),d.2.2.1,r,()))⟩],
 λ k d=>wG d.1.2.1 (⟨(dY d.2.1),(gX d.2.1.2.2.2.2.2.2.2),d.2.1.2.2.2.2.2.2.2.2.2.2.2.2.1,d.2.1.2.2.2.2.2.2.2.2.2.2.2.2.2.1,d.2.2.1⟩:I.bj) d.1.2.2.2.1 k d.2.2.2.1 d.1.2.2.2.2.1⟩ (bO.bX (λ d=>rfl) λ k da db q h=>by
 conv=>rhs;simp only[wG,ba];simp only[bW]
 kernel_rfl)
noncomputable def atB(F:Nat):aQ aG:=(atA F).rt 134 ⟨[.p (.B 0),.p (.i .i64)],[fK,.m 3 4],[.p (.l 3)],[fK,.m 3 4],List Int,λ d=>qM F (⟨(dY d.2.1),(gX d.2.1.2.2.2.2.2.2.2),d.2.1.2.2.2.2.2.2.2.2.2.2.2.2.1,d.2.1.2.2.2.2.2.2.2.2.2.2.2.2.2.1,d.2.2.1⟩:I.bj) d.1.2.1,λ d r=>((r,()),((d.2.1.1,d.2.1.2.1,d.2.1.2.2.1,d.2.1.2.2.2.1,d.2.1.2.2.2.2.1,d.2.1.2.2.2.2.2.1,d.2.1.2.2.2.2.2.2.1,d.2.1.2.2.2.2.2.2.2.1,d.2.1.2.2.2.2.2.2.2.2.1,d.2.1.2.2.2.2.2.2.2.2.2.1,d.2.1.2.2.2.2.2.2.2.2.2.2.1,d.2.1.2.2.2.2.2.2.2.2.2.2.2.1,d.2.1.2.2.2.2.2.2.2.2.2.2.2.2.1,d.2.1.2.2.2.2.2.2.2.2.2.2.2.2.2.1,(),()),d.2.2.1,()))⟩ λ da db=>by
 conv=>rhs;simp only[qM,ba]
 kernel_rfl
noncomputable def atC(F:Nat):aQ aG:=(atB F).rt 136 ⟨[.p (.i .i64)],[],[.p (.b)],[],Bool,λ d=>Wk d.1.1,λ d r=>((r,()),())⟩ λ da db=>by
 conv=>rhs;simp only[Wk,ba]
 kernel_rfl
noncomputable def atD(F:Nat):aQ aG:=(atC F).rt 137 ⟨[.p (.B 0),.p (.i .i64)],[fK,.m 3 4],[.p (.b)],[fK,.m 3 4],Bool,λ d=>F1 (⟨(dY d.2.1),(gX d.2.1.2.2.2.2.2.2.2),d.2.1.2.2.2.2.2.2.2.2.2.2.2.2.1,d.2.1.2.2.2.2.2.2.2.2.2.2.2.2.2.1,d.2.2.1⟩:I.bj) d.1.2.1,λ d r=>((r,()),((d.2.1.1,d.2.1.2.1,d.2.1.2.2.1,d.2.1.2.2.2.1,d.2.1.2.2.2.2.1,d.2.1.2.2.2.2.2.1,d.2.1.2.2.2.2.2.2.1,d.2.1.2.2.2.2.2.2.2.1,d.2.1.2.2.2.2.2.2.2.2.1,d.2.1.2.2.2.2.2.2.2.2.2.1,d.2.1.2.2.2.2.2.2.2.2.2.2.1,d.2.1.2.2.2.2.2.2.2.2.2.2.2.1,d.2.1.2.2.2.2.2.2.2.2.2.2.2.2.1,d.2.1.2.2.2.2.2.2.2.2.2.2.2.2.2.1,(),()),d.2.2.1,()))⟩ λ da db=>by
 conv=>rhs;simp only[F1,ba]
 kernel_rfl
noncomputable def atE(F:Nat):aQ aG:=(atD F).rt 139 ⟨[.p (.i .i64),.p (.B 0)],[.c 60 [.B 1],ij,.m 3 4],[.p (.b)],[.c 60 [.B 1],ij,.m 3 4],Bool,λ d=>Oi d.1.1 (⟨(dY d.2.2.1),(gX d.2.2.1.2.2.2.2.2.2.2),d.2.2.1.2.2.2.2.2.2.2.2.2.2.2.2.1,d.2.2.1.2.2.2.2.2.2.2.2.2.2.2.2.2.1,d.2.2.2.1⟩:I.bj),λ d r=>((r,()),(((),()),(d.2.2.1.1,d.2.2.1.2.1,d.2.2.1.2.2.1,d.2.2.1.2.2.2.1,d.2.2.1.2.2.2.2.1,d.2.2.1.2.2.2.2.2.1,d.2.2.1.2.2.2.2.2.2.1,d.2.2.1.2.2.2.2.2.2.2.1,d.2.2.1.2.2.2.2.2.2.2.2.1,d.2.2.1.2.2.2.2.2.2.2.2.2.1,d.2.2.1.2.2.2.2.2.2.2.2.2.2.1,d.2.2.1.2.2.2.2.2.2.2.2.2.2.2.1,d.2.2.1.2.2.2.2.2.2.2.2.2.2.2.2.1,d.2.2.1.2.2.2.2.2.2.2.2.2.2.2.2.2.1,(),()),d.2.2.2.1,()))⟩ λ da db=>by
 conv=>rhs;simp only[Oi,ba]
 kernel_rfl
noncomputable def atF(F:Nat):aQ aG:=(atE F).rt 68 ⟨[.p (.B 0),.p (.i .i64)],[fK,.m 3 4],[.p (.b)],[fK,.m 3 4],Bool,λ d=>F0 (⟨(dY d.2.1),(gX d.2.1.2.2.2.2.2.2.2),d.2.1.2.2.2.2.2.2.2.2.2.2.2.2.1,d.2.1.2.2.2.2.2.2.2.2.2.2.2.2.2.1,d.2.2.1⟩:I.bj) d.1.2.1,λ d r=>((r,()),((d.2.1.1,d.2.1.2.1,d.2.1.2.2.1,d.2.1.2.2.2.1,d.2.1.2.2.2.2.1,d.2.1.2.2.2.2.2.1,d.2.1.2.2.2.2.2.2.1,d.2.1.2.2.2.2.2.2.2.1,d.2.1.2.2.2.2.2.2.2.2.1,d.2.1.2.2.2.2.2.2.2.2.2.1,d.2.1.2.2.2.2.2.2.2.2.2.2.1,d.2.1.2.2.2.2.2.2.2.2.2.2.2.1,d.2.1.2.2.2.2.2.2.2.2.2.2.2.2.1,d.2.1.2.2.2.2.2.2.2.2.2.2.2.2.2.1,(),()),d.2.2.1,()))⟩ λ da db=>by
 conv=>rhs;simp only[F0,ba]
 kernel_rfl
noncomputable def atG(F:Nat):aQ aG:=(atF F).rt 67 ⟨[.p (.i .i64),.p (.B 0)],[.c 60 [.B 1],ij,.m 3 4],[.p (.b)],[.c 60 [.B 1],ij,.m 3 4],Bool,λ d=>Sy d.1.1 (⟨(dY d.2.2.1),(gX d.2.2.1.2.2.2.2.2.2.2),d.2.2.1.2.2.2.2.2.2.2.2.2.2.2.2.1,d.2.2.1.2.2.2.2.2.2.2.2.2.2.2.2.2.1,d.2.2.2.1⟩:I.bj),λ d r=>((r,()),(((),()),(d.2.2.1.1,d.2.2.1.2.1,d.2.2.1.2.2.1,d.2.2.1.2.2.2.1,d.2.2.1.2.2.2.2.1,d.2.2.1.2.2.2.2.2.1,d.2.2.1.2.2.2.2.2.2.1,d.2.2.1.2.2.2.2.2.2.2.1,d.2.2.1.2.2.2.2.2.2.2.2.1,d.2.2.1.2.2.2.2.2.2.2.2.2.1,d.2.2.1.2.2.2.2.2.2.2.2.2.2.1,d.2.2.1.2.2.2.2.2.2.2.2.2.2.2.1,d.2.2.1.2.2.2.2.2.2.2.2.2.2.2.2.1,d.2.2.1.2.2.2.2.2.2.2.2.2.2.2.2.2.1,(),()),d.2.2.2.1,()))⟩ λ da db=>by
 conv=>rhs;simp only[Sy,ba]
 kernel_rfl
noncomputable def VR(k:Nat)(s_:List Int)(a:Int)(b:Int):=dq ((s_.length:Int)=b/\True) (bf (AJ s_ k a))
theorem Z3(k:Nat)(s_:List Int)(a:Int):bf (AJ s_ k a)=VR k s_ a (s_.length:Int):=(dJ ⟨rfl,trivial⟩).symm
noncomputable def atH(F:Nat):aQ aG:=(atG F).b1 106 0 F ⟨[0,1,7,8],[.p (.l 3),.f 136 [],.p (.i .i64),.p (.i .i64)],[],
 [⟨⟨.nm,[],[],[]⟩,Unit,λ d r=>((),())⟩,
  ⟨⟨.rt,[4],[.p (.i .i64)],[]⟩,Int,λ d r=>((r,()),())⟩],
 λ k d=>VR k d.1.1 d.1.2.2.2.1 d.1.2.2.1⟩ (bO.bX (λ d=>dI) λ k da db q h=>by
 obtain⟨(v0:List Int),_,(v1:Int),(a:Int),_⟩:=da
 obtain⟨b,_⟩:=eh h
 dsimp only at b
 obtain⟨rfl,_⟩:=b
 conv=>rhs;change ee (α:=Unit⊕Int) _ (VR (k+1) v0 a (v0.length:Int));rw[<-Z3 (k+1) v0 a];simp only[AJ,ba,Z3];simp only[bW]
 kernel_rfl)
noncomputable def atI(F:Nat):aQ aG:=(atH F).rt 106 ⟨[.p (.l 3),.f 136 []],[],[.p (.i .i64)],[],Int,λ d=>QN F d.1.1,λ d r=>((r,()),())⟩ λ da db=>by
 obtain⟨(v0:List Int),_,_⟩:=da;conv=>rhs;simp only[QN,ba,Z3]
 kernel_rfl
noncomputable def VQ(k:Nat)(s_:List Int)(a:I.bj)(kE:Int)(b:Int):=dq ((s_.length:Int)=b/\True) (bf (AI s_ a k kE))
theorem Z2(k:Nat)(s_:List Int)(a:I.bj)(kE:Int):bf (AI s_ a k kE)=VQ k s_ a kE (s_.length:Int):=(dJ ⟨rfl,trivial⟩).symm
noncomputable def atJ(F:Nat):aQ aG:=(atI F).Kx 106 0 F ⟨[0,1,7,8],[.p (.l 3),.f 139 [.B 0],.p (.i .i64),.p (.i .i64)],[.c 60 [.B 1],ij,.m 3 4],
 [⟨⟨.nm,[],[],[.c 60 [.B 1],ij,.m 3 4]⟩,Unit,λ d r=>((),(((),()),(d.2.2.1.1,d.2.2.1.2.1,d.2.2.1.2.2.1,d.2.2.1.2.2.2.1,d.2.2.1.2.2.2.2.1,d.2.2.1.2.2.2.2.2.1,d.2.2.1.2.2.2.2.2.2.1,d.2.2.1.2.2.2.2.2.2.2.1,d.2.2.1.2.2.2.2.2.2.2.2.1,d.2.2.1.2.2.2.2.2.2.2.2.2.1,d.2.2.1.2.2.2.2.2.2.2.2.2.2.1,d.2.2.1.2.2.2.2.2.2.2.2.2.2.2.1,d.2.2.1.2.2.2.2.2.2.2.2.2.2.2.2.1,d.2.2.1.2.2.2.2.2.2.2.2.2.2.2.2.2.1,(),()),d.2.2.2.1,()))⟩,
  ⟨⟨.rt,[4],[.p (.i .i64)],[.c 60 [.B 1],ij,.m 3 4]⟩,Int,λ d r=>((r,()),(((),()),(d.2.2.1.1,d.2.2.1.2.1,d.2.2.1.2.2.1,d.2.2.1.2.2.2.1,d.2.2.1.2.2.2.2.1,d.2.2.1.2.2.2.2.2.1,d.2.2.1.2.2.2.2.2.2.1,d.2.2.1.2.2.2.2.2.2.2.1,d.2.2.1.2.2.2.2.2.2.2.2.1,d.2.2.1.2.2.2.2.2.2.2.2.2.1,d.2.2.1.2.2.2.2.2.2.2.2.2.2.1,d.2.2.1.2.2.2.2.2.2.2.2.2.2.2.1,d.2.2.1.2.2.2.2.2.2.2.2.2.2.2.2.1,d.2.2.1.2.2.2.2.2.2.2.2.2.2.2.2.2.1,(),()),d.2.2.2.1,()))⟩],
 λ k d=>VQ k d.1.1 (⟨(dY d.2.2.1),(gX d.2.2.1.2.2.2.2.2.2.2),d.2.2.1.2.2.2.2.2.2.2.2.2.2.2.2.1,d.2.2.1.2.2.2.2.2.2.2.2.2.2.2.2.2.1,d.2.2.2.1⟩:I.bj) d.1.2.2.2.1 d.1.2.2.1⟩ (bO.bX (λ d=>dI) λ k da db q h=>by
 obtain⟨(v0:List Int),⟨_,_⟩,(v1:Int),(f:Int),_⟩:=da
 obtain⟨⟨_,_⟩,⟨(v3:List Int),(v4:Int),(v5:Int),(g:Int),(i:Int),(j:List Int),(v9:Int),(a:List I.ap),(b:List Int),(c:List (List I.Field)),(l:List (List (List UInt8))),(m:List (List I.Target)),(n:List Int),(o:List Int),_,_⟩,(e:List (Int×Bool)),_⟩:=db
 obtain⟨p,_⟩:=eh h
 dsimp only at p
 obtain⟨rfl,_⟩:=p
 conv=>rhs;change ee (α:=Unit⊕Int) _ (VQ (k+1) v0 (⟨(⟨v3,v4,v5,g,i,j,v9⟩:I.aV),(⟨(⟨a,b,c,l,m⟩:I.aO)⟩:I.b'),n,o,e⟩:I.bj) f (v0.length:Int));rw[<-Z2 (k+1) v0 (⟨(⟨v3,v4,v5,g,i,j,v9⟩:I.aV),(⟨(⟨a,b,c,l,m⟩:I.aO)⟩:I.b'),n,o,e⟩:I.bj) f];simp only[AI,ba,Z2];simp only[bW]
 kernel_rfl)
noncomputable def atL(F:Nat):aQ aG:=(atJ F).wh 106 ⟨[.p (.l 3),.f 139 [.B 0]],[.c 60 [.B 1],ij,.m 3 4],[.p (.i .i64)],[.c 60 [.B 1],ij,.m 3 4],Int,λ d=>QM F d.1.1 (⟨(dY d.2.2.1),(gX d.2.2.1.2.2.2.2.2.2.2),d.2.2.1.2.2.2.2.2.2.2.2.2.2.2.2.1,d.2.2.1.2.2.2.2.2.2.2.2.2.2.2.2.2.1,d.2.2.2.1⟩:I.bj),λ d r=>((r,()),(((),()),(d.2.2.1.1,d.2.2.1.2.1,d.2.2.1.2.2.1,d.2.2.1.2.2.2.1,d.2.2.1.2.2.2.2.1,d.2.2.1.2.2.2.2.2.1,d.2.2.1.2.2.2.2.2.2.1,d.2.2.1.2.2.2.2.2.2.2.1,d.2.2.1.2.2.2.2.2.2.2.2.1,d.2.2.1.2.2.2.2.2.2.2.2.2.1,d.2.2.1.2.2.2.2.2.2.2.2.2.2.1,d.2.2.1.2.2.2.2.2.2.2.2.2.2.2.1,d.2.2.1.2.2.2.2.2.2.2.2.2.2.2.2.1,d.2.2.1.2.2.2.2.2.2.2.2.2.2.2.2.2.1,(),()),d.2.2.2.1,()))⟩ λ da db=>by
 obtain⟨(v0:List Int),⟨_,_⟩,_⟩:=da;obtain⟨⟨_,_⟩,⟨(v1:List Int),(e:Int),(v3:Int),(v4:Int),(v5:Int),(f:List Int),(g:Int),(h:List I.ap),(v9:List Int),(a:List (List I.Field)),(b:List (List (List UInt8))),(c:List (List I.Target)),(i:List Int),(j:List Int),_,_⟩,(k:List (Int×Bool)),_⟩:=db;conv=>rhs;simp only[QM,ba,Z2]
 kernel_rfl
noncomputable def VS(k:Nat)(s_:List Int)(a:I.bj)(kE:Int)(b:Int):=dq ((s_.length:Int)=b/\True) (bf (AK s_ a k kE))
theorem Z4(k:Nat)(s_:List Int)(a:I.bj)(kE:Int):bf (AK s_ a k kE)=VS k s_ a kE (s_.length:Int):=(dJ ⟨rfl,trivial⟩).symm
noncomputable def atM(F:Nat):aQ aG:=(atL F).Kx 106 0 F ⟨[0,1,7,8],[.p (.l 3),.f 67 [.B 0],.p (.i .i64),.p (.i .i64)],[.c 60 [.B 1],ij,.m 3 4],
 [⟨⟨.nm,[],[],[.c 60 [.B 1],ij,.m 3 4]⟩,Unit,λ d r=>((),(((),()),(d.2.2.1.1,d.2.2.1.2.1,d.2.2.1.2.2.1,d.2.2.1.2.2.2.1,d.2.2.1.2.2.2.2.1,d.2.2.1.2.2.2.2.2.1,d.2.2.1.2.2.2.2.2.2.1,d.2.2.1.2.2.2.2.2.2.2.1,d.2.2.1.2.2.2.2.2.2.2.2.1,d.2.2.1.2.2.2.2.2.2.2.2.2.1,d.2.2.1.2.2.2.2.2.2.2.2.2.2.1,d.2.2.1.2.2.2.2.2.2.2.2.2.2.2.1,d.2.2.1.2.2.2.2.2.2.2.2.2.2.2.2.1,d.2.2.1.2.2.2.2.2.2.2.2.2.2.2.2.2.1,(),()),d.2.2.2.1,()))⟩,
  ⟨⟨.rt,[4],[.p (.i .i64)],[.c 60 [.B 1],ij,.m 3 4]⟩,Int,λ d r=>((r,()),(((),()),(d.2.2.1.1,d.2.2.1.2.1,d.2.2.1.2.2.1,d.2.2.1.2.2.2.1,d.2.2.1.2.2.2.2.1,d.2.2.1.2.2.2.2.2.1,d.2.2.1.2.2.2.2.2.2.1,d.2.2.1.2.2.2.2.2.2.2.1,d.2.2.1.2.2.2.2.2.2.2.2.1,d.2.2.1.2.2.2.2.2.2.2.2.2.1,d.2.2.1.2.2.2.2.2.2.2.2.2.2.1,d.2.2.1.2.2.2.2.2.2.2.2.2.2.2.1,d.2.2.1.2.2.2.2.2.2.2.2.2.2.2.2.1,d.2.2.1.2.2.2.2.2.2.2.2.2.2.2.2.2.1,(),()),d.2.2.2.1,()))⟩],
 λ k d=>VS k d.1.1 (⟨(dY d.2.2.1),(gX d.2.2.1.2.2.2.2.2.2.2),d.2.2.1.2.2.2.2.2.2.2.2.2.2.2.2.1,d.2.2.1.2.2.2.2.2.2.2.2.2.2.2.2.2.1,d.2.2.2.1⟩:I.bj) d.1.2.2.2.1 d.1.2.2.1⟩ (bO.bX (λ d=>dI) λ k da db q h=>by
 obtain⟨(v0:List Int),⟨_,_⟩,(v1:Int),(f:Int),_⟩:=da
 obtain⟨⟨_,_⟩,⟨(v3:List Int),(v4:Int),(v5:Int),(g:Int),(i:Int),(j:List Int),(v9:Int),(a:List I.ap),(b:List Int),(c:List (List I.Field)),(l:List (List (List UInt8))),(m:List (List I.Target)),(n:List Int),(o:List Int),_,_⟩,(e:List (Int×Bool)),_⟩:=db
 obtain⟨p,_⟩:=eh h
 dsimp only at p
 obtain⟨rfl,_⟩:=p
 conv=>rhs;change ee (α:=Unit⊕Int) _ (VS (k+1) v0 (⟨(⟨v3,v4,v5,g,i,j,v9⟩:I.aV),(⟨(⟨a,b,c,l,m⟩:I.aO)⟩:I.b'),n,o,e⟩:I.bj) f (v0.length:Int));rw[<-Z4 (k+1) v0 (⟨(⟨v3,v4,v5,g,i,j,v9⟩:I.aV),(⟨(⟨a,b,c,l,m⟩:I.aO)⟩:I.b'),n,o,e⟩:I.bj) f];simp only[AK,ba,Z4];simp only[bW]
 kernel_rfl)
noncomputable def atN(F:Nat):aQ aG:=(atM F).wh 106 ⟨[.p (.l 3),.f 67 [.B 0]],[.c 60 [.B 1],ij,.m 3 4],[.p (.i .i64)],[.c 60 [.B 1],ij,.m 3 4],Int,λ d=>QO F d.1.1 (⟨(dY d.2.2.1),(gX d.2.2.1.2.2.2.2.2.2.2),d.2.2.1.2.2.2.2.2.2.2.2.2.2.2.2.1,d.2.2.1.2.2.2.2.2.2.2.2.2.2.2.2.2.1,d.2.2.2.1⟩:I.bj),λ d r=>((r,()),(((),()),(d.2.2.1.1,d.2.2.1.2.1,d.2.2.1.2.2.1,d.2.2.1.2.2.2.1,d.2.2.1.2.2.2.2.1,d.2.2.1.2.2.2.2.2.1,d.2.2.1.2.2.2.2.2.2.1,d.2.2.1.2.2.2.2.2.2.2.1,d.2.2.1.2.2.2.2.2.2.2.2.1,d.2.2.1.2.2.2.2.2.2.2.2.2.1,d.2.2.1.2.2.2.2.2.2.2.2.2.2.1,d.2.2.1.2.2.2.2.2.2.2.2.2.2.2.1,d.2.2.1.2.2.2.2.2.2.2.2.2.2.2.2.1,d.2.2.1.2.2.2.2.2.2.2.2.2.2.2.2.2.1,(),()),d.2.2.2.1,()))⟩ λ da db=>by
 obtain⟨(v0:List Int),⟨_,_⟩,_⟩:=da;obtain⟨⟨_,_⟩,⟨(v1:List Int),(e:Int),(v3:Int),(v4:Int),(v5:Int),(f:List Int),(g:Int),(h:List I.ap),(v9:List Int),(a:List (List I.Field)),(b:List (List (List UInt8))),(c:List (List I.Target)),(i:List Int),(j:List Int),_,_⟩,(k:List (Int×Bool)),_⟩:=db;conv=>rhs;simp only[QO,ba,Z4]
 kernel_rfl
noncomputable def atO(F:Nat):aQ aG:=(atN F).rt 66 ⟨[.p (.l 3),.f 136 []],[],[.p (.b)],[],Bool,λ d=>QJ F d.1.1,λ d r=>((r,()),())⟩ λ da db=>by
 conv=>rhs;simp only[QJ,ba]
 kernel_rfl
noncomputable def atP(F:Nat):aQ aG:=(atO F).wh 66 ⟨[.p (.l 3),.f 139 [.B 0]],[.c 60 [.B 1],ij,.m 3 4],[.p (.b)],[.c 60 [.B 1],ij,.m 3 4],Bool,λ d=>QI F d.1.1 (⟨(dY d.2.2.1),(gX d.2.2.1.2.2.2.2.2.2.2),d.2.2.1.2.2.2.2.2.2.2.2.2.2.2.2.1,d.2.2.1.2.2.2.2.2.2.2.2.2.2.2.2.2.1,d.2.2.2.1⟩:I.bj),λ d r=>((r,()),(((),()),(d.2.2.1.1,d.2.2.1.2.1,d.2.2.1.2.2.1,d.2.2.1.2.2.2.1,d.2.2.1.2.2.2.2.1,d.2.2.1.2.2.2.2.2.1,d.2.2.1.2.2.2.2.2.2.1,d.2.2.1.2.2.2.2.2.2.2.1,d.2.2.1.2.2.2.2.2.2.2.2.1,d.2.2.1.2.2.2.2.2.2.2.2.2.1,d.2.2.1.2.2.2.2.2.2.2.2.2.2.1,d.2.2.1.2.2.2.2.2.2.2.2.2.2.2.1,d.2.2.1.2.2.2.2.2.2.2.2.2.2.2.2.1,d.2.2.1.2.2.2.2.2.2.2.2.2.2.2.2.2.1,(),()),d.2.2.2.1,()))⟩ λ da db=>by
 conv=>rhs;simp only[QI,ba]
 kernel_rfl
noncomputable def atQ(F:Nat):aQ aG:=(atP F).wh 66 ⟨[.p (.l 3),.f 67 [.B 0]],[.c 60 [.B 1],ij,.m 3 4],[.p (.b)],[.c 60 [.B 1],ij,.m 3 4],Bool,λ d=>QK F d.1.1 (⟨(dY d.2.2.1),(gX d.2.2.1.2.2.2.2.2.2.2),d.2.2.1.2.2.2.2.2.2.2.2.2.2.2.2.1,d.2.2.1.2.2.2.2.2.2.2.2.2.2.2.2.2.1,d.2.2.2.1⟩:I.bj),λ d r=>((r,()),(((),()),(d.2.2.1.1,d.2.2.1.2.1,d.2.2.1.2.2.1,d.2.2.1.2.2.2.1,d.2.2.1.2.2.2.2.1,d.2.2.1.2.2.2.2.2.1,d.2.2.1.2.2.2.2.2.2.1,d.2.2.1.2.2.2.2.2.2.2.1,d.2.2.1.2.2.2.2.2.2.2.2.1,d.2.2.1.2.2.2.2.2.2.2.2.2.1,d.2.2.1.2.2.2.2.2.2.2.2.2.2.1,d.2.2.1.2.2.2.2.2.2.2.2.2.2.2.1,d.2.2.1.2.2.2.2.2.2.2.2.2.2.2.2.1,d.2.2.1.2.2.2.2.2.2.2.2.2.2.2.2.2.1,(),()),d.2.2.2.1,()))⟩ λ da db=>by
 conv=>rhs;simp only[QK,ba]
 kernel_rfl
noncomputable def Vg(k:Nat)(b:I.bj)(a:List Int)(c:Int)(bQ:Int):=dq ((a.length:Int)=bQ/\True) (bf (wJ b a k c))
theorem Zs(k:Nat)(b:I.bj)(a:List Int)(c:Int):bf (wJ b a k c)=Vg k b a c (a.length:Int):=(dJ ⟨rfl,trivial⟩).symm
noncomputable def atS(F:Nat):aQ aG:=(atQ F).b1 104 2 F ⟨[0,10,11,12,18,19,20],[.p (.B 0),.p (.l 3),.p (.i .i64),.p (.i .i64),.p (.l 3),.p (.i .i64),.p (.i .i64)],[fK,.m 3 4],
 [⟨⟨.nm,[0,10,11,12],[.p (.B 0),.p (.l 3),.p (.i .i64),.p (.i .i64)],[fK,.m 3 4]⟩,Unit,λ d r=>(((),d.1.2.1,d.1.2.2.1,d.1.2.2.2.1,()),((d.2.1.1,d.2.1.2.1,d.2.1.2.2.1,d.2.1.2.2.2.1,d.2.1.2.2.2.2.1,d.2.1.2.2.2.2.2.1,d.2.1.2.2.2.2.2.2.1,d.2.1.2.2.2.2.2.2.2.1,d.2.1.2.2.2.2.2.2.2.2.1,d.2.1.2.2.2.2.2.2.2.2.2.1,d.2.1.2.2.2.2.2.2.2.2.2.2.1,d.2.1.2.2.2.2.2.2.2.2.2.2.2.1,d.2.1.2.2.2.2.2.2.2.2.2.2.2.2.1,d.2.1.2.2.2.2.2.2.2.2.2.2.2.2.2.1,(),()),d.2.2.1,()))⟩,
  ⟨⟨.rt,[2],[.p (.i .i64)],[fK,.m 3 4]⟩,Int,λ d r=>((r,()),((d.2.1.1,d.2.1.2.1,d.2.1.2.2.1,d.2.1.2.2.2.1,d.2.1.2.2.2.2.1,d.2.1.2.2.2.2.2.1,d.2.1.2.2.2.2.2.2.1,d.2.1.2.2.2.2.2.2.2.1,d.2.1.2.2.2.2.2.2.2.2.1,d.2.1.2.2.2.2.2.2.2.2.2.1,d.2.1.2.2.2.2.2.2.2.2.2.2.1,d.2.1.2.2.2.2.2.2.2.2.2.2.2.1,d.2.1.2.2.2.2.2.2.2.2.2.2.2.2.1,d.2.1.2.2.2.2.2.2.2.2.2.2.2.2.2.1,(),()),d.2.2.1,()))⟩],
 λ k d=>Vg k (⟨(dY d.2.1),(gX d.2.1.2.2.2.2.2.2.2),d.2.1.2.2.2.2.2.2.2.2.2.2.2.2.1,d.2.1.2.2.2.2.2.2.2.2.2.2.2.2.2.1,d.2.2.1⟩:I.bj) d.1.2.2.2.2.1 d.1.2.2.2.2.2.2.1 d.1.2.2.2.2.2.1⟩ (bO.bX (λ d=>dI) λ k da db q h=>by
 obtain⟨_,(v0:List Int),(v1:Int),(t:Int),(v3:List Int),(v4:Int),(v5:Int),_⟩:=da
 obtain⟨⟨(g:List Int),(i:Int),(j:Int),(v9:Int),(a:Int),(b:List Int),(c:Int),(l:List I.ap),(m:List Int),(n:List (List I.Field)),(o:List (List (List UInt8))),(e:List (List I.Target)),(nz:List Int),(p:List Int),_,_⟩,(f:List (Int×Bool)),_⟩:=db
 obtain⟨s,_⟩:=eh h
 dsimp only at s
 obtain⟨rfl,_⟩:=s
 conv=>rhs;change ee (α:=Unit⊕Int) _ (Vg (k+1) (⟨(⟨g,i,j,v9,a,b,c⟩:I.aV),(⟨(⟨l,m,n,o,e⟩:I.aO)⟩:I.b'),nz,p,f⟩:I.bj) v3 v5 (v3.length:Int));rw[<-Zs (k+1) (⟨(⟨g,i,j,v9,a,b,c⟩:I.aV),(⟨(⟨l,m,n,o,e⟩:I.aO)⟩:I.b'),nz,p,f⟩:I.bj) v3 v5];simp only[wJ,ba,Zs,aEE];simp only[bW]
 kernel_rfl)
noncomputable def Vf(F:Nat)(k:Nat)(b:I.bj)(a:List Int)(Ah:Int)(c:Int):=dq ((a.length:Int)=c/\True) (bf (zp F b a k Ah))
theorem Zr(F:Nat)(k:Nat)(b:I.bj)(a:List Int)(Ah:Int):bf (zp F b a k Ah)=Vf F k b a Ah (a.length:Int):=(dJ ⟨rfl,trivial⟩).symm
noncomputable def atT(F:Nat):aQ aG:=(atS F).b1 104 0 F ⟨[0,10,11,12],[.p (.B 0),.p (.l 3),.p (.i .i64),.p (.i .i64)],[fK,.m 3 4],
 [⟨⟨.nm,[0],[.p (.B 0)],[fK,.m 3 4]⟩,Unit,λ d r=>(((),()),((d.2.1.1,d.2.1.2.1,d.2.1.2.2.1,d.2.1.2.2.2.1,d.2.1.2.2.2.2.1,d.2.1.2.2.2.2.2.1,d.2.1.2.2.2.2.2.2.1,d.2.1.2.2.2.2.2.2.2.1,d.2.1.2.2.2.2.2.2.2.2.1,d.2.1.2.2.2.2.2.2.2.2.2.1,d.2.1.2.2.2.2.2.2.2.2.2.2.1,d.2.1.2.2.2.2.2.2.2.2.2.2.2.1,d.2.1.2.2.2.2.2.2.2.2.2.2.2.2.1,d.2.1.2.2.2.2.2.2.2.2.2.2.2.2.2.1,(),()),d.2.2.1,()))⟩,
  ⟨⟨.rt,[2],[.p (.i .i64)],[fK,.m 3 4]⟩,Int,λ d r=>((r,()),((d.2.1.1,d.2.1.2.1,d.2.1.2.2.1,d.2.1.2.2.2.1,d.2.1.2.2.2.2.1,d.2.1.2.2.2.2.2.1,d.2.1.2.2.2.2.2.2.1,d.2.1.2.2.2.2.2.2.2.1,d.2.1.2.2.2.2.2.2.2.2.1,d.2.1.2.2.2.2.2.2.2.2.2.1,d.2.1.2.2.2.2.2.2.2.2.2.2.1,d.2.1.2.2.2.2.2.2.2.2.2.2.2.1,d.2.1.2.2.2.2.2.2.2.2.2.2.2.2.1,d.2.1.2.2.2.2.2.2.2.2.2.2.2.2.2.1,(),()),d.2.2.1,()))⟩],
 λ k d=>Vf F k (⟨(dY d.2.1),(gX d.2.1.2.2.2.2.2.2.2),d.2.1.2.2.2.2.2.2.2.2.2.2.2.2.1,d.2.1.2.2.2.2.2.2.2.2.2.2.2.2.2.1,d.2.2.1⟩:I.bj) d.1.2.1 d.1.2.2.2.1 d.1.2.2.1⟩ (bO.bX (λ d=>dI) λ k da db q h=>by
 obtain⟨_,(v0:List Int),(v1:Int),(f:Int),_⟩:=da
 obtain⟨⟨(v3:List Int),(v4:Int),(v5:Int),(g:Int),(i:Int),(j:List Int),(v9:Int),(a:List I.ap),(b:List Int),(c:List (List I.Field)),(l:List (List (List UInt8))),(m:List (List I.Target)),(n:List Int),(o:List Int),_,_⟩,(e:List (Int×Bool)),_⟩:=db
 obtain⟨p,_⟩:=eh h
 dsimp only at p
 obtain⟨rfl,_⟩:=p
 conv=>rhs;change ee (α:=Unit⊕Int) _ (Vf F (k+1) (⟨(⟨v3,v4,v5,g,i,j,v9⟩:I.aV),(⟨(⟨a,b,c,l,m⟩:I.aO)⟩:I.b'),n,o,e⟩:I.bj) v0 f (v0.length:Int));rw[<-Zr F (k+1) (⟨(⟨v3,v4,v5,g,i,j,v9⟩:I.aV),(⟨(⟨a,b,c,l,m⟩:I.aO)⟩:I.b'),n,o,e⟩:I.bj) v0 f];simp only[zp,ba,Zs,Zr];simp only[bW]
 kernel_rfl)
noncomputable def atU(F:Nat):aQ aG:=(atT F).rt 104 ⟨[.p (.B 0)],[fK,.m 3 4],[.p (.i .i64)],[fK,.m 3 4],Int,λ d=>F4 F (⟨(dY d.2.1),(gX d.2.1.2.2.2.2.2.2.2),d.2.1.2.2.2.2.2.2.2.2.2.2.2.2.1,d.2.1.2.2.2.2.2.2.2.2.2.2.2.2.2.1,d.2.2.1⟩:I.bj),λ d r=>((r,()),((d.2.1.1,d.2.1.2.1,d.2.1.2.2.1,d.2.1.2.2.2.1,d.2.1.2.2.2.2.1,d.2.1.2.2.2.2.2.1,d.2.1.2.2.2.2.2.2.1,d.2.1.2.2.2.2.2.2.2.1,d.2.1.2.2.2.2.2.2.2.2.1,d.2.1.2.2.2.2.2.2.2.2.2.1,d.2.1.2.2.2.2.2.2.2.2.2.2.1,d.2.1.2.2.2.2.2.2.2.2.2.2.2.1,d.2.1.2.2.2.2.2.2.2.2.2.2.2.2.1,d.2.1.2.2.2.2.2.2.2.2.2.2.2.2.2.1,(),()),d.2.2.1,()))⟩ λ da db=>by
 obtain⟨_,_⟩:=da;obtain⟨⟨(v0:List Int),(v1:Int),(e:Int),(v3:Int),(v4:Int),(v5:List Int),(f:Int),(g:List I.ap),(h:List Int),(v9:List (List I.Field)),(a:List (List (List UInt8))),(b:List (List I.Target)),(c:List Int),(i:List Int),_,_⟩,(j:List (Int×Bool)),_⟩:=db;conv=>rhs;simp only[F4,ba,Zr]
 kernel_rfl
noncomputable def atV(F:Nat):aQ aG:=(atU F).rt 172 ⟨[.p (.i .i64)],[],[.p (.b)],[],Bool,λ d=>cmp_isNaN_int d.1.1,λ d r=>((r,()),())⟩ λ da db=>by
 kernel_rfl
noncomputable def ap0(F:Nat):aQ aG:=(atV F).rt 160 ⟨[.p (.i .i64),.p (.i .i64)],[],[.p (.b)],[],Bool,λ d=>cmp_Less_int d.1.1 d.1.2.1,λ d r=>((r,()),())⟩ λ da db=>by
 conv=>rhs;simp only[cmp_Less_int,ba]
 kernel_rfl
noncomputable def ap1(F:Nat):aQ aG:=(ap0 F).rt 161 ⟨[.p (.i .i64)],[],[.p (.b)],[],Bool,λ d=>QP d.1.1,λ d r=>((r,()),())⟩ λ da db=>by
 kernel_rfl
noncomputable def VF(k:Nat)(b:Int)(a:List Int)(c:Int)(d:Int)(ao:Int):=dq ((a.length:Int)=ao/\True) (u7 b a k c d)
theorem ZR(k:Nat)(b:Int)(a:List Int)(c:Int)(d:Int):u7 b a k c d=VF k b a c d (a.length:Int):=(dJ ⟨rfl,trivial⟩).symm
noncomputable def ap2(F:Nat):aQ aG:=(ap1 F).b1 138 0 F ⟨[0,1,6,7,8],[.p (.l 3),.p (.i .i64),.p (.i .i64),.p (.i .i64),.p (.i .i64)],[],
 [⟨⟨.nm,[0,1,6,7],[.p (.l 3),.p (.i .i64),.p (.i .i64),.p (.i .i64)],[]⟩,Int,λ d r=>((d.1.1,d.1.2.1,d.1.2.2.1,r,()),())⟩],
 λ k d=>VF k d.1.2.1 d.1.1 d.1.2.2.2.1 d.1.2.2.2.2.1 d.1.2.2.1⟩ (bO.bX (λ d=>dI) λ k da db q h=>by
 obtain⟨(v0:List Int),(v1:Int),(b:Int),(v3:Int),(v4:Int),_⟩:=da
 obtain⟨a,_⟩:=eh h
 dsimp only at a
 obtain⟨rfl,_⟩:=a
 conv=>rhs;change ee (α:=Int) _ (VF (k+1) v1 v0 v3 v4 (v0.length:Int));rw[<-ZR (k+1) v1 v0 v3 v4];simp only[u7,ba,ZR];simp only[bW]
 kernel_rfl)
noncomputable def ap3(F:Nat):aQ aG:=(ap2 F).rt 138 ⟨[.p (.l 3),.p (.i .i64)],[],[.p (.i .i64),.p (.b)],[],Int×Bool,λ d=>Lm F d.1.1 d.1.2.1,λ d r=>((r.1,r.2,()),())⟩ λ da db=>by
 obtain⟨(v0:List Int),(v1:Int),_⟩:=da;conv=>rhs;simp only[Lm,ba,ZR]
 kernel_rfl
noncomputable def Vb(F:Nat)(k:Nat)(a:I.bj)(b:Int)(c:List Int)(ao:Int)(FG:List Int):=dq ((a.H.aS:List Int)=c/\(a.H.aS.length:Int)=ao/\(a.H.aS:List Int)=FG/\True) (bf (uo F a k b))
theorem Zo(F:Nat)(k:Nat)(a:I.bj)(b:Int):bf (uo F a k b)=Vb F k a b a.H.aS (a.H.aS.length:Int) a.H.aS:=(dJ ⟨rfl,rfl,rfl,trivial⟩).symm
noncomputable def ap4(F:Nat):aQ aG:=(ap3 F).b1 105 0 F ⟨[1,3,16,17,18],[.p (.B 0),.p (.l 3),.p (.l 3),.p (.i .i64),.p (.i .i64)],[.c 60 [.B 1],ij,.m 3 4],
 [⟨⟨.nm,[1,3],[.p (.B 0),.p (.l 3)],[.c 60 [.B 1],ij,.m 3 4]⟩,Unit,λ d r=>(((),d.1.2.1,()),(((),()),(d.2.2.1.1,d.2.2.1.2.1,d.2.2.1.2.2.1,d.2.2.1.2.2.2.1,d.2.2.1.2.2.2.2.1,d.2.2.1.2.2.2.2.2.1,d.2.2.1.2.2.2.2.2.2.1,d.2.2.1.2.2.2.2.2.2.2.1,d.2.2.1.2.2.2.2.2.2.2.2.1,d.2.2.1.2.2.2.2.2.2.2.2.2.1,d.2.2.1.2.2.2.2.2.2.2.2.2.2.1,d.2.2.1.2.2.2.2.2.2.2.2.2.2.2.1,d.2.2.1.2.2.2.2.2.2.2.2.2.2.2.2.1,d.2.2.1.2.2.2.2.2.2.2.2.2.2.2.2.2.1,(),()),d.2.2.2.1,()))⟩,
  ⟨⟨.rt,[2],[.p (.i .i64)],[.c 60 [.B 1],ij,.m 3 4]⟩,Int,λ d r=>((r,()),(((),()),(d.2.2.1.1,d.2.2.1.2.1,d.2.2.1.2.2.1,d.2.2.1.2.2.2.1,d.2.2.1.2.2.2.2.1,d.2.2.1.2.2.2.2.2.1,d.2.2.1.2.2.2.2.2.2.1,d.2.2.1.2.2.2.2.2.2.2.1,d.2.2.1.2.2.2.2.2.2.2.2.1,d.2.2.1.2.2.2.2.2.2.2.2.2.1,d.2.2.1.2.2.2.2.2.2.2.2.2.2.1,d.2.2.1.2.2.2.2.2.2.2.2.2.2.2.1,d.2.2.1.2.2.2.2.2.2.2.2.2.2.2.2.1,d.2.2.1.2.2.2.2.2.2.2.2.2.2.2.2.2.1,(),()),d.2.2.2.1,()))⟩],
 λ k d=>Vb F k (⟨(⟨d.2.2.1.1,d.2.2.1.2.1,d.2.2.1.2.2.1,d.2.2.1.2.2.2.1,d.2.2.1.2.2.2.2.1,d.1.2.1,d.2.2.1.2.2.2.2.2.2.1⟩:I.aV),(gX d.2.2.1.2.2.2.2.2.2.2),d.2.2.1.2.2.2.2.2.2.2.2.2.2.2.2.1,d.2.2.1.2.2.2.2.2.2.2.2.2.2.2.2.2.1,d.2.2.2.1⟩:I.bj) d.1.2.2.2.2.1 d.1.2.2.1 d.1.2.2.2.1 d.2.2.1.2.2.2.2.2.1⟩ (bO.bX (λ d=>dI) λ k da db q h=>by
 obtain⟨_,(v0:List Int),(v1:List Int),(p:Int),(v3:Int),_⟩:=da
 obtain⟨⟨_,_⟩,⟨(v4:List Int),(v5:Int),(f:Int),(g:Int),(i:Int),(v9:List Int),(a:Int),(b:List I.ap),(c:List Int),(j:List (List I.Field)),(l:List (List (List UInt8))),(m:List (List I.Target)),(n:List Int),(e:List Int),_,_⟩,(nz:List (Int×Bool)),_⟩:=db
 obtain⟨o,_⟩:=eh h
 dsimp only at o
 obtain⟨rfl,rfl,rfl,_⟩:=o
 conv=>rhs;change ee (α:=Unit⊕Int) _ (Vb F (k+1) (⟨(⟨v4,v5,f,g,i,v0,a⟩:I.aV),(⟨(⟨b,c,j,l,m⟩:I.aO)⟩:I.b'),n,e,nz⟩:I.bj) v3 (v0) (v0.length:Int) (v0));rw[<-Zo F (k+1) (⟨(⟨v4,v5,f,g,i,v0,a⟩:I.aV),(⟨(⟨b,c,j,l,m⟩:I.aO)⟩:I.b'),n,e,nz⟩:I.bj) v3];simp only[uo,ba,Zo,YG];simp only[bW]
 kernel_rfl)
noncomputable def Vc(F:Nat)(k:Nat)(a:I.bj)(c:Int)(ao:Int)(FG:List Int)(b:List Int):=dq ((a.aM.length:Int)=ao/\(a.H.aS:List Int)=FG/\(a.aM:List Int)=b/\True) (bf (wI F a k c))
theorem Zp(F:Nat)(k:Nat)(a:I.bj)(b:Int):bf (wI F a k b)=Vc F k a b (a.aM.length:Int) a.H.aS a.aM:=(dJ ⟨rfl,rfl,rfl,trivial⟩).symm
noncomputable def ap5(F:Nat):aQ aG:=(ap4 F).b1 105 2 F ⟨[1,3,59,60,61],[.p (.B 0),.p (.l 3),.p (.l 3),.p (.i .i64),.p (.i .i64)],[.c 60 [.B 1],ij,.m 3 4],
 [⟨⟨.nm,[],[],[.c 60 [.B 1],ij,.m 3 4]⟩,Unit,λ d r=>((),(((),()),(d.2.2.1.1,d.2.2.1.2.1,d.2.2.1.2.2.1,d.2.2.1.2.2.2.1,d.2.2.1.2.2.2.2.1,d.2.2.1.2.2.2.2.2.1,d.2.2.1.2.2.2.2.2.2.1,d.2.2.1.2.2.2.2.2.2.2.1,d.2.2.1.2.2.2.2.2.2.2.2.1,d.2.2.1.2.2.2.2.2.2.2.2.2.1,d.2.2.1.2.2.2.2.2.2.2.2.2.2.1,d.2.2.1.2.2.2.2.2.2.2.2.2.2.2.1,d.2.2.1.2.2.2.2.2.2.2.2.2.2.2.2.1,d.2.2.1.2.2.2.2.2.2.2.2.2.2.2.2.2.1,(),()),d.2.2.2.1,()))⟩,
  ⟨⟨.rt,[2],[.p (.i .i64)],[.c 60 [.B 1],ij,.m 3 4]⟩,Int,λ d r=>((r,()),(((),()),(d.2.2.1.1,d.2.2.1.2.1,d.2.2.1.2.2.1,d.2.2.1.2.2.2.1,d.2.2.1.2.2.2.2.1,d.2.2.1.2.2.2.2.2.1,d.2.2.1.2.2.2.2.2.2.1,d.2.2.1.2.2.2.2.2.2.2.1,d.2.2.1.2.2.2.2.2.2.2.2.1,d.2.2.1.2.2.2.2.2.2.2.2.2.1,d.2.2.1.2.2.2.2.2.2.2.2.2.2.1,d.2.2.1.2.2.2.2.2.2.2.2.2.2.2.1,d.2.2.1.2.2.2.2.2.2.2.2.2.2.2.2.1,d.2.2.1.2.2.2.2.2.2.2.2.2.2.2.2.2.1,(),()),d.2.2.2.1,()))⟩],
 λ k d=>Vc F k (⟨(⟨d.2.2.1.1,d.2.2.1.2.1,d.2.2.1.2.2.1,d.2.2.1.2.2.2.1,d.2.2.1.2.2.2.2.1,d.1.2.1,d.2.2.1.2.2.2.2.2.2.1⟩:I.aV),(gX d.2.2.1.2.2.2.2.2.2.2),d.2.2.1.2.2.2.2.2.2.2.2.2.2.2.2.1,d.1.2.2.1,d.2.2.2.1⟩:I.bj) d.1.2.2.2.2.1 d.1.2.2.2.1 d.2.2.1.2.2.2.2.2.1 d.2.2.1.2.2.2.2.2.2.2.2.2.2.2.2.2.1⟩ (bO.bX (λ d=>dI) λ k da db q h=>by
 obtain⟨_,(v0:List Int),(v1:List Int),(p:Int),(v3:Int),_⟩:=da
 obtain⟨⟨_,_⟩,⟨(v4:List Int),(v5:Int),(e:Int),(f:Int),(g:Int),(v9:List Int),(a:Int),(b:List I.ap),(c:List Int),(i:List (List I.Field)),(j:List (List (List UInt8))),(l:List (List I.Target)),(m:List Int),(o:List Int),_,_⟩,(nz:List (Int×Bool)),_⟩:=db
 obtain⟨n,_⟩:=eh h
 dsimp only at n
 obtain⟨rfl,rfl,rfl,_⟩:=n
 conv=>rhs;change ee (α:=Unit⊕Int) _ (Vc F (k+1) (⟨(⟨v4,v5,e,f,g,v0,a⟩:I.aV),(⟨(⟨b,c,i,j,l⟩:I.aO)⟩:I.b'),m,v1,nz⟩:I.bj) v3 (v1.length:Int) (v0) (v1));rw[<-Zp F (k+1) (⟨(⟨v4,v5,e,f,g,v0,a⟩:I.aV),(⟨(⟨b,c,i,j,l⟩:I.aO)⟩:I.b'),m,v1,nz⟩:I.bj) v3];simp only[wI,ba,Zp];simp only[bW]
 kernel_rfl)
noncomputable def ap6(F:Nat):aQ aG:=(ap5 F).rt 105 ⟨[.p (.B 0)],[fK,.m 3 4],[.p (.i .i64)],[fK,.m 3 4],Int,λ d=>F3 F (⟨(dY d.2.1),(gX d.2.1.2.2.2.2.2.2.2),d.2.1.2.2.2.2.2.2.2.2.2.2.2.2.1,d.2.1.2.2.2.2.2.2.2.2.2.2.2.2.2.1,d.2.2.1⟩:I.bj),λ d r=>((r,()),((d.2.1.1,d.2.1.2.1,d.2.1.2.2.1,d.2.1.2.2.2.1,d.2.1.2.2.2.2.1,d.2.1.2.2.2.2.2.1,d.2.1.2.2.2.2.2.2.1,d.2.1.2.2.2.2.2.2.2.1,d.2.1.2.2.2.2.2.2.2.2.1,d.2.1.2.2.2.2.2.2.2.2.2.1,d.2.1.2.2.2.2.2.2.2.2.2.2.1,d.2.1.2.2.2.2.2.2.2.2.2.2.2.1,d.2.1.2.2.2.2.2.2.2.2.2.2.2.2.1,d.2.1.2.2.2.2.2.2.2.2.2.2.2.2.2.1,(),()),d.2.2.1,()))⟩ λ da db=>by
 obtain⟨_,_⟩:=da;obtain⟨⟨(v0:List Int),(v1:Int),(e:Int),(v3:Int),(v4:Int),(v5:List Int),(f:Int),(g:List I.ap),(h:List Int),(v9:List (List I.Field)),(a:List (List (List UInt8))),(b:List (List I.Target)),(c:List Int),(i:List Int),_,_⟩,(j:List (Int×Bool)),_⟩:=db;conv=>rhs;simp only[F3,ba,Zo,Zp]
 kernel_rfl
theorem aF1(F:Nat)(a:I.aV)(b:I.aO){cB:Type}(f:(Option I.bj)×Int->Option cB):(uq F a b).bind f=dy (iB (uq F a b)) (λ p=>f (some p.1,p.2)) (λ e=>f (none,e)):=ajZ _ _
noncomputable def ap7(F:Nat):aQ aG:=(ap6 F).QA 65 ⟨[ju,hD],[],[⟨⟨[.p (.B 0),.p (.i .i64)],[fK,.m 3 4]⟩,I.bj×Int,λ d r=>(((),r.2,()),((r.1.H.Words,r.1.H.ak,r.1.H.aM,r.1.H.aX,r.1.H.aW,r.1.H.aS,r.1.H.Next,r.1.S.K.a6,r.1.S.K.aY,r.1.S.K.Fields,r.1.S.K.Names,r.1.S.K.aZ,r.1.ak,r.1.aM,(),()),r.1.dP,()))⟩,
 ⟨⟨[.p (.gM),.p (.i .i64)],[]⟩,Int,λ d r=>(((),r,()),())⟩],λ d=>iB (uq F (dY d.1.1) (fj d.1.2.1))⟩ λ da db=>by
 conv=>rhs;simp only[uq,ba,aj0,aj1,aj2,aj3,aj4,aj5];simp only[FC]
 kernel_rfl
theorem ak2(F:Nat)(a:I.aV)(b:I.aO){cB:Type}(f:(Option I.bj)×Int->Option cB):(jZ F a b).bind f=dy (iB (jZ F a b)) (λ p=>f (some p.1,p.2)) (λ e=>f (none,e)):=ajZ _ _
noncomputable def ap8(F:Nat):aQ aG:=(ap7 F).QA 33 ⟨[ju,hD],[],[⟨⟨[.p (.B 0),.p (.i .i64)],[fK,.m 3 4]⟩,I.bj×Int,λ d r=>(((),r.2,()),((r.1.H.Words,r.1.H.ak,r.1.H.aM,r.1.H.aX,r.1.H.aW,r.1.H.aS,r.1.H.Next,r.1.S.K.a6,r.1.S.K.aY,r.1.S.K.Fields,r.1.S.K.Names,r.1.S.K.aZ,r.1.ak,r.1.aM,(),()),r.1.dP,()))⟩,
 ⟨⟨[.p (.gM),.p (.i .i64)],[]⟩,Int,λ d r=>(((),r,()),())⟩],λ d=>iB (jZ F (dY d.1.1) (fj d.1.2.1))⟩ λ da db=>by
 obtain⟨⟨(v0:List Int),(v1:Int),(c:Int),(v3:Int),(v4:Int),(v5:List Int),(e:Int),_⟩,⟨(f:List I.ap),(g:List Int),(v9:List (List I.Field)),(a:List (List (List UInt8))),(b:List (List I.Target)),_⟩,_⟩:=da
 conv=>rhs;simp only[jZ,ba,aj0,aj1,aj2,aj3,aj4,aj5,aF1];simp only[FC]
 kernel_rfl
noncomputable def ap9(F:Nat):aQ aG:=(ap8 F).rt 35 ⟨[ju],[],[.p (.i .i64)],[],Int,λ d=>ade (dY d.1.1),λ d r=>((r,()),())⟩ λ da db=>by
 conv=>rhs;simp only[ade,ba]
 kernel_rfl
noncomputable def ap'(F:Nat):aQ aG:=(ap9 F).rt 19 ⟨[ju,hD],[],[.p (.i .i64),.p (.i .i64)],[],Int×Int,λ d=>apP F (dY d.1.1) (fj d.1.2.1),λ d r=>((r.1,r.2,()),())⟩ λ da db=>by
 obtain⟨⟨(v0:List Int),(v1:Int),(c:Int),(v3:Int),(v4:Int),(v5:List Int),(e:Int),_⟩,⟨(f:List I.ap),(g:List Int),(v9:List (List I.Field)),(a:List (List (List UInt8))),(b:List (List I.Target)),_⟩,_⟩:=da;conv=>rhs;simp only[apP,ba,ak2]
 kernel_rfl
noncomputable def aqa(F:Nat):aQ aG:=(ap' F).rt 47 ⟨[],[],[.p (.l 134)],[],List I.ap,λ d=>adF,λ d r=>((r,()),())⟩ λ da db=>by
 conv=>rhs;simp only[adF,ba]
 kernel_rfl
noncomputable def aqb(F:Nat):aQ aG:=(aqa F).rt 48 ⟨[.p (.i .i64),.p (.i .i64)],[],[ju,.p (.i .i64)],[],I.aV×Int,λ d=>ahC d.1.1 d.1.2.1,λ d r=>(((r.1.Words,r.1.ak,r.1.aM,r.1.aX,r.1.aW,r.1.aS,r.1.Next,()),r.2,()),())⟩ λ da db=>by
 conv=>rhs;simp only[ahC,ba]
 kernel_rfl
noncomputable def aqc(F:Nat):aQ aG:=(aqb F).rt 57 ⟨[hD,.p (.i .i64),.p (.i .i64)],[],[.p (.i .i64)],[],Int,λ d=>Wj (gX d.1.1) d.1.2.1 d.1.2.2.1,λ d r=>((r,()),())⟩ λ da db=>by
 conv=>rhs;simp only[Wj,ba]
 kernel_rfl
noncomputable def aqd(F:Nat):aQ aG:=(aqc F).rt 36 ⟨[ju],[],[.a [.R 0,.i .i64,.i .i64,.i .i64,.i .i64,.l 3,.i .i64]],[.r 3 false],I.aV,λ d=>m' (dY d.1.1),λ d r=>((((),r.ak,r.aM,r.aX,r.aW,r.aS,r.Next,()),()),(r.Words,()))⟩ λ da db=>by
 obtain⟨⟨(v0:List Int),(v1:Int),(a:Int),(v3:Int),(v4:Int),(v5:List Int),(b:Int),_⟩,_⟩:=da;conv=>rhs;simp only[m',ba,QH]
 kernel_rfl
noncomputable def aqe(F:Nat):aQ aG:=(aqd F).rt 85 ⟨[.p (.B 0),.p (.i .i64),.p (.i .i64),.p (.b)],[akr,.r 3 true],[.p (.i .i64),.p (.b)],[akr,.r 3 true],Int×Bool×I.aV,λ d=>Wi (⟨d.2.2.1,d.2.1.2.1,d.2.1.2.2.1,d.2.1.2.2.2.1,d.2.1.2.2.2.2.1,d.2.1.2.2.2.2.2.1,d.2.1.2.2.2.2.2.2.1⟩:I.aV) d.1.2.1 d.1.2.2.1 d.1.2.2.2.1,λ d r=>((r.1,r.2.1,()),(((),d.2.1.2.1,d.2.1.2.2.1,r.2.2.aX,r.2.2.aW,d.2.1.2.2.2.2.2.1,r.2.2.Next,()),r.2.2.Words,()))⟩ λ da db=>by
 conv=>rhs;simp only[Wi,ba]
 kernel_rfl
noncomputable def aqf(F:Nat):aQ aG:=(aqe F).rt 49 ⟨[ju,hD,.p (.i .i64),.p (.i .i64),.p (.b)],[],[ju,.p (.i .i64),.p (.i .i64)],[],I.aV×Int×Int,λ d=>ahB F (dY d.1.1) (fj d.1.2.1) d.1.2.2.1 d.1.2.2.2.1 d.1.2.2.2.2.1,λ d r=>(((r.1.Words,r.1.ak,r.1.aM,r.1.aX,r.1.aW,r.1.aS,r.1.Next,()),r.2.1,r.2.2,()),())⟩ λ da db=>by
 obtain⟨⟨(v0:List Int),(v1:Int),(e:Int),(v3:Int),(v4:Int),(v5:List Int),(f:Int),_⟩,⟨(g:List I.ap),(h:List Int),(v9:List (List I.Field)),(a:List (List (List UInt8))),(b:List (List I.Target)),_⟩,(c:Int),(i:Int),(j:Bool),_⟩:=da;conv=>rhs;simp only[ahB,ba,ak2]
 kernel_rfl
noncomputable def aqg(F:Nat):aQ aG:=(aqf F).rt 34 ⟨[.p (.B 0),.p (.l 3)],[fK,.m 3 4],[.p (.i .i64)],[fK,.m 3 4],Int,λ d=>vw F (⟨(dY d.2.1),(gX d.2.1.2.2.2.2.2.2.2),d.2.1.2.2.2.2.2.2.2.2.2.2.2.2.1,d.2.1.2.2.2.2.2.2.2.2.2.2.2.2.2.1,d.2.2.1⟩:I.bj) d.1.2.1,λ d r=>((r,()),((d.2.1.1,d.2.1.2.1,d.2.1.2.2.1,d.2.1.2.2.2.1,d.2.1.2.2.2.2.1,d.2.1.2.2.2.2.2.1,d.2.1.2.2.2.2.2.2.1,d.2.1.2.2.2.2.2.2.2.1,d.2.1.2.2.2.2.2.2.2.2.1,d.2.1.2.2.2.2.2.2.2.2.2.1,d.2.1.2.2.2.2.2.2.2.2.2.2.1,d.2.1.2.2.2.2.2.2.2.2.2.2.2.1,d.2.1.2.2.2.2.2.2.2.2.2.2.2.2.1,d.2.1.2.2.2.2.2.2.2.2.2.2.2.2.2.1,(),()),d.2.2.1,()))⟩ λ da db=>by
 conv=>rhs;simp only[vw,ba]
 kernel_rfl
noncomputable def aqh(F:Nat):aQ aG:=(aqg F).b1 123 0 F ⟨[0,1,5],[.p (.l 136),.p (.l 136),.p (.i .i64)],[],
 [⟨⟨.nm,[],[],[]⟩,Unit,λ d r=>((),())⟩,
  ⟨⟨.rt,[4],[.p (.b)],[]⟩,Bool,λ d r=>((r,()),())⟩],
 λ k d=>bf (Cd d.1.1 d.1.2.1 k d.1.2.2.1)⟩ (bO.bX (λ d=>rfl) λ k da db q h=>by
 conv=>rhs;simp only[Cd,ba];simp only[bW]
 kernel_rfl)
noncomputable def aqi(F:Nat):aQ aG:=(aqh F).rt 123 ⟨[.p (.l 136),.p (.l 136)],[],[.p (.b)],[],Bool,λ d=>Fh F d.1.1 d.1.2.1,λ d r=>((r,()),())⟩ λ da db=>by
 conv=>rhs;simp only[Fh,ba]
 kernel_rfl
noncomputable def aqk(F:Nat):aQ aG:=(aqi F).b1 148 0 F ⟨[0,1,5],[.p (.l 128),.p (.l 128),.p (.i .i64)],[],
 [⟨⟨.nm,[],[],[]⟩,Unit,λ d r=>((),())⟩,
  ⟨⟨.rt,[4],[.p (.b)],[]⟩,Bool,λ d r=>((r,()),())⟩],
 λ k d=>bf (qu d.1.1 d.1.2.1 k d.1.2.2.1)⟩ (bO.bX (λ d=>rfl) λ k da db q h=>by
 conv=>rhs;simp only[qu,ba];simp only[bW]
 kernel_rfl)
noncomputable def aql(F:Nat):aQ aG:=(aqk F).rt 148 ⟨[.p (.l 128),.p (.l 128)],[],[.p (.b)],[],Bool,λ d=>vN F d.1.1 d.1.2.1,λ d r=>((r,()),())⟩ λ da db=>by
 conv=>rhs;simp only[vN,ba]
 kernel_rfl
noncomputable def aqm(F:Nat):aQ aG:=(aql F).b1 122 4 F ⟨[0,1,5,6,7,8,9,10,11],[.p (.l 134),.p (.l 134),.p (.i .i64),.p (.B 0),.p (.B 1),.p (.i .i64),.p (.B 2),.p (.B 3),.p (.i .i64)],[ik,ik,mu,mu],
 [⟨⟨.nm,[0,1,5,6,7,8],[.p (.l 134),.p (.l 134),.p (.i .i64),.p (.B 0),.p (.B 1),.p (.i .i64)],[ik,ik,mu,mu]⟩,Unit,λ d r=>((d.1.1,d.1.2.1,d.1.2.2.1,(),(),d.1.2.2.2.2.2.1,()),(d.2.1,d.2.2.1,d.2.2.2.1,d.2.2.2.2.1,()))⟩,
  ⟨⟨.rt,[4],[.p (.b)],[.d,.d,.d,.d]⟩,Bool,λ d r=>((r,()),((),(),(),(),()))⟩],
 λ k d=>bf (Cc (u' d.2.2.2.1) (u' d.2.2.2.2.1) k d.1.2.2.2.2.2.2.2.2.1)⟩ (bO.bX (λ d=>rfl) λ k da db q h=>by
 conv=>rhs;simp only[Cc,ba];simp only[bW]
 kernel_rfl)
noncomputable def aqn(F:Nat):aQ aG:=(aqm F).b1 122 2 F ⟨[0,1,5,6,7,8],[.p (.l 134),.p (.l 134),.p (.i .i64),.p (.B 0),.p (.B 1),.p (.i .i64)],[ik,ik],
 [⟨⟨.nm,[0,1,5],[.p (.l 134),.p (.l 134),.p (.i .i64)],[ik,ik]⟩,Unit,λ d r=>((d.1.1,d.1.2.1,d.1.2.2.1,()),(d.2.1,d.2.2.1,()))⟩,
  ⟨⟨.rt,[4],[.p (.b)],[.d,.d]⟩,Bool,λ d r=>((r,()),((),(),()))⟩],
 λ k d=>bf (Cb F (Ho d.2.1) (Ho d.2.2.1) k d.1.2.2.2.2.2.1)⟩ (bO.bX (λ d=>rfl) λ k da db q h=>by
 obtain⟨(v0:List I.ap),(v1:List I.ap),(c:Int),_,_,(v3:Int),_⟩:=da
 obtain⟨⟨(v4:List UInt8),(v5:List UInt8),(e:List I.Field),(f:List I.Method),_⟩,⟨(g:List UInt8),(v9:List UInt8),(a:List I.Field),(b:List I.Method),_⟩,_⟩:=db
 conv=>rhs;simp only[Cb,ba,YG,<-Bool.or_assoc];simp only[bW]
 kernel_rfl)
noncomputable def aqo(F:Nat):aQ aG:=(aqn F).b1 122 0 F ⟨[0,1,5],[.p (.l 134),.p (.l 134),.p (.i .i64)],[],
 [⟨⟨.nm,[],[],[]⟩,Unit,λ d r=>((),())⟩,
  ⟨⟨.rt,[4],[.p (.b)],[]⟩,Bool,λ d r=>((r,()),())⟩],
 λ k d=>bf (Ca F d.1.1 d.1.2.1 k d.1.2.2.1)⟩ (bO.bX (λ d=>rfl) λ k da db q h=>by
 conv=>rhs;simp only[Ca,ba];simp only[bW]
 kernel_rfl)
noncomputable def aqp(F:Nat):aQ aG:=(aqo F).rt 122 ⟨[.p (.l 134),.p (.l 134)],[],[.p (.b)],[],Bool,λ d=>Fg F d.1.1 d.1.2.1,λ d r=>((r,()),())⟩ λ da db=>by
 conv=>rhs;simp only[Fg,ba]
 kernel_rfl
noncomputable def U_(k:Nat)(a:I.aO)(b:I.aO)(c:Int)(d:Int):=dq ((a.aY.length:Int)=d/\True) (bf (yN a b k c))
theorem Zl(k:Nat)(a:I.aO)(b:I.aO)(c:Int):bf (yN a b k c)=U_ k a b c (a.aY.length:Int):=(dJ ⟨rfl,trivial⟩).symm
noncomputable def aqq(F:Nat):aQ aG:=(aqp F).b1 87 0 F ⟨[2,3,5,6],[.p (.B 0),.p (.B 1),.p (.i .i64),.p (.i .i64)],[dX,dX],
 [⟨⟨.nm,[2,3],[.p (.B 0),.p (.B 1)],[dX,dX]⟩,Unit,λ d r=>(((),(),()),(d.2.1,d.2.2.1,()))⟩,
  ⟨⟨.rt,[4],[.p (.b)],[.d,.d]⟩,Bool,λ d r=>((r,()),((),(),()))⟩],
 λ k d=>U_ k (fj d.2.1) (fj d.2.2.1) d.1.2.2.2.1 d.1.2.2.1⟩ (bO.bX (λ d=>dI) λ k da db q h=>by
 obtain⟨_,_,(v0:Int),(v1:Int),_⟩:=da
 obtain⟨⟨(c:List I.ap),(v3:List Int),(v4:List (List I.Field)),(v5:List (List (List UInt8))),(e:List (List I.Target)),_⟩,⟨(f:List I.ap),(g:List Int),(v9:List (List I.Field)),(a:List (List (List UInt8))),(b:List (List I.Target)),_⟩,_⟩:=db
 obtain⟨i,_⟩:=eh h
 dsimp only at i
 obtain⟨rfl,_⟩:=i
 conv=>rhs;change ee (α:=Unit⊕Bool) _ (U_ (k+1) (⟨c,v3,v4,v5,e⟩:I.aO) (⟨f,g,v9,a,b⟩:I.aO) v1 (v3.length:Int));rw[<-Zl (k+1) (⟨c,v3,v4,v5,e⟩:I.aO) (⟨f,g,v9,a,b⟩:I.aO) v1];simp only[yN,ba,Zl];simp only[bW]
 kernel_rfl)
noncomputable def aqr(F:Nat):aQ aG:=(aqq F).b1 87 2 F ⟨[2,3,7],[.p (.B 0),.p (.B 1),.p (.i .i64)],[dX,dX],
 [⟨⟨.nm,[2,3],[.p (.B 0),.p (.B 1)],[dX,dX]⟩,Unit,λ d r=>(((),(),()),(d.2.1,d.2.2.1,()))⟩,
  ⟨⟨.rt,[4],[.p (.b)],[.d,.d]⟩,Bool,λ d r=>((r,()),((),(),()))⟩],
 λ k d=>bf (Cf F (fj d.2.1) (fj d.2.2.1) k d.1.2.2.1)⟩ (bO.bX (λ d=>rfl) λ k da db q h=>by
 conv=>rhs;simp only[Cf,ba];simp only[bW]
 kernel_rfl)
noncomputable def aqs(F:Nat):aQ aG:=(aqr F).b1 87 6 F ⟨[2,3,8,9],[.p (.B 0),.p (.B 1),.p (.i .i64),.p (.i .i64)],[dX,dX],
 [⟨⟨.nm,[2,3,8],[.p (.B 0),.p (.B 1),.p (.i .i64)],[dX,dX]⟩,Unit,λ d r=>(((),(),d.1.2.2.1,()),(d.2.1,d.2.2.1,()))⟩,
  ⟨⟨.rt,[4],[.p (.b)],[.d,.d]⟩,Bool,λ d r=>((r,()),((),(),()))⟩],
 λ k d=>bf (Ch (fj d.2.1) (fj d.2.2.1) d.1.2.2.1 k d.1.2.2.2.1)⟩ (bO.bX (λ d=>rfl) λ k da db q h=>by
 conv=>rhs;simp only[Ch,ba];simp only[bW]
 kernel_rfl)
noncomputable def aqt(F:Nat):aQ aG:=(aqs F).b1 87 4 F ⟨[2,3,8],[.p (.B 0),.p (.B 1),.p (.i .i64)],[dX,dX],
 [⟨⟨.nm,[2,3],[.p (.B 0),.p (.B 1)],[dX,dX]⟩,Unit,λ d r=>(((),(),()),(d.2.1,d.2.2.1,()))⟩,
  ⟨⟨.rt,[4],[.p (.b)],[.d,.d]⟩,Bool,λ d r=>((r,()),((),(),()))⟩],
 λ k d=>bf (Cg F (fj d.2.1) (fj d.2.2.1) k d.1.2.2.1)⟩ (bO.bX (λ d=>rfl) λ k da db q h=>by
 conv=>rhs;simp only[Cg,ba];simp only[bW]
 kernel_rfl)
noncomputable def aqv(F:Nat):aQ aG:=(aqt F).b1 87 10 F ⟨[2,3,10,11],[.p (.B 0),.p (.B 1),.p (.i .i64),.p (.i .i64)],[dX,dX],
 [⟨⟨.nm,[2,3,10],[.p (.B 0),.p (.B 1),.p (.i .i64)],[dX,dX]⟩,Unit,λ d r=>(((),(),d.1.2.2.1,()),(d.2.1,d.2.2.1,()))⟩,
  ⟨⟨.rt,[4],[.p (.b)],[.d,.d]⟩,Bool,λ d r=>((r,()),((),(),()))⟩],
 λ k d=>bf (Cj (fj d.2.1) (fj d.2.2.1) d.1.2.2.1 k d.1.2.2.2.1)⟩ (bO.bX (λ d=>rfl) λ k da db q h=>by
 conv=>rhs;simp only[Cj,ba];simp only[bW]
 kernel_rfl)
noncomputable def aqw(F:Nat):aQ aG:=(aqv F).b1 87 8 F ⟨[2,3,10],[.p (.B 0),.p (.B 1),.p (.i .i64)],[dX,dX],
 [⟨⟨.nm,[],[],[dX,dX]⟩,Unit,λ d r=>((),(d.2.1,d.2.2.1,()))⟩,
  ⟨⟨.rt,[4],[.p (.b)],[.d,.d]⟩,Bool,λ d r=>((r,()),((),(),()))⟩],
 λ k d=>bf (Ci F (fj d.2.1) (fj d.2.2.1) k d.1.2.2.1)⟩ (bO.bX (λ d=>rfl) λ k da db q h=>by
 conv=>rhs;simp only[Ci,ba];simp only[bW]
 kernel_rfl)
noncomputable def aqx(F:Nat):aQ aG:=(aqw F).rt 87 ⟨[hD,hD],[],[.p (.b)],[],Bool,λ d=>Fi F (fj d.1.1) (fj d.1.2.1),λ d r=>((r,()),())⟩ λ da db=>by
 obtain⟨⟨(v0:List I.ap),(v1:List Int),(a:List (List I.Field)),(v3:List (List (List UInt8))),(v4:List (List I.Target)),_⟩,⟨(v5:List I.ap),(b:List Int),(c:List (List I.Field)),(e:List (List (List UInt8))),(v9:List (List I.Target)),_⟩,_⟩:=da;conv=>rhs;simp only[Fi,ba,Zl]
 kernel_rfl
noncomputable def aqy(F:Nat):aQ aG:=(aqx F).b1 164 0 F ⟨[0,3],[.p (.s),.p (.i .i64)],[],
 [⟨⟨.nm,[0],[.p (.s)],[]⟩,Unit,λ d r=>((d.1.1,()),())⟩,
  ⟨⟨.rt,[2],[.p (.b)],[]⟩,Bool,λ d r=>((r,()),())⟩],
 λ k d=>bf (tN d.1.1 k d.1.2.1)⟩ (bO.bX (λ d=>rfl) λ k da db q h=>by
 conv=>rhs;simp only[tN,ba];simp only[bW]
 kernel_rfl)
noncomputable def aqz(F:Nat):aQ aG:=(aqy F).rt 164 ⟨[.p (.s)],[],[.p (.b)],[],Bool,λ d=>o' F d.1.1,λ d r=>((r,()),())⟩ λ da db=>by
 conv=>rhs;simp only[o',ba]
 kernel_rfl
noncomputable def aqA(F:Nat):aQ aG:=(aqz F).rt 165 ⟨[.a [.i .i64,.s]],[],[.p (.b)],[],Bool,λ d=>vL F (LG d.1.1),λ d r=>((r,()),())⟩ λ da db=>by
 conv=>rhs;simp only[vL,ba]
 kernel_rfl
noncomputable def aqB(F:Nat):aQ aG:=(aqA F).rt 42 ⟨[.p (.i .i64),.p (.i .i64),.p (.i .i64)],[],[.p (.b)],[],Bool,λ d=>fX d.1.1 d.1.2.1 d.1.2.2.1,λ d r=>((r,()),())⟩ λ da db=>by
 conv=>rhs;simp only[fX,ba]
 kernel_rfl
noncomputable def aqC(F:Nat):aQ aG:=(aqB F).b1 166 0 F ⟨[1,3],[.p (.B 0),.p (.i .i64)],[mu],
 [⟨⟨.nm,[1],[.p (.B 0)],[mu]⟩,Unit,λ d r=>(((),()),(d.2.1,()))⟩,
  ⟨⟨.rt,[2],[.p (.i .i64)],[.d]⟩,Int,λ d r=>((r,()),((),()))⟩],
 λ k d=>bf (B0 F (u' d.2.1) k d.1.2.1)⟩ (bO.bX (λ d=>rfl) λ k da db q h=>by
 conv=>rhs;simp only[B0,ba];simp only[bW]
 kernel_rfl)
noncomputable def aqD(F:Nat):aQ aG:=(aqC F).b1 166 2 F ⟨[1,4],[.p (.B 0),.p (.i .i64)],[mu],
 [⟨⟨.nm,[],[],[mu]⟩,Unit,λ d r=>((),(d.2.1,()))⟩,
  ⟨⟨.rt,[2],[.p (.i .i64)],[.d]⟩,Int,λ d r=>((r,()),((),()))⟩],
 λ k d=>bf (B1 F (u' d.2.1) k d.1.2.1)⟩ (bO.bX (λ d=>rfl) λ k da db q h=>by
 conv=>rhs;simp only[B1,ba];simp only[bW]
 kernel_rfl)
noncomputable def aqE(F:Nat):aQ aG:=(aqD F).rt 166 ⟨[P0],[],[.p (.i .i64)],[],Int,λ d=>BZ F (u' d.1.1),λ d r=>((r,()),())⟩ λ da db=>by
 conv=>rhs;simp only[BZ,ba]
 kernel_rfl
theorem aFZ(F:Nat)(k:Nat)(a:I.ap)(b:Int):bf (E' F a k b)=bf (yD F a k b):=by kernel_rfl
noncomputable def aqG(F:Nat):aQ aG:=(aqE F).b1 145 2 F ⟨[0,3,4,5],[.p (.l 134),.p (.i .i64),.p (.B 0),.p (.i .i64)],[ik],
 [⟨⟨.nm,[0,3,4],[.p (.l 134),.p (.i .i64),.p (.B 0)],[ik]⟩,Unit,λ d r=>((d.1.1,d.1.2.1,(),()),(d.2.1,()))⟩,
  ⟨⟨.rt,[2],[.p (.i .i64)],[.d]⟩,Int,λ d r=>((r,()),((),()))⟩],
 λ k d=>bf (yD F (Ho d.2.1) k d.1.2.2.2.1)⟩ (bO.bX (λ d=>rfl) λ k da db q h=>by
 conv=>rhs;simp only[yD,ba];simp only[bW]
 kernel_rfl)
theorem aF0(F:Nat)(k:Nat)(a:I.ap)(b:Int):bf (Fa F a k b)=bf (yE F a k b):=by kernel_rfl
noncomputable def aqH(F:Nat):aQ aG:=(aqG F).b1 145 4 F ⟨[0,3,4,6],[.p (.l 134),.p (.i .i64),.p (.B 0),.p (.i .i64)],[ik],
 [⟨⟨.nm,[0,3],[.p (.l 134),.p (.i .i64)],[ik]⟩,Unit,λ d r=>((d.1.1,d.1.2.1,()),(d.2.1,()))⟩,
  ⟨⟨.rt,[2],[.p (.i .i64)],[.d]⟩,Int,λ d r=>((r,()),((),()))⟩],
 λ k d=>bf (yE F (Ho d.2.1) k d.1.2.2.2.1)⟩ (bO.bX (λ d=>rfl) λ k da db q h=>by
 conv=>rhs;simp only[yE,ba];simp only[bW]
 kernel_rfl)
noncomputable def aqI(F:Nat):aQ aG:=(aqH F).b1 145 0 F ⟨[0,3],[.p (.l 134),.p (.i .i64)],[],
 [⟨⟨.nm,[],[],[]⟩,Unit,λ d r=>((),())⟩,
  ⟨⟨.rt,[2],[.p (.i .i64)],[]⟩,Int,λ d r=>((r,()),())⟩],
 λ k d=>bf (BJ F d.1.1 k d.1.2.1)⟩ (bO.bX (λ d=>rfl) λ k da db q h=>by
 obtain⟨(v0:List I.ap),(v1:Int),_⟩:=da
 conv=>rhs;simp only[BJ,ba,aFZ,aF0];simp only[bW]
 kernel_rfl)
noncomputable def aqJ(F:Nat):aQ aG:=(aqI F).rt 145 ⟨[.p (.l 134)],[],[.p (.i .i64)],[],Int,λ d=>Ik F d.1.1,λ d r=>((r,()),())⟩ λ da db=>by
 conv=>rhs;simp only[Ik,ba]
 kernel_rfl
noncomputable def aqK(F:Nat):aQ aG:=(aqJ F).b1 121 0 F ⟨[0,1,5],[.p (.l 134),.p (.s),.p (.i .i64)],[],
 [⟨⟨.nm,[],[],[]⟩,Unit,λ d r=>((),())⟩,
  ⟨⟨.rt,[4],[.p (.i .i64)],[]⟩,Int,λ d r=>((r,()),())⟩],
 λ k d=>bf (B2 d.1.1 d.1.2.1 k d.1.2.2.1)⟩ (bO.bX (λ d=>rfl) λ k da db q h=>by
 conv=>rhs;simp only[B2,ba];simp only[bW]
 kernel_rfl)
noncomputable def aqL(F:Nat):aQ aG:=(aqK F).rt 121 ⟨[.p (.l 134),.p (.s)],[],[.p (.i .i64)],[],Int,λ d=>o_ F d.1.1 d.1.2.1,λ d r=>((r,()),())⟩ λ da db=>by
 conv=>rhs;simp only[o_,ba]
 kernel_rfl
noncomputable def aqM(F:Nat):aQ aG:=(aqL F).b1 146 0 F ⟨[0,1,5],[.p (.l 134),.p (.i .i64),.p (.l 3)],[],
 [⟨⟨.nm,[5],[.p (.l 3)],[]⟩,List Int,λ d r=>((r,()),())⟩,
  ⟨⟨.rt,[4],[.p (.l 3)],[]⟩,List Int,λ d r=>((r,()),())⟩],
 λ k d=>bf (Cn F d.1.1 k d.1.2.1 d.1.2.2.1)⟩ (bO.bX (λ d=>rfl) λ k da db q h=>by
 conv=>rhs;simp only[Cn,ba];simp only[bW]
 kernel_rfl)
noncomputable def aqN(F:Nat):aQ aG:=(aqM F).rt 146 ⟨[.p (.l 134),.p (.i .i64)],[],[.p (.l 3)],[],List Int,λ d=>yQ F d.1.1 d.1.2.1,λ d r=>((r,()),())⟩ λ da db=>by
 conv=>rhs;simp only[yQ,ba]
 kernel_rfl
noncomputable def aqO(F:Nat):aQ aG:=(aqN F).b1 119 0 F ⟨[0,5,6,7],[.p (.l 134),.p (.R 0),.p (.l 3),.p (.i .i64)],[.r 136 false],
 [⟨⟨.nm,[5],[.p (.R 0)],[.r 136 false]⟩,List I.Field,λ d r=>(((),()),(r,()))⟩],
 λ k d=>tI d.1.1 d.1.2.2.1 k d.2.1 d.1.2.2.2.1⟩ (bO.bX (λ d=>rfl) λ k da db q h=>by
 conv=>rhs;simp only[tI,ba];simp only[bW]
 kernel_rfl)
noncomputable def aqP(F:Nat):aQ aG:=(aqO F).rt 119 ⟨[.p (.l 134),.p (.i .i64)],[],[.p (.l 136)],[],List I.Field,λ d=>BI F d.1.1 d.1.2.1,λ d r=>((r,()),())⟩ λ da db=>by
 conv=>rhs;simp only[BI,ba]
 kernel_rfl
noncomputable def aqR(F:Nat):aQ aG:=(aqP F).b1 147 0 F ⟨[0,1,5],[.p (.l 134),.p (.l 128),.p (.i .i64)],[],
 [⟨⟨.nm,[],[],[]⟩,Unit,λ d r=>((),())⟩,
  ⟨⟨.rt,[4],[.p (.b)],[]⟩,Bool,λ d r=>((r,()),())⟩],
 λ k d=>bf (yP F d.1.2.1 d.1.1 k d.1.2.2.1)⟩ (bO.bX (λ d=>rfl) λ k da db q h=>by
 conv=>rhs;simp only[yP,ba];simp only[bW]
 kernel_rfl)
noncomputable def aqS(F:Nat):aQ aG:=(aqR F).rt 147 ⟨[.p (.l 134),.p (.l 128)],[],[.p (.b)],[],Bool,λ d=>Cm F d.1.1 d.1.2.1,λ d r=>((r,()),())⟩ λ da db=>by
 conv=>rhs;simp only[Cm,ba]
 kernel_rfl
noncomputable def aqT(F:Nat):aQ aG:=(aqS F).b1 118 0 F ⟨[0,4],[.p (.l 134),.p (.i .i64)],[],
 [⟨⟨.nm,[0],[.p (.l 134)],[]⟩,Unit,λ d r=>((d.1.1,()),())⟩,
  ⟨⟨.rt,[2],[.p (.i .i64)],[]⟩,Int,λ d r=>((r,()),())⟩],
 λ k d=>bf (vJ F d.1.1 k d.1.2.1)⟩ (bO.bX (λ d=>rfl) λ k da db q h=>by
 conv=>rhs;simp only[vJ,ba];simp only[bW]
 kernel_rfl)
noncomputable def aqU(F:Nat):aQ aG:=(aqT F).b1 118 2 F ⟨[0,5],[.p (.l 134),.p (.i .i64)],[],
 [⟨⟨.nm,[0],[.p (.l 134)],[]⟩,Unit,λ d r=>((d.1.1,()),())⟩,
  ⟨⟨.rt,[2],[.p (.i .i64)],[]⟩,Int,λ d r=>((r,()),())⟩],
 λ k d=>bf (BS d.1.1 k d.1.2.1)⟩ (bO.bX (λ d=>rfl) λ k da db q h=>by
 conv=>rhs;simp only[BS,ba];simp only[bW]
 kernel_rfl)
noncomputable def aqV(F:Nat):aQ aG:=(aqU F).b1 118 4 F ⟨[0,6],[.p (.l 134),.p (.i .i64)],[],
 [⟨⟨.nm,[0],[.p (.l 134)],[]⟩,Unit,λ d r=>((d.1.1,()),())⟩,
  ⟨⟨.rt,[2],[.p (.i .i64)],[]⟩,Int,λ d r=>((r,()),())⟩],
 λ k d=>bf (yI F d.1.1 k d.1.2.1)⟩ (bO.bX (λ d=>rfl) λ k da db q h=>by
 conv=>rhs;simp only[yI,ba];simp only[bW]
 kernel_rfl)
noncomputable def aqW(F:Nat):aQ aG:=(aqV F).b1 118 6 F ⟨[0,7],[.p (.l 134),.p (.i .i64)],[],
 [⟨⟨.nm,[0],[.p (.l 134)],[]⟩,Unit,λ d r=>((d.1.1,()),())⟩,
  ⟨⟨.rt,[2],[.p (.i .i64)],[]⟩,Int,λ d r=>((r,()),())⟩],
 λ k d=>bf (BT F d.1.1 k d.1.2.1)⟩ (bO.bX (λ d=>rfl) λ k da db q h=>by
 conv=>rhs;simp only[BT,ba];simp only[bW]
 kernel_rfl)
noncomputable def aqX(F:Nat):aQ aG:=(aqW F).b1 118 10 F ⟨[0,10,11],[.p (.l 134),.p (.i .i64),.p (.i .i64)],[],
 [⟨⟨.nm,[0,10],[.p (.l 134),.p (.i .i64)],[]⟩,Unit,λ d r=>((d.1.1,d.1.2.1,()),())⟩,
  ⟨⟨.rt,[2],[.p (.i .i64)],[]⟩,Int,λ d r=>((r,()),())⟩],
 λ k d=>bf (BU F d.1.1 d.1.2.1 k d.1.2.2.1)⟩ (bO.bX (λ d=>rfl) λ k da db q h=>by
 conv=>rhs;simp only[BU,ba];simp only[bW]
 kernel_rfl)
noncomputable def aqY(F:Nat):aQ aG:=(aqX F).b1 118 14 F ⟨[0,10,12,13,14],[.p (.l 134),.p (.i .i64),.p (.i .i64),.p (.B 0),.p (.i .i64)],[mu],
 [⟨⟨.nm,[0,10,12],[.p (.l 134),.p (.i .i64),.p (.i .i64)],[mu]⟩,Unit,λ d r=>((d.1.1,d.1.2.1,d.1.2.2.1,()),(d.2.1,()))⟩,
  ⟨⟨.rt,[2],[.p (.i .i64)],[.d]⟩,Int,λ d r=>((r,()),((),()))⟩],
 λ k d=>bf (BW F d.1.1 (u' d.2.1) k d.1.2.2.2.2.1)⟩ (bO.bX (λ d=>rfl) λ k da db q h=>by
 conv=>rhs;simp only[BW,ba];simp only[bW]
 kernel_rfl)
noncomputable def aqZ(F:Nat):aQ aG:=(aqY F).b1 118 12 F ⟨[0,10,12],[.p (.l 134),.p (.i .i64),.p (.i .i64)],[],
 [⟨⟨.nm,[0,10],[.p (.l 134),.p (.i .i64)],[]⟩,Unit,λ d r=>((d.1.1,d.1.2.1,()),())⟩,
  ⟨⟨.rt,[2],[.p (.i .i64)],[]⟩,Int,λ d r=>((r,()),())⟩],
 λ k d=>bf (BV F d.1.1 d.1.2.1 k d.1.2.2.1)⟩ (bO.bX (λ d=>rfl) λ k da db q h=>by
 conv=>rhs;simp only[BV,ba];simp only[bW]
 kernel_rfl)
noncomputable def aq0(F:Nat):aQ aG:=(aqZ F).b1 118 8 F ⟨[0,10],[.p (.l 134),.p (.i .i64)],[],
 [⟨⟨.nm,[0],[.p (.l 134)],[]⟩,Unit,λ d r=>((d.1.1,()),())⟩,
  ⟨⟨.rt,[2],[.p (.i .i64)],[]⟩,Int,λ d r=>((r,()),())⟩],
 λ k d=>bf (yJ F d.1.1 k d.1.2.1)⟩ (bO.bX (λ d=>rfl) λ k da db q h=>by
 conv=>rhs;simp only[yJ,ba];simp only[bW]
 kernel_rfl)
noncomputable def aq2(F:Nat):aQ aG:=(aq0 F).b1 118 20 F ⟨[0,15,16,17,18],[.p (.l 134),.p (.i .i64),.p (.l 136),.p (.i .i64),.p (.i .i64)],[],
 [⟨⟨.nm,[0,15,16,17],[.p (.l 134),.p (.i .i64),.p (.l 136),.p (.i .i64)],[]⟩,Unit,λ d r=>((d.1.1,d.1.2.1,d.1.2.2.1,d.1.2.2.2.1,()),())⟩,
  ⟨⟨.rt,[2],[.p (.i .i64)],[]⟩,Int,λ d r=>((r,()),())⟩],
 λ k d=>bf (BO d.1.2.2.1 d.1.2.2.2.1 k d.1.2.2.2.2.1)⟩ (bO.bX (λ d=>rfl) λ k da db q h=>by
 conv=>rhs;simp only[BO,ba];simp only[bW]
 kernel_rfl)
noncomputable def aq3(F:Nat):aQ aG:=(aq2 F).b1 118 18 F ⟨[0,15,16,17],[.p (.l 134),.p (.i .i64),.p (.l 136),.p (.i .i64)],[],
 [⟨⟨.nm,[0,15],[.p (.l 134),.p (.i .i64)],[]⟩,Unit,λ d r=>((d.1.1,d.1.2.1,()),())⟩,
  ⟨⟨.rt,[2],[.p (.i .i64)],[]⟩,Int,λ d r=>((r,()),())⟩],
 λ k d=>bf (BN F d.1.2.2.1 k d.1.2.2.2.1)⟩ (bO.bX (λ d=>rfl) λ k da db q h=>by
 conv=>rhs;simp only[BN,ba];simp only[bW]
 kernel_rfl)
noncomputable def U7(k:Nat)(a:I.ap)(b:Int)(c:Int):=dq (True) (bf (tL a b k c))
theorem Zi(k:Nat)(a:I.ap)(b:Int)(c:Int):bf (tL a b k c)=U7 k (⟨[],[],[],a.bp⟩:I.ap) b c:=(show bf (tL a b k c)=bf (tL (⟨[],[],[],a.bp⟩:I.ap) b k c) by kernel_rfl).trans (dJ trivial).symm
noncomputable def aq4(F:Nat):aQ aG:=(aq3 F).b1 118 24 F ⟨[0,15,19,20,21],[.p (.l 134),.p (.i .i64),.p (.l 131),.p (.i .i64),.p (.i .i64)],[],
 [⟨⟨.nm,[0,15,19,20],[.p (.l 134),.p (.i .i64),.p (.l 131),.p (.i .i64)],[]⟩,Unit,λ d r=>((d.1.1,d.1.2.1,d.1.2.2.1,d.1.2.2.2.1,()),())⟩,
  ⟨⟨.rt,[2],[.p (.i .i64)],[]⟩,Int,λ d r=>((r,()),())⟩],
 λ k d=>U7 k (⟨[],[],[],d.1.2.2.1⟩:I.ap) d.1.2.2.2.1 d.1.2.2.2.2.1⟩ (bO.bX (λ d=>dI) λ k da db q h=>by
 obtain⟨(v0:List I.ap),(v1:Int),(a:List I.Method),(v3:Int),(v4:Int),_⟩:=da
 conv=>rhs;change ee (α:=Unit⊕Int) _ (U7 (k+1) (⟨[],[],[],a⟩:I.ap) v3 v4);rw[<-Zi (k+1) (⟨[],[],[],a⟩:I.ap) v3 v4];simp only[tL,ba,Zi];simp only[bW]
 kernel_rfl)
noncomputable def U6(F:Nat)(k:Nat)(a:I.ap)(b:Int):=dq (True) (bf (tK F a k b))
theorem Zh(F:Nat)(k:Nat)(a:I.ap)(b:Int):bf (tK F a k b)=U6 F k (⟨[],[],[],a.bp⟩:I.ap) b:=(show bf (tK F a k b)=bf (tK F (⟨[],[],[],a.bp⟩:I.ap) k b) by kernel_rfl).trans (dJ trivial).symm
noncomputable def aq5(F:Nat):aQ aG:=(aq4 F).b1 118 22 F ⟨[0,15,19,20],[.p (.l 134),.p (.i .i64),.p (.l 131),.p (.i .i64)],[],
 [⟨⟨.nm,[0,15],[.p (.l 134),.p (.i .i64)],[]⟩,Unit,λ d r=>((d.1.1,d.1.2.1,()),())⟩,
  ⟨⟨.rt,[2],[.p (.i .i64)],[]⟩,Int,λ d r=>((r,()),())⟩],
 λ k d=>U6 F k (⟨[],[],[],d.1.2.2.1⟩:I.ap) d.1.2.2.2.1⟩ (bO.bX (λ d=>dI) λ k da db q h=>by
 obtain⟨(v0:List I.ap),(v1:Int),(a:List I.Method),(v3:Int),_⟩:=da
 conv=>rhs;change ee (α:=Unit⊕Int) _ (U6 F (k+1) (⟨[],[],[],a⟩:I.ap) v3);rw[<-Zh F (k+1) (⟨[],[],[],a⟩:I.ap) v3];simp only[tK,ba,Zi,Zh];simp only[bW]
 kernel_rfl)
noncomputable def aq6(F:Nat):aQ aG:=(aq5 F).b1 118 16 F ⟨[0,15],[.p (.l 134),.p (.i .i64)],[],
 [⟨⟨.nm,[0],[.p (.l 134)],[]⟩,Unit,λ d r=>((d.1.1,()),())⟩,
  ⟨⟨.rt,[2],[.p (.i .i64)],[]⟩,Int,λ d r=>((r,()),())⟩],
 λ k d=>bf (BX F d.1.1 k d.1.2.1)⟩ (bO.bX (λ d=>rfl) λ k da db q h=>by
 obtain⟨(v0:List I.ap),(v1:Int),_⟩:=da
 conv=>rhs;simp only[BX,ba,Zh];simp only[bW]
 kernel_rfl)
noncomputable def aq7(F:Nat):aQ aG:=(aq6 F).b1 118 32 F ⟨[0,22,23,24,25,26],[.p (.l 134),.p (.i .i64),.p (.l 3),.p (.i .i64),.p (.i .i64),.p (.i .i64)],[],
 [⟨⟨.nm,[0,22,23,24,25],[.p (.l 134),.p (.i .i64),.p (.l 3),.p (.i .i64),.p (.i .i64)],[]⟩,Unit,λ d r=>((d.1.1,d.1.2.1,d.1.2.2.1,d.1.2.2.2.1,d.1.2.2.2.2.1,()),())⟩,
  ⟨⟨.rt,[2],[.p (.i .i64)],[]⟩,Int,λ d r=>((r,()),())⟩],
 λ k d=>bf (yH F d.1.1 d.1.2.1 d.1.2.2.1 d.1.2.2.2.1 d.1.2.2.2.2.1 k d.1.2.2.2.2.2.1)⟩ (bO.bX (λ d=>rfl) λ k da db q h=>by
 obtain⟨(v0:List I.ap),(v1:Int),(a:List Int),(v3:Int),(v4:Int),(v5:Int),_⟩:=da
 conv=>rhs;simp only[yH,ba,YG];simp only[bW]
 kernel_rfl)
noncomputable def aq8(F:Nat):aQ aG:=(aq7 F).b1 118 30 F ⟨[0,22,23,24,25],[.p (.l 134),.p (.i .i64),.p (.l 3),.p (.i .i64),.p (.i .i64)],[],
 [⟨⟨.nm,[0,22,23,24],[.p (.l 134),.p (.i .i64),.p (.l 3),.p (.i .i64)],[]⟩,Unit,λ d r=>((d.1.1,d.1.2.1,d.1.2.2.1,d.1.2.2.2.1,()),())⟩,
  ⟨⟨.rt,[2],[.p (.i .i64)],[]⟩,Int,λ d r=>((r,()),())⟩],
 λ k d=>bf (BR F d.1.1 d.1.2.1 d.1.2.2.1 d.1.2.2.2.1 k d.1.2.2.2.2.1)⟩ (bO.bX (λ d=>rfl) λ k da db q h=>by
 conv=>rhs;simp only[BR,ba];simp only[bW]
 kernel_rfl)
noncomputable def aq9(F:Nat):aQ aG:=(aq8 F).b1 118 28 F ⟨[0,22,23,24],[.p (.l 134),.p (.i .i64),.p (.l 3),.p (.i .i64)],[],
 [⟨⟨.nm,[0,22],[.p (.l 134),.p (.i .i64)],[]⟩,Unit,λ d r=>((d.1.1,d.1.2.1,()),())⟩,
  ⟨⟨.rt,[2],[.p (.i .i64)],[]⟩,Int,λ d r=>((r,()),())⟩],
 λ k d=>bf (BQ F d.1.1 d.1.2.1 d.1.2.2.1 k d.1.2.2.2.1)⟩ (bO.bX (λ d=>rfl) λ k da db q h=>by
 conv=>rhs;simp only[BQ,ba];simp only[bW]
 kernel_rfl)
noncomputable def aq_(F:Nat):aQ aG:=(aq9 F).b1 118 26 F ⟨[0,22],[.p (.l 134),.p (.i .i64)],[],
 [⟨⟨.nm,[],[],[]⟩,Unit,λ d r=>((),())⟩,
  ⟨⟨.rt,[2],[.p (.i .i64)],[]⟩,Int,λ d r=>((r,()),())⟩],
 λ k d=>bf (BP F d.1.1 k d.1.2.1)⟩ (bO.bX (λ d=>rfl) λ k da db q h=>by
 conv=>rhs;simp only[BP,ba];simp only[bW]
 kernel_rfl)
noncomputable def aq'(F:Nat):aQ aG:=(aq_ F).rt 118 ⟨[.p (.l 134)],[],[.p (.i .i64)],[],Int,λ d=>Il F d.1.1,λ d r=>((r,()),())⟩ λ da db=>by
 conv=>rhs;simp only[Il,ba]
 kernel_rfl
noncomputable def U'(k:Nat)(a:List (List UInt8))(b:I.Method)(c:Int):=dq (True) (rR a b k c)
theorem Zm(k:Nat)(a:List (List UInt8))(b:I.Method)(c:Int):rR a b k c=U' k a (⟨b.Name,false,[],(⟨0,[]⟩:I.Kind),0,0,[],[]⟩:I.Method) c:=(show rR a b k c=rR a (⟨b.Name,false,[],(⟨0,[]⟩:I.Kind),0,0,[],[]⟩:I.Method) k c by kernel_rfl).trans (dJ trivial).symm
noncomputable def arb(F:Nat):aQ aG:=(aq' F).b1 120 4 F ⟨[0,6,7,8,9,10,11,12],[.p (.l 134),.p (.R 0),.p (.R 1),.p (.l 3),.p (.i .i64),.p (.i .i64),.p (.s),.p (.i .i64)],[.r 9 false,.r 166 false],
 [⟨⟨.nm,[0,6,7,8,9,10,11,12],[.p (.l 134),.p (.R 0),.p (.R 1),.p (.l 3),.p (.i .i64),.p (.i .i64),.p (.s),.p (.i .i64)],[.r 9 false,.r 166 false]⟩,Int,λ d r=>((d.1.1,(),(),d.1.2.2.2.1,d.1.2.2.2.2.1,d.1.2.2.2.2.2.1,d.1.2.2.2.2.2.2.1,r,()),(d.2.1,d.2.2.1,()))⟩],
 λ k d=>U' k d.2.1 (⟨d.1.2.2.2.2.2.2.1,false,[],(⟨0,[]⟩:I.Kind),0,0,[],[]⟩:I.Method) d.1.2.2.2.2.2.2.2.1⟩ (bO.bX (λ d=>dI) λ k da db q h=>by
 obtain⟨(v0:List I.ap),_,_,(v1:List Int),(b:Int),(v3:Int),(v4:List UInt8),(v5:Int),_⟩:=da
 obtain⟨(a:List (List UInt8)),(c:List I.Target),_⟩:=db
 conv=>rhs;change ee (α:=Int) _ (U' (k+1) a (⟨v4,false,[],(⟨0,[]⟩:I.Kind),0,0,[],[]⟩:I.Method) v5);rw[<-Zm (k+1) a (⟨v4,false,[],(⟨0,[]⟩:I.Kind),0,0,[],[]⟩:I.Method) v5];simp only[rR,ba,Zm];simp only[bW]
 kernel_rfl)
noncomputable def arc(F:Nat):aQ aG:=(arb F).b1 120 2 F ⟨[0,6,7,8,9,10],[.p (.l 134),.p (.R 0),.p (.R 1),.p (.l 3),.p (.i .i64),.p (.i .i64)],[.r 9 false,.r 166 false],
 [⟨⟨.nm,[0,6,7,8,9],[.p (.l 134),.p (.R 0),.p (.R 1),.p (.l 3),.p (.i .i64)],[.r 9 false,.r 166 false]⟩,(List I.Target)×(List (List UInt8)),λ d r=>((d.1.1,(),(),d.1.2.2.2.1,d.1.2.2.2.2.1,()),(r.2,r.1,()))⟩],
 λ k d=>Cl F d.1.1 d.1.2.2.2.1 d.1.2.2.2.2.1 k d.2.2.1 d.2.1 d.1.2.2.2.2.2.1⟩ (bO.bX (λ d=>rfl) λ k da db q h=>by
 obtain⟨(v0:List I.ap),_,_,(v1:List Int),(a:Int),(v3:Int),_⟩:=da
 obtain⟨(v4:List (List UInt8)),(v5:List I.Target),_⟩:=db
 conv=>rhs;simp only[Cl,ba,Zm];simp only[bW]
 kernel_rfl)
noncomputable def ard(F:Nat):aQ aG:=(arc F).b1 120 0 F ⟨[0,6,7,8,9],[.p (.l 134),.p (.R 0),.p (.R 1),.p (.l 3),.p (.i .i64)],[.r 9 false,.r 166 false],
 [⟨⟨.nm,[6,7],[.p (.R 0),.p (.R 1)],[.r 9 false,.r 166 false]⟩,(List I.Target)×(List (List UInt8)),λ d r=>(((),(),()),(r.2,r.1,()))⟩],
 λ k d=>Ck F d.1.1 d.1.2.2.2.1 k d.2.2.1 d.2.1 d.1.2.2.2.2.1⟩ (bO.bX (λ d=>rfl) λ k da db q h=>by
 conv=>rhs;simp only[Ck,ba];simp only[bW]
 kernel_rfl)
noncomputable def arf(F:Nat):aQ aG:=(ard F).rt 120 ⟨[.p (.l 134),.p (.i .i64)],[],[.p (.l 9),.p (.l 166)],[],(List (List UInt8))×(List I.Target),λ d=>Iq F d.1.1 d.1.2.1,λ d r=>((r.1,r.2,()),())⟩ λ da db=>by
 conv=>rhs;simp only[Iq,ba]
 kernel_rfl
noncomputable def U9(F:Nat)(k:Nat)(a:List I.ap)(Dt:List (List I.Target))(b:List (List (List UInt8)))(c:List (List I.Field))(d:List Int)(e:Int)(ao:List I.ap)(aT:List Int)(bQ:List (List I.Field))(dw:List (List (List UInt8)))(eR:List (List I.Target))(f:List I.ap):=dq (([]:List I.ap)=ao/\([]:List Int)=aT/\([]:List (List I.Field))=bQ/\([]:List (List (List UInt8)))=dw/\([]:List (List I.Target))=eR/\(a:List I.ap)=f/\True) (bf (rQ F a k Dt b c d e))
theorem Zk(F:Nat)(k:Nat)(a:List I.ap)(Dt:List (List I.Target))(b:List (List (List UInt8)))(c:List (List I.Field))(d:List Int)(e:Int):bf (rQ F a k Dt b c d e)=U9 F k a Dt b c d e [] [] [] [] [] a:=(dJ ⟨rfl,rfl,rfl,rfl,rfl,rfl,trivial⟩).symm
noncomputable def arh(F:Nat):aQ aG:=(arf F).b1 86 0 F ⟨[0,2,5,6],[.p (.l 134),.p (.B 0),.p (.B 1),.p (.i .i64)],[dX,ako,.r 3 false,.r 124 false,.r 120 false,.r 121 false],
 [⟨⟨.nm,[2,5],[.p (.B 0),.p (.B 1)],[dX,ako,.r 3 false,.r 124 false,.r 120 false,.r 121 false]⟩,(List (List I.Target))×(List (List (List UInt8)))×(List (List I.Field))×(List Int),λ d r=>(((),(),()),(d.2.1,(d.2.2.1.1,(),(),(),(),()),r.2.2.2,r.2.2.1,r.2.1,r.1,()))⟩,
  ⟨⟨.rt,[2,3],[.p (.B 0),.p (.i .i64)],[dX,.d,.d,.d,.d,.d]⟩,I.aO×Int,λ d r=>(((),r.2,()),((r.1.a6,r.1.aY,r.1.Fields,r.1.Names,r.1.aZ,()),(),(),(),(),(),()))⟩],
 λ k d=>U9 F k d.1.1 d.2.2.2.2.2.2.1 d.2.2.2.2.2.1 d.2.2.2.2.1 d.2.2.2.1 d.1.2.2.2.1 d.2.1.1 d.2.1.2.1 d.2.1.2.2.1 d.2.1.2.2.2.1 d.2.1.2.2.2.2.1 d.2.2.1.1⟩ (bO.bX (λ d=>dI) λ k da db q h=>by
 obtain⟨(v0:List I.ap),_,_,(v1:Int),_⟩:=da
 obtain⟨⟨(f:List I.ap),(v3:List Int),(v4:List (List I.Field)),(v5:List (List (List UInt8))),(g:List (List I.Target)),_⟩,⟨(i:List I.ap),_,_,_,_,_⟩,(c:List Int),(v9:List (List I.Field)),(a:List (List (List UInt8))),(b:List (List I.Target)),_⟩:=db
 obtain⟨e,_⟩:=eh h
 dsimp only at e
 obtain⟨rfl,rfl,rfl,rfl,rfl,rfl,_⟩:=e
 conv=>rhs;change ee (α:=((List (List I.Target))×(List (List (List UInt8)))×(List (List I.Field))×(List Int))⊕(I.aO×Int)) _ (U9 F (k+1) v0 b a v9 c v1 ([]) ([]) ([]) ([]) ([]) (v0));rw[<-Zk F (k+1) v0 b a v9 c v1];simp only[rQ,ba,Zk];simp only[bW]
 kernel_rfl)
noncomputable def ari(F:Nat):aQ aG:=(arh F).rt 86 ⟨[.p (.l 134)],[],[hD,.p (.i .i64)],[],I.aO×Int,λ d=>Io F d.1.1,λ d r=>(((r.1.a6,r.1.aY,r.1.Fields,r.1.Names,r.1.aZ,()),r.2,()),())⟩ λ da db=>by
 obtain⟨(v0:List I.ap),_⟩:=da;conv=>rhs;simp only[Io,ba,Zk]
 kernel_rfl
noncomputable def arj(F:Nat):aQ aG:=(ari F).rt 50 ⟨[hD],[],[.p (.i .i64)],[],Int,λ d=>tM F (fj d.1.1),λ d r=>((r,()),())⟩ λ da db=>by
 conv=>rhs;simp only[tM,ba]
 kernel_rfl
noncomputable def ark(F:Nat):aQ aG:=(arj F).rt 59 ⟨[hD,.p (.i .i64)],[],[.p (.b)],[],Bool,λ d=>Ff (fj d.1.1) d.1.2.1,λ d r=>((r,()),())⟩ λ da db=>by
 conv=>rhs;simp only[Ff,ba]
 kernel_rfl
noncomputable def arl(F:Nat):aQ aG:=(ark F).rt 60 ⟨[hD,.p (.i .i64),.p (.i .i64)],[],[.p (.b)],[],Bool,λ d=>Fc (fj d.1.1) d.1.2.1 d.1.2.2.1,λ d r=>((r,()),())⟩ λ da db=>by
 conv=>rhs;simp only[Fc,ba]
 kernel_rfl
noncomputable def arm(F:Nat):aQ aG:=(arl F).b1 95 0 F ⟨[2,3,4,5,10],[.p (.i .i64),.p (.i .i64),.p (.B 0),.p (.B 1),.p (.R 2)],[iV,dX,.r 3 false],
 [⟨⟨.nm,[2,3,10],[.p (.i .i64),.p (.i .i64),.p (.R 2)],[iV,dX,.r 3 false]⟩,(List Int)×Int,λ d r=>((r.2,d.1.2.1,(),()),(d.2.1,d.2.2.1,r.1,()))⟩,
  ⟨⟨.rt,[8,9],[.p (.l 3),.p (.b)],[.d,.d,.d]⟩,(List Int)×Bool,λ d r=>((r.1,r.2,()),((),(),(),()))⟩],
 λ k d=>bf (yO (dY d.2.1) (fj d.2.2.1) d.1.2.1 k d.2.2.2.1 d.1.1)⟩ (bO.bX (λ d=>rfl) λ k da db q h=>by
 conv=>rhs;simp only[yO,ba];simp only[bW]
 kernel_rfl)
noncomputable def aro(F:Nat):aQ aG:=(arm F).rt 95 ⟨[ju,hD,.p (.i .i64),.p (.i .i64)],[],[.p (.l 3),.p (.b)],[],(List Int)×Bool,λ d=>rS F (dY d.1.1) (fj d.1.2.1) d.1.2.2.1 d.1.2.2.2.1,λ d r=>((r.1,r.2,()),())⟩ λ da db=>by
 conv=>rhs;simp only[rS,ba]
 kernel_rfl
noncomputable def arp(F:Nat):aQ aG:=(aro F).rt 62 ⟨[ju,hD],[],[.p (.l 3),.p (.l 3),.p (.b)],[],(List Int)×(List Int)×Bool,λ d=>rT F (dY d.1.1) (fj d.1.2.1),λ d r=>((r.1,r.2.1,r.2.2,()),())⟩ λ da db=>by
 conv=>rhs;simp only[rT,ba]
 kernel_rfl
noncomputable def arq(F:Nat):aQ aG:=(arp F).rt 71 ⟨[hD,.p (.i .i64),.p (.i .i64)],[],[.p (.b)],[],Bool,λ d=>tO (fj d.1.1) d.1.2.1 d.1.2.2.1,λ d r=>((r,()),())⟩ λ da db=>by
 conv=>rhs;simp only[tO,ba]
 kernel_rfl
noncomputable def arr(F:Nat):aQ aG:=(arq F).b1 44 0 F ⟨[2,3,4,7,8],[.p (.i .i64),.p (.B 0),.p (.B 1),.p (.R 2),.p (.i .i64)],[iV,dX,.r 3 false],
 [⟨⟨.nm,[7],[.p (.R 2)],[iV,dX,.r 3 false]⟩,List Int,λ d r=>(((),()),(d.2.1,d.2.2.1,r,()))⟩],
 λ k d=>vK d.1.1 (dY d.2.1) (fj d.2.2.1) k d.2.2.2.1 d.1.2.2.2.2.1⟩ (bO.bX (λ d=>rfl) λ k da db q h=>by
 conv=>rhs;simp only[vK,ba];simp only[bW]
 kernel_rfl)
noncomputable def ars(F:Nat):aQ aG:=(arr F).rt 44 ⟨[ju,hD,.p (.i .i64)],[],[.p (.l 3)],[],List Int,λ d=>pa F (dY d.1.1) (fj d.1.2.1) d.1.2.2.1,λ d r=>((r,()),())⟩ λ da db=>by
 conv=>rhs;simp only[pa,ba]
 kernel_rfl
noncomputable def art(F:Nat):aQ aG:=(ars F).b1 43 0 F ⟨[0,1,5],[.p (.l 3),.p (.i .i64),.p (.i .i64)],[],
 [⟨⟨.nm,[],[],[]⟩,Unit,λ d r=>((),())⟩,
  ⟨⟨.rt,[4],[.p (.b)],[]⟩,Bool,λ d r=>((r,()),())⟩],
 λ k d=>bf (B3 d.1.1 d.1.2.1 k d.1.2.2.1)⟩ (bO.bX (λ d=>rfl) λ k da db q h=>by
 conv=>rhs;simp only[B3,ba];simp only[bW]
 kernel_rfl)
noncomputable def aru(F:Nat):aQ aG:=(art F).rt 43 ⟨[.p (.l 3),.p (.i .i64)],[],[.p (.b)],[],Bool,λ d=>lk F d.1.1 d.1.2.1,λ d r=>((r,()),())⟩ λ da db=>by
 conv=>rhs;simp only[lk,ba]
 kernel_rfl
noncomputable def arv(F:Nat):aQ aG:=(aru F).b1 51 0 F ⟨[2,3,6,8,9],[.p (.B 0),.p (.B 1),.p (.l 3),.p (.R 2),.p (.i .i64)],[iV,dX,.r 3 true],
 [⟨⟨.nm,[2,3,6,8],[.p (.B 0),.p (.B 1),.p (.l 3),.p (.R 2)],[iV,dX,.r 3 true]⟩,Unit,λ d r=>(((),(),d.1.2.2.1,(),()),(d.2.1,d.2.2.1,d.2.2.2.1,()))⟩,
  ⟨⟨.rt,[4],[.p (.i .i64)],[.d,.d,.d]⟩,Int,λ d r=>((r,()),((),(),(),()))⟩],
 λ k d=>bf (BK (dY d.2.1) d.2.2.2.1 k d.1.2.2.2.2.1)⟩ (bO.bX (λ d=>rfl) λ k da db q h=>by
 conv=>rhs;simp only[BK,ba];simp only[bW]
 kernel_rfl)
noncomputable def arw(F:Nat):aQ aG:=(arv F).b1 51 4 F ⟨[2,3,6,8,10,11],[.p (.B 0),.p (.B 1),.p (.l 3),.p (.R 2),.p (.i .i64),.p (.i .i64)],[iV,dX,.r 3 true],
 [⟨⟨.nm,[2,3,6,8,10],[.p (.B 0),.p (.B 1),.p (.l 3),.p (.R 2),.p (.i .i64)],[iV,dX,.r 3 true]⟩,Unit,λ d r=>(((),(),d.1.2.2.1,(),d.1.2.2.2.2.1,()),(d.2.1,d.2.2.1,d.2.2.2.1,()))⟩,
  ⟨⟨.rt,[4],[.p (.i .i64)],[.d,.d,.d]⟩,Int,λ d r=>((r,()),((),(),(),()))⟩],
 λ k d=>bf (BL (dY d.2.1) d.2.2.2.1 d.1.2.2.2.2.1 k d.1.2.2.2.2.2.1)⟩ (bO.bX (λ d=>rfl) λ k da db q h=>by
 conv=>rhs;simp only[BL,ba];simp only[bW]
 kernel_rfl)
noncomputable def arx(F:Nat):aQ aG:=(arw F).b1 51 2 F ⟨[2,3,6,8,10],[.p (.B 0),.p (.B 1),.p (.l 3),.p (.R 2),.p (.i .i64)],[iV,dX,.r 3 true],
 [⟨⟨.nm,[2,3,6,8],[.p (.B 0),.p (.B 1),.p (.l 3),.p (.R 2)],[iV,dX,.r 3 true]⟩,Unit,λ d r=>(((),(),d.1.2.2.1,(),()),(d.2.1,d.2.2.1,d.2.2.2.1,()))⟩,
  ⟨⟨.rt,[4],[.p (.i .i64)],[.d,.d,.d]⟩,Int,λ d r=>((r,()),((),(),(),()))⟩],
 λ k d=>bf (yF F (dY d.2.1) d.2.2.2.1 k d.1.2.2.2.2.1)⟩ (bO.bX (λ d=>rfl) λ k da db q h=>by
 conv=>rhs;simp only[yF,ba];simp only[bW]
 kernel_rfl)
noncomputable def arz(F:Nat):aQ aG:=(arx F).b1 51 8 F ⟨[2,3,6,8,12,13,14],[.p (.B 0),.p (.B 1),.p (.l 3),.p (.l 3),.p (.i .i64),.p (.l 3),.p (.i .i64)],[iV,dX],
 [⟨⟨.nm,[2,3,6,8,12],[.p (.B 0),.p (.B 1),.p (.l 3),.p (.l 3),.p (.i .i64)],[iV,dX]⟩,Unit,λ d r=>(((),(),d.1.2.2.1,d.1.2.2.2.1,d.1.2.2.2.2.1,()),(d.2.1,d.2.2.1,()))⟩,
  ⟨⟨.rt,[4],[.p (.i .i64)],[.d,.d]⟩,Int,λ d r=>((r,()),((),(),()))⟩],
 λ k d=>bf (yG F (dY d.2.1) d.1.2.2.2.1 d.1.2.2.2.2.2.1 k d.1.2.2.2.2.2.2.1)⟩ (bO.bX (λ d=>rfl) λ k da db q h=>by
 conv=>rhs;simp only[yG,ba];simp only[bW]
 kernel_rfl)
noncomputable def arA(F:Nat):aQ aG:=(arz F).b1 51 6 F ⟨[2,3,6,8,12],[.p (.B 0),.p (.B 1),.p (.l 3),.p (.l 3),.p (.i .i64)],[iV,dX],
 [⟨⟨.nm,[2,3,6],[.p (.B 0),.p (.B 1),.p (.l 3)],[iV,dX]⟩,Unit,λ d r=>(((),(),d.1.2.2.1,()),(d.2.1,d.2.2.1,()))⟩,
  ⟨⟨.rt,[4],[.p (.i .i64)],[.d,.d]⟩,Int,λ d r=>((r,()),((),(),()))⟩],
 λ k d=>bf (BM F (dY d.2.1) (fj d.2.2.1) d.1.2.2.2.1 k d.1.2.2.2.2.1)⟩ (bO.bX (λ d=>rfl) λ k da db q h=>by
 conv=>rhs;simp only[BM,ba];simp only[bW]
 kernel_rfl)
noncomputable def arB(F:Nat):aQ aG:=(arA F).b1 51 10 F ⟨[2,3,6,15],[.p (.B 0),.p (.B 1),.p (.l 3),.p (.i .i64)],[iV,dX],
 [⟨⟨.nm,[2,3,6],[.p (.B 0),.p (.B 1),.p (.l 3)],[iV,dX]⟩,Unit,λ d r=>(((),(),d.1.2.2.1,()),(d.2.1,d.2.2.1,()))⟩,
  ⟨⟨.rt,[4],[.p (.i .i64)],[.d,.d]⟩,Int,λ d r=>((r,()),((),(),()))⟩],
 λ k d=>bf (vI (dY d.2.1) k d.1.2.2.2.1)⟩ (bO.bX (λ d=>rfl) λ k da db q h=>by
 conv=>rhs;simp only[vI,ba];simp only[bW]
 kernel_rfl)
noncomputable def U3(F:Nat)(k:Nat)(a:I.aV)(b:I.aO)(c:(List Int)×(List Int)×Bool)(d:Int):=dq (True) (bf (qq F a b c k d))
theorem Zd(F:Nat)(k:Nat)(a:I.aV)(b:I.aO)(c:(List Int)×(List Int)×Bool)(d:Int):bf (qq F a b c k d)=U3 F k a b ([],c.2.1,false) d:=(show bf (qq F a b c k d)=bf (qq F a b ([],c.2.1,false) k d) by kernel_rfl).trans (dJ trivial).symm
noncomputable def arC(F:Nat):aQ aG:=(arB F).b1 51 12 F ⟨[2,3,6,16],[.p (.B 0),.p (.B 1),.p (.l 3),.p (.i .i64)],[iV,dX],
 [⟨⟨.nm,[2,3,6],[.p (.B 0),.p (.B 1),.p (.l 3)],[iV,dX]⟩,Unit,λ d r=>(((),(),d.1.2.2.1,()),(d.2.1,d.2.2.1,()))⟩,
  ⟨⟨.rt,[4],[.p (.i .i64)],[.d,.d]⟩,Int,λ d r=>((r,()),((),(),()))⟩],
 λ k d=>U3 F k (dY d.2.1) (fj d.2.2.1) ([],d.1.2.2.1,false) d.1.2.2.2.1⟩ (bO.bX (λ d=>dI) λ k da db q h=>by
 obtain⟨_,_,(v0:List Int),(v1:Int),_⟩:=da
 obtain⟨⟨(e:List Int),(v3:Int),(v4:Int),(v5:Int),(f:Int),(g:List Int),(i:Int),_⟩,⟨(v9:List I.ap),(a:List Int),(b:List (List I.Field)),(c:List (List (List UInt8))),(j:List (List I.Target)),_⟩,_⟩:=db
 conv=>rhs;change ee (α:=Unit⊕Int) _ (U3 F (k+1) (⟨e,v3,v4,v5,f,g,i⟩:I.aV) (⟨v9,a,b,c,j⟩:I.aO) ([],v0,false) v1);rw[<-Zd F (k+1) (⟨e,v3,v4,v5,f,g,i⟩:I.aV) (⟨v9,a,b,c,j⟩:I.aO) ([],v0,false) v1];simp only[qq,ba,Zd];simp only[bW]
 kernel_rfl)
noncomputable def U5(F:Nat)(k:Nat)(a:I.aV)(b:(List Int)×(List Int)×Bool)(c:Int)(d:List Int)(e:Int):=dq (True) (bf (rP F a b c d k e))
theorem Zg(F:Nat)(k:Nat)(a:I.aV)(b:(List Int)×(List Int)×Bool)(c:Int)(d:List Int)(e:Int):bf (rP F a b c d k e)=U5 F k a ([],b.2.1,false) c d e:=(show bf (rP F a b c d k e)=bf (rP F a ([],b.2.1,false) c d k e) by kernel_rfl).trans (dJ trivial).symm
noncomputable def arD(F:Nat):aQ aG:=(arC F).b1 51 16 F ⟨[2,3,6,17,18,19],[.p (.B 0),.p (.B 1),.p (.l 3),.p (.i .i64),.p (.l 3),.p (.i .i64)],[iV,dX],
 [⟨⟨.nm,[2,3,6,17],[.p (.B 0),.p (.B 1),.p (.l 3),.p (.i .i64)],[iV,dX]⟩,Unit,λ d r=>(((),(),d.1.2.2.1,d.1.2.2.2.1,()),(d.2.1,d.2.2.1,()))⟩,
  ⟨⟨.rt,[4],[.p (.i .i64)],[.d,.d]⟩,Int,λ d r=>((r,()),((),(),()))⟩],
 λ k d=>U5 F k (dY d.2.1) ([],d.1.2.2.1,false) d.1.2.2.2.1 d.1.2.2.2.2.1 d.1.2.2.2.2.2.1⟩ (bO.bX (λ d=>dI) λ k da db q h=>by
 obtain⟨_,_,(v0:List Int),(v1:Int),(b:List Int),(v3:Int),_⟩:=da
 obtain⟨⟨(v4:List Int),(v5:Int),(c:Int),(e:Int),(f:Int),(v9:List Int),(a:Int),_⟩,⟨(g:List I.ap),(i:List Int),(j:List (List I.Field)),(l:List (List (List UInt8))),(m:List (List I.Target)),_⟩,_⟩:=db
 conv=>rhs;change ee (α:=Unit⊕Int) _ (U5 F (k+1) (⟨v4,v5,c,e,f,v9,a⟩:I.aV) ([],v0,false) v1 b v3);rw[<-Zg F (k+1) (⟨v4,v5,c,e,f,v9,a⟩:I.aV) ([],v0,false) v1 b v3];simp only[rP,ba,Zg];simp only[bW]
 kernel_rfl)
noncomputable def U4(F:Nat)(k:Nat)(a:I.aV)(b:I.aO)(c:(List Int)×(List Int)×Bool)(d:Int):=dq (True) (bf (tJ F a b c k d))
theorem Zf(F:Nat)(k:Nat)(a:I.aV)(b:I.aO)(c:(List Int)×(List Int)×Bool)(d:Int):bf (tJ F a b c k d)=U4 F k a b ([],c.2.1,false) d:=(show bf (tJ F a b c k d)=bf (tJ F a b ([],c.2.1,false) k d) by kernel_rfl).trans (dJ trivial).symm
noncomputable def arE(F:Nat):aQ aG:=(arD F).b1 51 14 F ⟨[2,3,6,17],[.p (.B 0),.p (.B 1),.p (.l 3),.p (.i .i64)],[iV,dX],
 [⟨⟨.nm,[],[],[iV,dX]⟩,Unit,λ d r=>((),(d.2.1,d.2.2.1,()))⟩,
  ⟨⟨.rt,[4],[.p (.i .i64)],[.d,.d]⟩,Int,λ d r=>((r,()),((),(),()))⟩],
 λ k d=>U4 F k (dY d.2.1) (fj d.2.2.1) ([],d.1.2.2.1,false) d.1.2.2.2.1⟩ (bO.bX (λ d=>dI) λ k da db q h=>by
 obtain⟨_,_,(v0:List Int),(v1:Int),_⟩:=da
 obtain⟨⟨(e:List Int),(v3:Int),(v4:Int),(v5:Int),(f:Int),(g:List Int),(i:Int),_⟩,⟨(v9:List I.ap),(a:List Int),(b:List (List I.Field)),(c:List (List (List UInt8))),(j:List (List I.Target)),_⟩,_⟩:=db
 conv=>rhs;change ee (α:=Unit⊕Int) _ (U4 F (k+1) (⟨e,v3,v4,v5,f,g,i⟩:I.aV) (⟨v9,a,b,c,j⟩:I.aO) ([],v0,false) v1);rw[<-Zf F (k+1) (⟨e,v3,v4,v5,f,g,i⟩:I.aV) (⟨v9,a,b,c,j⟩:I.aO) ([],v0,false) v1];simp only[tJ,ba,Zg,Zf];simp only[bW]
 kernel_rfl)
noncomputable def arF(F:Nat):aQ aG:=(arE F).rt 51 ⟨[ju,hD],[],[.p (.i .i64)],[],Int,λ d=>Fb F (dY d.1.1) (fj d.1.2.1),λ d r=>((r,()),())⟩ λ da db=>by
 obtain⟨⟨(v0:List Int),(v1:Int),(c:Int),(v3:Int),(v4:Int),(v5:List Int),(e:Int),_⟩,⟨(f:List I.ap),(g:List Int),(v9:List (List I.Field)),(a:List (List (List UInt8))),(b:List (List I.Target)),_⟩,_⟩:=da;conv=>rhs;simp only[Fb,ba,Zd,Zf]
 kernel_rfl
noncomputable def arG(F:Nat):aQ aG:=(arF F).rt 20 ⟨[ju,hD],[],[.p (.i .i64)],[],Int,λ d=>yM F (dY d.1.1) (fj d.1.2.1),λ d r=>((r,()),())⟩ λ da db=>by
 conv=>rhs;simp only[yM,ba]
 kernel_rfl
noncomputable def arH(F:Nat):aQ aG:=(arG F).rt 14 ⟨[ju],[],[.p (.i .i64)],[],Int,λ d=>adM (dY d.1.1),λ d r=>((r,()),())⟩ λ da db=>by
 conv=>rhs;simp only[adM,ba]
 kernel_rfl
noncomputable def arI(F:Nat):aQ aG:=(arH F).b1 18 0 F ⟨[0,1,5],[.p (.l 3),.p (.l 3),.p (.i .i64)],[],
 [⟨⟨.nm,[],[],[]⟩,Unit,λ d r=>((),())⟩,
  ⟨⟨.rt,[4],[.p (.b)],[]⟩,Bool,λ d r=>((r,()),())⟩],
 λ k d=>bf (vM d.1.1 d.1.2.1 k d.1.2.2.1)⟩ (bO.bX (λ d=>rfl) λ k da db q h=>by
 conv=>rhs;simp only[vM,ba];simp only[bW]
 kernel_rfl)
noncomputable def arK(F:Nat):aQ aG:=(arI F).rt 18 ⟨[.p (.l 3),.p (.l 3)],[],[.p (.b)],[],Bool,λ d=>pb F d.1.1 d.1.2.1,λ d r=>((r,()),())⟩ λ da db=>by
 conv=>rhs;simp only[pb,ba]
 kernel_rfl
noncomputable def arL(F:Nat):aQ aG:=(arK F).rt 32 ⟨[ju,ju],[],[.p (.b)],[],Bool,λ d=>Ti F (dY d.1.1) (dY d.1.2.1),λ d r=>((r,()),())⟩ λ da db=>by
 conv=>rhs;simp only[Ti,ba]
 kernel_rfl
noncomputable def arM(F:Nat):aQ aG:=(arL F).rt 17 ⟨[ju,.p (.i .i64),.p (.i .i64),ju],[],[.p (.b)],[],Bool,λ d=>BF F (dY d.1.1) d.1.2.1 d.1.2.2.1 (dY d.1.2.2.2.1),λ d r=>((r,()),())⟩ λ da db=>by
 conv=>rhs;simp only[BF,ba]
 kernel_rfl
noncomputable def U8(F:Nat)(k:Nat)(a:List Int)(b:(List Int)×(List Int)×Bool)(c:Int):=dq (True) (bf (qt F a b k c))
theorem Zj(F:Nat)(k:Nat)(b:List Int)(a:(List Int)×(List Int)×Bool)(c:Int):bf (qt F b a k c)=U8 F k b (a.1,a.2.1,false) c:=(show bf (qt F b a k c)=bf (qt F b (a.1,a.2.1,false) k c) by kernel_rfl).trans (dJ trivial).symm
noncomputable def arN(F:Nat):aQ aG:=(arM F).b1 40 0 F ⟨[2,7,8,10],[.p (.l 3),.p (.l 3),.p (.l 3),.p (.i .i64)],[],
 [⟨⟨.nm,[],[],[]⟩,Unit,λ d r=>((),())⟩,
  ⟨⟨.rt,[6],[.p (.i .i64)],[]⟩,Int,λ d r=>((r,()),())⟩],
 λ k d=>U8 F k d.1.1 (d.1.2.1,d.1.2.2.1,false) d.1.2.2.2.1⟩ (bO.bX (λ d=>dI) λ k da db q h=>by
 obtain⟨(v0:List Int),(v1:List Int),(a:List Int),(v3:Int),_⟩:=da
 conv=>rhs;change ee (α:=Unit⊕Int) _ (U8 F (k+1) v0 (v1,a,false) v3);rw[<-Zj F (k+1) v0 (v1,a,false) v3];simp only[qt,ba,Zj];simp only[bW]
 kernel_rfl)
noncomputable def arO(F:Nat):aQ aG:=(arN F).rt 40 ⟨[ju,hD,.p (.l 3)],[],[.p (.i .i64)],[],Int,λ d=>yK F (dY d.1.1) (fj d.1.2.1) d.1.2.2.1,λ d r=>((r,()),())⟩ λ da db=>by
 obtain⟨⟨(v0:List Int),(v1:Int),(e:Int),(v3:Int),(v4:Int),(v5:List Int),(f:Int),_⟩,⟨(g:List I.ap),(h:List Int),(v9:List (List I.Field)),(a:List (List (List UInt8))),(b:List (List I.Target)),_⟩,(c:List Int),_⟩:=da;conv=>rhs;simp only[yK,ba,Zj]
 kernel_rfl
noncomputable def ME(F:Nat):aQ aG:=(arO F).rt 13 ⟨[ju,hD,.p (.l 3)],[],[.p (.i .i64)],[],Int,λ d=>S8 F (dY d.1.1) (fj d.1.2.1) d.1.2.2.1,λ d r=>((r,()),())⟩ λ da db=>by
 conv=>rhs;simp only[S8,ba]
 kernel_rfl
end Go.Proofs.YteeliipnilghaaaGreat
namespace I
def tz(n:Int):Nat->List Int->Int->Option (List Int)
 |0,_,_=>none
 |k+1,l,i=>cond (decide (i<n)) ((bI 8 l [i]).bind λ l'=>tz n k l' (ax (i+1))) (some l)
def rI(F:Nat)(n:Int):Option (List Int):=tz n F [] 0
end I
namespace Go.Proofs.YteeliipnilghaaaGreat
open Go Go.RowKit ay I bc
set_option maxHeartbeats 4000000
set_option maxRecDepth 20000
def AO(a:Nat):dj Int where
 size:=1
 rd _ _ cs q:=cs=[.pointer (some ⟨a,q.toNat,none⟩)]
 len h:=by subst h;rfl
 one h v b:=by subst h;simp at b;subst b;rfl
 law _ h:=h
theorem aFH{F:Nat->Prop}{w:World}{g:Nat}{i:Int}:(AO g).rd F w [.pointer (some ⟨g,0+i.toNat*1,none⟩)] i:=by
 show[_]=[_]
 rw[jM,j3]
theorem aBv:(Tryz.prog.info? 109).map (λ i=>(i.zero,i.size,i.bytes))=some (some (.pointer none),1,8):=by kernel_rfl
theorem auY{W:World}{X:List Nat}{F:Nat}{A:iK}{n c:Nat}{r:List Int}{M0:List Nat}(B:n<=9223372036854775807)(p:0<n->A=some ⟨dD A,0,none⟩)(b:bz W M0 X W [] [])(h:I.rI F (n:Int)=some r) :
 Calls Tryz.prog 39 [.slice A n c].toArray W (λ e w'=>∃cn:Option Addr,∃m:Nat,∃xs:List Value,e= .returned (.q cn m r)/\bz W M0 X w' [bb.row 109 1 (.q cn m r) r xs] [bF.rows (AO (dD A)) xs r]):=by
 refine enter Tryz.func39 rfl Tryz.ntmps39 rfl λ a ad=>?_;rw[I.rI]at h
 refine qF [] [(0,.slice A n c)] ad λ a ad=>qF [] [(3,.slice none 0 0)] ad λ a ad=>?_
 have b:=b.KF (α:=Int) 109 1;have b:=b.more (y:=bF.rows (AO (dD A)) [] []) rfl
 refine wp_seq_k λ K q=>qF [] [(6,.i n),(7,.i 0)] ad λ a ad=>?_
 refine M_ (λ a w=>∃(d:iK)(c1:Nat)(f:o8),Fr ⟨18,[]⟩ [(3,.q d c1 r)] a/\bz W M0 X w [bb.row 109 1 (.q d c1 r) r f] [bF.rows (AO (dD A)) f r]) (λ K s=>?_) ?_
 ·refine TJ (λ(o:Nat) a w=>∃(d:iK)(c1:Nat)(l1:E7)(f:o8)(i:Int),Fr ⟨18,[]⟩ [(0,.slice A n c),(3,.q d c1 l1),(6,.i n),(7,.i i)] a/\bz W M0 X w [bb.row 109 1 (.q d c1 l1) l1 f] [bF.rows (AO (dD A)) f l1]/\0<=i/\I.tz n o l1 i=some r) F ⟨none,0,[],[],0,ad.cut,b,lI _,h⟩ ?_ ?_
  ·rintro a w ⟨d,c1,l1,f,i,ad,b,hi,h⟩;exact absurd h (by simp[I.tz])
  rintro o a w ⟨d,c1,l1,f,i,ad,b,hi,h⟩ K t;rw[I.tz]at h
  refine qF [] [(8,.bool (decide (i<n)))] ad λ a ad=>?_
  refine wp_seq_k λ K u=>Na (ad.g rfl) h (λ ag h=>?_) (λ ag h=>?_)
  ·refine wp_skip<|u _ _<|wp_seq_k λ K v=>?_
   have x:i<(n:Int):=of_decide_eq_true ag
   obtain⟨g,rfl⟩:∃g,A=some ⟨g,0,none⟩:=⟨_,p (by omega)⟩
   obtain⟨k,wN,h⟩:=I.fY h
   refine M_ (λ a w=>∃(j:iK)(c2:Nat)(l:o8),Fr ⟨18,[]⟩ [(0,.slice (some ⟨g,0,none⟩) n c),(3,.q j c2 k),(6,.i n),(7,.i i)] a/\bz W M0 X w [bb.row 109 1 (.q j c2 k) k l] [bF.rows (AO g) l k]) (λ K z=>?_) ?_
   ·refine qF [] [(4,.i i)] ad λ a ad=>?_
    refine pj<|lq 3 [] [(10,.q d c1 l1),(11,.slice (some ⟨g,0,none⟩) n c),(12,.i i)] ad λ a ad=>fS wn (qi Tryz.underlying22 Tryz.sizeOf3 rfl (ad.g rfl) (ad.g rfl) rfl ⟨hi,x⟩) ad rfl rfl λ a ad=>?_
    refine ajY (cs:=[.pointer (some ⟨g,0+i.toNat*1,none⟩)]) wn (ES (vs:=[(0,.pointer (some ⟨g,0+i.toNat*1,none⟩))]) Tryz.underlying73 Tryz.sizeOf109 Tryz.zeroValue109 rfl rfl rfl ⟨⟨(ad.g rfl),rfl⟩,trivial⟩ (by kernel_rfl)) ad b rfl rfl λ a C w _ ad b=>?_
    refine Lg (T:=AO g) (ml:=[i]) 1 0 0 b rfl rfl rfl Tryz.underlying73 aBv rfl rfl wN rfl rfl ⟨_,_,rfl,aFH,rfl⟩ wn rfl (ad.g rfl) (ad.g rfl) ad rfl rfl λ a j c2 l w ad b=>?_
    refine lq 1 [] [(3,.q j c2 k)] ad λ a ad=>wpList_nil ?_
    exact z _ _ ⟨j,c2,l,ad.cut,b.hZ [0]⟩
   rintro a w ⟨j,c2,l,ad,b⟩
   refine v _ _<|aeW [] [(7,.i (I.ax (i+1)))] ad λ a ad=>?_
   exact t _ _ ⟨j,c2,k,l,I.ax (i+1),ad.cut,b,by rw[show I.ax (i+1)=i+1 by unfold I.ax;omega];omega,h⟩
  ·refine wp_exit<|tx (tx (HX ?_));obtain rfl:=oi h;exact s _ _ ⟨d,c1,f,ad.cut,b⟩
 rintro a w ⟨d,c1,f,ad,b⟩
 refine q _ _<|Ly [] [(2,.q d c1 r)] ad λ a ad=>wp_ret ?_;refine Av Tryz.results39 ad rfl ?_;exact⟨d,c1,f,rfl,b⟩
theorem akG{n:Int}:∀ {k:Nat}{l r:List Int}{i:Int},I.tz n k l i=some r->n<=9223372036854775807->0<=i->(∀q∈l,0<=q/\q<n)-> ∀q∈r,0<=q/\q<n
 |0,l,r,i,h,_,_,_=>by simp[I.tz]at h
 |k+1,l,r,i,h,b,hi,a=>by
  rw[I.tz]at h;cases ag:decide (i<n)with
  |false=>rw[ag]at h;obtain rfl:=oi h;exact a
  |true=>
   rw[ag]at h
   have c:=of_decide_eq_true ag
   obtain⟨d,J,h⟩:=I.fY h
   have e:I.ax (i+1)=i+1:=by unfold I.ax;omega
   rw[e]at h
   refine akG h b (by omega) λ q aN=>?_
   have:d=l++[i]:=by
    unfold bI at J;split at J
    ·exact(oi J).symm
    ·cases J
   rw[this]at aN
   rcases cj.1 aN with aN |aN
   ·exact a q aN
   ·cases dT.1 aN;exact⟨hi,c⟩
theorem akO{ρ:List Value}{bl:List (aF bs.El)}{F:Nat->Prop}{w:World}{g n c:Nat}(b:ρ[0]? =some (.slice (some ⟨g,0,none⟩) n c))(e:b4 bl[0]? =0):∀ {r:List Int}{xs:List Value},(∀q∈r,0<=q/\q<(n:Int))->dM (AO g) F w xs r->tH ρ bl 0 0 1 r xs
 |[],xs,_,h=>h
 |q::r,xs,d,h=>by
  obtain⟨cs,ys,rfl,a,J⟩:=h;have a:cs=[.pointer (some ⟨g,q.toNat,none⟩)]:=a;subst a;have:=d q (by simp);exact⟨_,_,rfl,⟨trivial,_,b,gT _,λ _=>⟨_,_,_,rfl,this.1,this.2,by simp[dD]⟩⟩,akO b e (λ q sp=>d q (by simp[sp])) J⟩
@[reducible] noncomputable def O4(F:Nat):h_ bs:=⟨[.p (.R 0)],[.r 3 true],[.p (.P 0 1)],[.r 3 true],List Int,λ d=>rI F d.2.1.length,λ d r=>((r,()),(d.2.1,()))⟩
theorem avE(F:Nat):(O4 F).hS.BC aG 39:=by
 intro da db e2 h W M0 X ρ w vs a b;obtain⟨⟨⟩,⟨⟩⟩:=da;obtain⟨l,⟨⟩⟩:=db;have h:ee _ (I.rI F (l:List Int).length)=some e2:=h;obtain⟨r,p,rfl⟩:=cz.1 h;have a:Mem bs W M0 X [.r 3 0 0 l] ρ w:=a;have b:a8 bs (bk X [.r 3 0 0 l] ρ w) w ρ [.r 3 0 0 l] [.r 0 0] vs:=b;obtain⟨Q,f⟩:=a.sA (i:=0) rfl;obtain⟨A,c,xs,rfl,E,_⟩:=a.ok 0 _ _ rfl f;simp only[a8,aw]at b;obtain⟨v,_,rfl,⟨_,u,s,_,b⟩,rfl⟩:=b;rw[f]at s;cases s;obtain rfl:=b rfl;have j:=E.cap;have R:jb (α:=Int) l<=c:=j.1;have t:jb (α:=Int) l<=9223372036854775807:=by have:=j.2.1;simp only[maxLen]at this;omega
 have x:0<jb (α:=Int) l->A=some ⟨dD A,0,none⟩:=λ S=>by
  obtain⟨g,rfl⟩:=j.2.2.2 (by omega);rfl
 refine⟨⟨.ret (.pp 0 0 1 r),[.r 3 0 0 l],[]⟩,by kernel_rfl,?_⟩;refine(auY (X:=[]) (M0:=[]) t x (bz.start [] [] w [] [] (by simp) (by simp[bZ]) (by simp) (by simp[bZ]) (by simp)) p).mono λ e w' ⟨cn,m,ys,G,aj⟩=>?_;refine⟨ρ,a.e8 aj.bY,Mem.ta aj.bY,λ k H _=>aj.bY.block k H (by simp),?_⟩;subst G;show aw _ _ _ _ _ (.pp 0 0 1 r) _
 simp only[aw];have d:(bb.row 109 1 (.slice cn r.length m) r ys).ok w':=aj.e 0 rfl;obtain⟨_,_,y,ao,aT,bQ,dw⟩:=La d;simp only[Value.slice.injEq,true_and]at y;obtain⟨rfl,rfl⟩:=y;refine⟨cn,m,rfl,ao,bQ,λ z=>?_⟩;have J:0<r.length:=l8.2 z;have K:cn≠none:=λ e=>by have:=bQ e;omega
 have n:=dw K;have B:∀q∈r,0<=q/\q<((jb (α:=Int) l:Nat):Int):=akG p (Int.ofNat_le.2 t) (lI _) (by simp);have L:0<jb (α:=Int) l:=by
  obtain⟨q,M⟩:=List.exists_mem_of_ne_nil r z;have:=B q M;omega
 have o:=x L;obtain⟨g,rfl⟩:∃g,A=some ⟨g,0,none⟩:=⟨_,o⟩
 obtain⟨g',rfl⟩:∃g',cn=some ⟨g',0,none⟩:=⟨_,n⟩
 have C:=aj.lt g' (by simp[bZ,bb.row,Value.ownBlock]);have T:w.heap.size<=g':=C.2.resolve_left (by simp);have U:W.heap.size<=w.heap.size:=a.bY.size;refine⟨rfl,⟨λ N=>?_,λ d=>?_,C.1⟩,ys,akO f rfl B (aj.d 0 rfl),?_⟩
 ·have:g'<W.heap.size:=(a.hW _ N).1;omega
 ·have:g'<w.heap.size:=(a.lt _ d).1;omega
 ·have O:w'.ownsRow 0 109 1 (.slice (some ⟨g',0,none⟩) r.length m) r.length ys:=d
  have:=u4 J (Or.inl O)
  obtain⟨V,D,Y,P,_⟩:=this
  simp only[aH,Addr.mk.injEq,and_true]at D
  subst D
  exact P
theorem aet(F:Nat):kj aG 39 ((O4 F).run aG):=λ ys bl r a=>Nh (avE F) ys bl r (Ay a)
end Go.Proofs.YteeliipnilghaaaGreat
namespace Go.Proofs.YteeliipnilghaaaGreat
open Go Go.RowKit ay I bc
@[reducible] def Gr:h_ bs:=⟨[],[],[.p .b],[],Bool,λ _=>some true,λ _ r=>((r,()),())⟩
theorem awC:Gr.Eq lX (FN lX (ME 2000).t.kL (λ _ _=>none) 100) (λ _ _=>none) 16:=λ da db=>by
 kernel_rfl
theorem Nf(g:Nat)(h:List (aI bs.El)->List (aF bs.El)->D (fu bs.El)):kj aG g h=kj lX g h:=by kernel_rfl
theorem auR:kj lX 16 (Gr.run lX):=
 have a:vF lX (λ _ _=>none):=λ g fn c _ _ _=>uG (λ _=>rfl) c
 have hc:=((ME 2000).ok jV).ce
 have b:MG lX (ME 2000).t.kL:=⟨hc.cf,λ g h d=>(Nf g h)▸hc.ok g h d⟩
 λ ys bl r e=>FA Nq (lr Nq b a 100) a rfl (c:=Gr.hS) (ey.Eq.v awC) ys bl r (Ay e)
theorem aIy:Gr.run aG=Gr.run lX:=by kernel_rfl
noncomputable def arP(F:Nat):aQ aG:=(ME F).add 16 (Gr.run aG) (aIy▸(Nf 16 _)▸auR)
noncomputable def arQ(F:Nat):aQ aG:=(arP F).add 39 ((O4 F).run aG) (aet F)
end Go.Proofs.YteeliipnilghaaaGreat
namespace Go.Proofs.YteeliipnilghaaaGreat
open Go Go.RowKit ay I bc
set_option maxRecDepth 100000
@[reducible] def GR:bK:=.c 24 [.R 2,.i .i64,.i .i64,.i .i64,.i .i64,.l 3,.i .i64]
@[reducible] def Aq:bK:=.c 24 [.R 1,.i .i64,.i .i64,.i .i64,.i .i64,.l 3,.i .i64]
@[reducible] def aku:cN:=.a [.l 3,.i .i64,.i .i64,.i .i64,.i .i64,.l 3,.i .i64]
@[reducible] def GU:bK:=.c 108 [.B 1,.l 134,.l 3,.l 124,.l 120,.l 121,.M 3]
@[reducible] def GV:bK:=.c 108 [.B 0,.l 134,.l 3,.l 124,.l 120,.l 121,.M 3]
@[reducible] def akv:cN:=.a [.l 134,.l 3,.l 124,.l 120,.l 121]
abbrev apI:=(Unit×(Unit×List ap×List Int×List (List I.Field)×List (List (List UInt8))×List (List I.Target)×Unit×Unit)×(Unit×Int×Int×Int×Int×List Int×Int×Unit)×List Int×List (Int×Int)×Unit)
abbrev Sw:=(Unit×List ap×List Int×List (List I.Field)×List (List (List UInt8))×List (List I.Target)×Unit×Unit)
abbrev Mr:=(Unit×Int×Int×Int×Int×List Int×Int×Unit)
def vx(F:Nat)(a:Int)(g:List ap)(h:List Int)(i:List (List I.Field))(j:List (List (List UInt8)))(k:List (List I.Target))(e:Int)(l:Int)(m:Int)(c:Int)(n:List Int)(o:Int)(b:List Int)(d:List (Int×Int)):Option ((Int×Unit)×Sw×Mr×List Int×List (Int×Int)×Unit):=
 cond (decide (a=0)||decide (e<a)) (some ((a,()),((),g,h,i,j,k,(),()),((),e,l,m,c,n,o,()),b,d,())) (
cond ((cH d a).isSome) (some ((((cH d a).getD 0),()),((),g,h,i,j,k,(),()),((),e,l,m,c,n,o,()),b,d,())) (
(idx b (ax (a+1))).bind λ f=>
(if(0 :Int)<=c/\c<=(↑b.length:Int)/\(↑b.length:Int)<=(↑b.length:Int)then some ()else none).bind λ q=>
(if(0 :Int)<=a/\a<=ax (a+ax (3+f))/\ax (a+ax (3+f))<=(↑b.length:Int)then some ()else none).bind λ r=>
(xC (decide (0<b.length))).bind λ p=>
some ((c,()),((),g,h,i,j,k,(),()),((),e,l,m,(ax (c+ax (3+f))),n,o,()),(fQ b c.toNat (mV ((↑b.length:Int)-c).toNat (List.drop a.toNat (mV (ax (a+ax (3+f))).toNat b)))),(gf d a c),())))
noncomputable def arR(F:Nat):aQ aG:=(arQ F).fn 69 ⟨[.p (.B 0),.p (.i .i64)],[GU,GR,.r 3 true,.m 3 3],[.p (.i .i64)],[GU,GR,.r 3 true,.m 3 3],λ d=>vx F d.1.2.1 d.2.1.2.1 d.2.1.2.2.1 d.2.1.2.2.2.1 d.2.1.2.2.2.2.1 d.2.1.2.2.2.2.2.1 d.2.2.1.2.1 d.2.2.1.2.2.1 d.2.2.1.2.2.2.1 d.2.2.1.2.2.2.2.1 d.2.2.1.2.2.2.2.2.1 d.2.2.1.2.2.2.2.2.2.1 d.2.2.2.1 d.2.2.2.2.1⟩ λ da db=>by kernel_rfl
def Bx(F:Nat):Nat->(Int)->(Int)->(Int)->(List ap)->(List Int)->(List (List I.Field))->(List (List (List UInt8)))->(List (List I.Target))->(Int)->(Int)->(Int)->(Int)->(List Int)->(Int)->(List Int)->(List (Int×Int))->Option apI
 |0,_,_,_,_,_,_,_,_,_,_,_,_,_,_,_,_=>none
 |aR+1,d,b,c,e,f,g,h,i,j,k,l,m,n,o,vn,p=>
  cond (decide (c<b)) ((idx vn d).bind λ q=>
(qL (b'.mk (aO.mk e f g h i)) q c).bind λ r=>
cond r ((idx vn (ax (ax (d+3)+c))).bind λ s=>
(vx F s e f g h i j k l m n o vn p).bind λ a=>
(idx a.2.2.2.1 (ax (ax (d+3)+c))).bind λ t=>
Bx F aR d b (ax (c+1)) a.2.1.2.1 a.2.1.2.2.1 a.2.1.2.2.2.1 a.2.1.2.2.2.2.1 a.2.1.2.2.2.2.2.1 a.2.2.1.2.1 a.2.2.1.2.2.1 a.2.2.1.2.2.2.1 a.2.2.1.2.2.2.2.1 a.2.2.1.2.2.2.2.2.1 a.2.2.1.2.2.2.2.2.2.1 (List.set a.2.2.2.1 (ax (ax (d+3)+c)).toNat a.1.1) a.2.2.2.2.1) (
Bx F aR d b (ax (c+1)) e f g h i j k l m n o vn p)) (
some ((),((),e,f,g,h,i,(),()),((),j,k,l,m,n,o,()),vn,p,()))
noncomputable def arS(F:Nat):aQ aG:=(arR F).gd 70 0 F ⟨[0,1,16,17],[.p (.B 0),.p (.i .i64),.p (.i .i64),.p (.i .i64)],[GU,GR,.r 3 true,.m 3 3],[⟨.nm,[],[],[GU,GR,.r 3 true,.m 3 3]⟩],λ k d=>Bx F k d.1.2.1 d.1.2.2.1 d.1.2.2.2.1 d.2.1.2.1 d.2.1.2.2.1 d.2.1.2.2.2.1 d.2.1.2.2.2.2.1 d.2.1.2.2.2.2.2.1 d.2.2.1.2.1 d.2.2.1.2.2.1 d.2.2.1.2.2.2.1 d.2.2.1.2.2.2.2.1 d.2.2.1.2.2.2.2.2.1 d.2.2.1.2.2.2.2.2.2.1 d.2.2.2.1 d.2.2.2.2.1⟩ ⟨λ d=>by kernel_rfl,λ k da db=>by kernel_rfl⟩
def Ms(F:Nat)(b:Int)(d:List ap)(e:List Int)(f:List (List I.Field))(g:List (List (List UInt8)))(h:List (List I.Target))(i:Int)(j:Int)(k:Int)(l:Int)(m:List Int)(n:Int)(c:List Int)(o:List (Int×Int)):Option apI:=
 (idx c (ax (b+1))).bind λ p=>
(Bx F F b p 0 d e f g h i j k l m n c o).bind λ a=>
some ((),((),a.2.1.2.1,a.2.1.2.2.1,a.2.1.2.2.2.1,a.2.1.2.2.2.2.1,a.2.1.2.2.2.2.2.1,(),()),((),a.2.2.1.2.1,a.2.2.1.2.2.1,a.2.2.1.2.2.2.1,a.2.2.1.2.2.2.2.1,a.2.2.1.2.2.2.2.2.1,a.2.2.1.2.2.2.2.2.2.1,()),a.2.2.2.1,a.2.2.2.2.1,())
noncomputable def arU(F:Nat):aQ aG:=(arS F).fn 70 ⟨[.p (.B 0),.p (.i .i64)],[GU,GR,.r 3 true,.m 3 3],[],[GU,GR,.r 3 true,.m 3 3],λ d=>Ms F d.1.2.1 d.2.1.2.1 d.2.1.2.2.1 d.2.1.2.2.2.1 d.2.1.2.2.2.2.1 d.2.1.2.2.2.2.2.1 d.2.2.1.2.1 d.2.2.1.2.2.1 d.2.2.1.2.2.2.1 d.2.2.1.2.2.2.2.1 d.2.2.1.2.2.2.2.2.1 d.2.2.1.2.2.2.2.2.2.1 d.2.2.2.1 d.2.2.2.2.1⟩ λ da db=>by kernel_rfl
def EW(F:Nat):Nat->(Int)->(List Int)->(Int)->(Int)->(Int)->(Int)->(Int)->(Int)->(List Int)->(Int)->(List Int)->(List ap)->(List Int)->(List (List I.Field))->(List (List (List UInt8)))->(List (List I.Target))->(List (Int×Int))->(List Int)->Option ((Unit×Unit×Int×Unit)×
 Mr×List Int×Sw×List (Int×Int)×List Int×Unit)
 |0,_,_,_,_,_,_,_,_,_,_,_,_,_,_,_,_,_,_=>none
 |aR+1,d,e,f,b,g,h,i,j,k,l,m,AV,n,o,p,q,r,c=>
  cond (decide (b<f)) ((idx e b).bind λ Eo=>
(idx c Eo).bind λ s=>
(vx F s AV n o p q g h i j k l m r).bind λ a=>
EW F aR d e f (ax (b+1)) a.2.2.1.2.1 a.2.2.1.2.2.1 a.2.2.1.2.2.2.1 a.2.2.1.2.2.2.2.1 a.2.2.1.2.2.2.2.2.1 a.2.2.1.2.2.2.2.2.2.1 a.2.2.2.1 a.2.1.2.1 a.2.1.2.2.1 a.2.1.2.2.2.1 a.2.1.2.2.2.2.1 a.2.1.2.2.2.2.2.1 a.2.2.2.2.1 (c.set Eo.toNat a.1.1)) (
some (((),(),d,()),((),g,h,i,j,k,l,()),m,((),AV,n,o,p,q,(),()),r,c,()))
noncomputable def arV(F:Nat):aQ aG:=(arU F).gd 38 0 F ⟨[0,6,7,22,23,24],[.p (.B 0),.p (.B 2),.p (.i .i64),.p (.P 4 1),.p (.i .i64),.p (.i .i64)],[Aq,.r 3 true,GV,.m 3 3,.r 3 true],[⟨.nm,[0,6,7],[.p (.B 0),.p (.B 2),.p (.i .i64)],[Aq,.r 3 true,GV,.m 3 3,.r 3 true]⟩],λ k d=>EW F k d.1.2.2.1 d.1.2.2.2.1 d.1.2.2.2.2.1 d.1.2.2.2.2.2.1 d.2.1.2.1 d.2.1.2.2.1 d.2.1.2.2.2.1 d.2.1.2.2.2.2.1 d.2.1.2.2.2.2.2.1 d.2.1.2.2.2.2.2.2.1 d.2.2.1 d.2.2.2.1.2.1 d.2.2.2.1.2.2.1 d.2.2.2.1.2.2.2.1 d.2.2.2.1.2.2.2.2.1 d.2.2.2.1.2.2.2.2.2.1 d.2.2.2.2.1 d.2.2.2.2.2.1⟩ ⟨λ d=>by kernel_rfl,λ k da db=>by kernel_rfl⟩
def EX(F:Nat):Nat->(Int)->(List Int)->(Int)->(Int)->(Int)->(Int)->(Int)->(Int)->(List Int)->(Int)->(List Int)->(List ap)->(List Int)->(List (List I.Field))->(List (List (List UInt8)))->(List (List I.Target))->(List (Int×Int))->Option ((Unit×Unit×Int×Unit)×
 Mr×List Int×Sw×List (Int×Int)×Unit)
 |0,_,_,_,_,_,_,_,_,_,_,_,_,_,_,_,_,_=>none
 |aR+1,g,h,i,mE,j,k,l,m,n,o,p,q,r,b,c,d,e=>
  cond (decide (mE<i)) ((idx h mE).bind λ f=>
(Ms F f q r b c d j k l m n o p e).bind λ a=>
EX F aR g h i (ax (mE+1)) a.2.2.1.2.1 a.2.2.1.2.2.1 a.2.2.1.2.2.2.1 a.2.2.1.2.2.2.2.1 a.2.2.1.2.2.2.2.2.1 a.2.2.1.2.2.2.2.2.2.1 a.2.2.2.1 a.2.1.2.1 a.2.1.2.2.1 a.2.1.2.2.2.1 a.2.1.2.2.2.2.1 a.2.1.2.2.2.2.2.1 a.2.2.2.2.1) (
some (((),(),g,()),((),j,k,l,m,n,o,()),p,((),q,r,b,c,d,(),()),e,()))
noncomputable def arW(F:Nat):aQ aG:=(arV F).gd 38 2 F ⟨[0,6,7,39,40,41],[.p (.B 0),.p (.B 2),.p (.i .i64),.p (.l 3),.p (.i .i64),.p (.i .i64)],[Aq,.r 3 true,GV,.m 3 3],[⟨.nm,[0,6,7],[.p (.B 0),.p (.B 2),.p (.i .i64)],[Aq,.r 3 true,GV,.m 3 3]⟩],λ k d=>EX F k d.1.2.2.1 d.1.2.2.2.1 d.1.2.2.2.2.1 d.1.2.2.2.2.2.1 d.2.1.2.1 d.2.1.2.2.1 d.2.1.2.2.2.1 d.2.1.2.2.2.2.1 d.2.1.2.2.2.2.2.1 d.2.1.2.2.2.2.2.2.1 d.2.2.1 d.2.2.2.1.2.1 d.2.2.2.1.2.2.1 d.2.2.2.1.2.2.2.1 d.2.2.2.1.2.2.2.2.1 d.2.2.2.1.2.2.2.2.2.1 d.2.2.2.2.1⟩ ⟨λ d=>by kernel_rfl,λ k da db=>by kernel_rfl⟩
def EY(F:Nat):Nat->(Int)->(Int)->(Int)->(Int)->(Int)->(List Int)->(Int)->(List Int)->(List ap)->(List Int)->(List (List I.Field))->(List (List (List UInt8)))->(List (List I.Target))->(List (Int×Int))->Option ((Unit×Unit)×Mr×List Int×Sw×List (Int×Int)×Unit)
 |0,_,_,_,_,_,_,_,_,_,_,_,_,_,_=>none
 |aR+1,b,d,e,f,c,g,h,i,j,k,l,m,LV,n=>
  cond (decide (b<c)) ((Ms F b j k l m LV d e f c g h i n).bind λ a=>
(idx a.2.2.2.1 (ax (b+1))).bind λ o=>
EY F aR (ax (b+ax (3+o))) a.2.2.1.2.1 a.2.2.1.2.2.1 a.2.2.1.2.2.2.1 a.2.2.1.2.2.2.2.1 a.2.2.1.2.2.2.2.2.1 a.2.2.1.2.2.2.2.2.2.1 a.2.2.2.1 a.2.1.2.1 a.2.1.2.2.1 a.2.1.2.2.2.1 a.2.1.2.2.2.2.1 a.2.1.2.2.2.2.2.1 a.2.2.2.2.1) (
some (((),()),((),d,e,f,c,g,h,()),i,((),j,k,l,m,LV,(),()),n,()))
noncomputable def arX(F:Nat):aQ aG:=(arW F).gd 38 4 F ⟨[0,6,12],[.p (.B 0),.p (.B 2),.p (.i .i64)],[Aq,.r 3 true,GV,.m 3 3],[⟨.nm,[0],[.p (.B 0)],[Aq,.r 3 true,GV,.m 3 3]⟩],λ k d=>EY F k d.1.2.2.1 d.2.1.2.1 d.2.1.2.2.1 d.2.1.2.2.2.1 d.2.1.2.2.2.2.1 d.2.1.2.2.2.2.2.1 d.2.1.2.2.2.2.2.2.1 d.2.2.1 d.2.2.2.1.2.1 d.2.2.2.1.2.2.1 d.2.2.2.1.2.2.2.1 d.2.2.2.1.2.2.2.2.1 d.2.2.2.1.2.2.2.2.2.1 d.2.2.2.2.1⟩ ⟨λ d=>by kernel_rfl,λ k da db=>by kernel_rfl⟩
def EV(F:Nat)(f:List ap)(g:List Int)(Ev:List (List I.Field))(h:List (List (List UInt8)))(i:List (List I.Target))(d:List Int)(j:Int)(k:Int)(l:Int)(e:Int)(m:List Int)(n:Int)(o:List Int)(p:List Int):Option (Unit×Mr×List Int×List Int×Unit):=
 (EW F F e d (↑d.length:Int) 0 j k l e m n o f g Ev h i [] p).bind λ a=>
(EX F F a.1.2.2.1 a.2.1.2.2.2.2.2.1 (↑(jb a.2.1.2.2.2.2.2.1):Int) 0 a.2.1.2.1 a.2.1.2.2.1 a.2.1.2.2.2.1
 a.2.1.2.2.2.2.1 a.2.1.2.2.2.2.2.1 a.2.1.2.2.2.2.2.2.1 a.2.2.1 a.2.2.2.1.2.1 a.2.2.2.1.2.2.1 a.2.2.2.1.2.2.2.1
 a.2.2.2.1.2.2.2.2.1 a.2.2.2.1.2.2.2.2.2.1 a.2.2.2.2.1).bind λ b=>
(EY F F b.1.2.2.1 b.2.1.2.1 b.2.1.2.2.1 b.2.1.2.2.2.1 b.2.1.2.2.2.2.1 b.2.1.2.2.2.2.2.1 b.2.1.2.2.2.2.2.2.1 b.2.2.1
 b.2.2.2.1.2.1 b.2.2.2.1.2.2.1 b.2.2.2.1.2.2.2.1 b.2.2.2.1.2.2.2.2.1 b.2.2.2.1.2.2.2.2.2.1 b.2.2.2.2.1).bind λ c=>
(if(0 :Int)<=1/\1<=ax (c.2.1.2.1+1)/\ax (c.2.1.2.1+1)<=(↑(jb c.2.2.1):Int)then some ()else none).bind λ q=>
(xC (decide (1<ax (c.2.1.2.1+1)))).bind λ r=>
some ((),((),c.2.1.2.1,c.2.1.2.2.1,1,c.2.1.2.2.2.2.1,([]),c.2.1.2.2.2.2.2.2.1,()),(fQ c.2.2.1 (Int.toNat 1) (fV (ax (c.2.1.2.1+1)-1).toNat 0)),a.2.2.2.2.2.1,())
noncomputable def arY(F:Nat):aQ aG:=(arX F).fn 38 ⟨[.p (.B 0),akv,.p (.P 2 1)],[Aq,.r 3 true,.r 3 true],[],[Aq,.r 3 true,.r 3 true],λ d=>EV F d.1.2.1.1 d.1.2.1.2.1 d.1.2.1.2.2.1 d.1.2.1.2.2.2.1 d.1.2.1.2.2.2.2.1 d.1.2.2.1 d.2.1.2.1 d.2.1.2.2.1 d.2.1.2.2.2.1 d.2.1.2.2.2.2.1 d.2.1.2.2.2.2.2.1 d.2.1.2.2.2.2.2.2.1 d.2.2.1 d.2.2.2.1⟩ λ da db=>by kernel_rfl
def qk(F:Nat)(i:List Int)(a:Int)(b:Int)(c:Int)(d:Int)(j:List Int)(k:Int)(v:List ap)(w:List Int)(x:List (List I.Field))(y:List (List (List UInt8)))(z:List (List I.Target))(l:List Int):Option (((List Int×Int×Int×Int×Int×List Int×Int×Unit)×List Int×Int×Unit)×Unit):=
 dy (iB (jZ F (aV.mk i a b c d j k) (aO.mk v w x y z))) (λ eg=>
cond (decide (eg.2=0)) ((vw F
 (bj.mk (aV.mk eg.1.H.Words eg.1.H.ak eg.1.H.aM eg.1.H.aX eg.1.H.aW eg.1.H.aS eg.1.H.Next)
  (b'.mk (aO.mk eg.1.S.K.a6 eg.1.S.K.aY eg.1.S.K.Fields eg.1.S.K.Names eg.1.S.K.aZ)) eg.1.ak eg.1.aM eg.1.dP)
 l).bind λ q=>
cond (decide (q=0)) (cond (decide (ax (ax (ax (ax (a+b)+1)-d)-ax (c-1))<0)) (some (((([]),0,0,0,0,([]),0,()),([]),8,()),())) (
cond (!decide (q=0)) (some (((([]),0,0,0,0,([]),0,()),([]),q,()),())) (
(m' (aV.mk i a b c d j k)).bind λ m=>
(bI 8 [] l).bind λ r=>
(rI F (↑r.length:Int)).bind λ A=>
(EV F eg.1.S.K.a6 eg.1.S.K.aY eg.1.S.K.Fields eg.1.S.K.Names eg.1.S.K.aZ A m.ak m.aM m.aX m.aW m.aS m.Next m.Words r).bind λ e=>
some (((e.2.2.1,e.2.1.2.1,e.2.1.2.2.1,e.2.1.2.2.2.1,e.2.1.2.2.2.2.1,e.2.1.2.2.2.2.2.1,e.2.1.2.2.2.2.2.2.1,()),e.2.2.2.1,0,()),())))) (
cond (!decide (q=0)) (some (((([]),0,0,0,0,([]),0,()),([]),q,()),())) (
(m' (aV.mk i a b c d j k)).bind λ n=>
(bI 8 [] l).bind λ s=>
(rI F (↑s.length:Int)).bind λ B=>
(EV F eg.1.S.K.a6 eg.1.S.K.aY eg.1.S.K.Fields eg.1.S.K.Names eg.1.S.K.aZ B n.ak n.aM n.aX n.aW n.aS n.Next n.Words s).bind λ f=>
some (((f.2.2.1,f.2.1.2.1,f.2.1.2.2.1,f.2.1.2.2.2.1,f.2.1.2.2.2.2.1,f.2.1.2.2.2.2.2.1,f.2.1.2.2.2.2.2.2.1,()),f.2.2.2.1,0,()),())))) (
cond (decide (eg.2=0)) (cond (decide (ax (ax (ax (ax (a+b)+1)-d)-ax (c-1))<0)) (some (((([]),0,0,0,0,([]),0,()),([]),8,()),())) (
cond (!decide (eg.2=0)) (some (((([]),0,0,0,0,([]),0,()),([]),eg.2,()),())) (
(m' (aV.mk i a b c d j k)).bind λ o=>
(bI 8 [] l).bind λ t=>
(rI F (↑t.length:Int)).bind λ C=>
(EV F eg.1.S.K.a6 eg.1.S.K.aY eg.1.S.K.Fields eg.1.S.K.Names eg.1.S.K.aZ C o.ak o.aM o.aX o.aW o.aS o.Next o.Words t).bind λ g=>
some (((g.2.2.1,g.2.1.2.1,g.2.1.2.2.1,g.2.1.2.2.2.1,g.2.1.2.2.2.2.1,g.2.1.2.2.2.2.2.1,g.2.1.2.2.2.2.2.2.1,()),g.2.2.2.1,0,()),())))) (
cond (!decide (eg.2=0)) (some (((([]),0,0,0,0,([]),0,()),([]),eg.2,()),())) (
(m' (aV.mk i a b c d j k)).bind λ p=>
(bI 8 [] l).bind λ u=>
(rI F (↑u.length:Int)).bind λ D=>
(EV F eg.1.S.K.a6 eg.1.S.K.aY eg.1.S.K.Fields eg.1.S.K.Names eg.1.S.K.aZ D p.ak p.aM p.aX p.aW p.aS p.Next p.Words u).bind λ h=>
some (((h.2.2.1,h.2.1.2.1,h.2.1.2.2.1,h.2.1.2.2.2.1,h.2.1.2.2.2.2.1,h.2.1.2.2.2.2.2.1,h.2.1.2.2.2.2.2.2.1,()),h.2.2.2.1,0,()),()))))) (λ qc=>
cond (decide (qc=0)) none (
cond (decide (qc=0)) (cond (decide (ax (ax (ax (ax (a+b)+1)-d)-ax (c-1))<0)) (some (((([]),0,0,0,0,([]),0,()),([]),8,()),())) (
cond (!decide (qc=0)) (some (((([]),0,0,0,0,([]),0,()),([]),qc,()),())) (
(m' (aV.mk i a b c d j k)).bind λ E=>
(bI 8 [] l).bind λ G=>
none))) (
cond (!decide (qc=0)) (some (((([]),0,0,0,0,([]),0,()),([]),qc,()),())) (
(m' (aV.mk i a b c d j k)).bind λ H=>
(bI 8 [] l).bind λ J=>
none))))
noncomputable def arZ(F:Nat):aQ aG:=(arY F).fn 12 ⟨[aku,akv,.p (.l 3)],[],[aku,.p (.l 3),.p (.i .i64)],[],λ d=>qk F d.1.1.1 d.1.1.2.1 d.1.1.2.2.1 d.1.1.2.2.2.1 d.1.1.2.2.2.2.1 d.1.1.2.2.2.2.2.1 d.1.1.2.2.2.2.2.2.1 d.1.2.1.1 d.1.2.1.2.1 d.1.2.1.2.2.1 d.1.2.1.2.2.2.1 d.1.2.1.2.2.2.2.1 d.1.2.2.1⟩ λ da db=>by kernel_rfl
def B7(F:Nat):Nat->(List Int)->(Int)->(Int)->Option ((Int×Unit)×Unit⊕Unit×Unit)
 |0,_,_,_=>none
 |aR+1,b,c,a=>
  cond (decide (a<(↑b.length:Int))) ((idx b a).bind λ d=>
cond (decide (d=c)) (some (.inl ((a,()),()))) (
B7 F aR b c (ax (a+1)))) (
some (.inr ((),())))
noncomputable def ar0(F:Nat):aQ aG:=(arZ F).gd 29 0 F ⟨[0,1,5],[.p (.l 3),.p (.i .i64),.p (.i .i64)],[],[⟨.rt,[4],[.p (.i .i64)],[]⟩,⟨.nm,[],[],[]⟩],λ k d=>B7 F k d.1.1 d.1.2.1 d.1.2.2.1⟩ ⟨λ d=>by kernel_rfl,λ k da db=>by kernel_rfl⟩
def B6(F:Nat)(a:List Int)(b:Int):Option ((Int×Unit)×Unit):=
 dy (B7 F F a b 0) (λ c=>
some ((c.1.1,()),())) (λ d=>
some (((-1),()),()))
noncomputable def ar1(F:Nat):aQ aG:=(ar0 F).fn 29 ⟨[.p (.l 3),.p (.i .i64)],[],[.p (.i .i64)],[],λ d=>B6 F d.1.1 d.1.2.1⟩ λ da db=>by kernel_rfl
noncomputable def ar2(F:Nat):aQ aG:=(ar1 F).tX 43
noncomputable def ar3(F:Nat):aQ aG:=(ar2 F).tX 29
end Go.Proofs.YteeliipnilghaaaGreat
namespace Go.Proofs.YteeliipnilghaaaGreat
open Go Go.RowKit ay I bc
set_option maxRecDepth 100000
@[reducible] def eU:bK:=.c 24 [.l 3,.i .i64,.i .i64,.i .i64,.i .i64,.l 3,.i .i64]
@[reducible] def GY:bK:=.c 24 [.R 7,.i .i64,.i .i64,.i .i64,.i .i64,.l 3,.i .i64]
@[reducible] def P1:bK:=.c 24 [.R 6,.i .i64,.i .i64,.i .i64,.i .i64,.l 3,.i .i64]
@[reducible] def KP:cN:=.a [.l 3,.i .i64,.i .i64,.i .i64,.i .i64,.l 3,.i .i64]
@[reducible] def j_:bK:=.c 30 [.l 134,.l 3,.l 124,.l 120,.l 121]
@[reducible] def Y1:cN:=.a [.l 134,.l 3,.l 124,.l 120,.l 121]
abbrev apJ:=(Unit×
 (List Int×Int×Int×Int×Int×List Int×Int×Unit)×
  (List ap×List Int×List (List I.Field)×List (List (List UInt8))×List (List I.Target)×Unit)×
   (Unit×Unit)×(List Int×Unit)×(Unit×Unit)×List Int×(Unit×Int×Int×Int×Int×List Int×Int×Unit)×List Int×Unit)
abbrev Bv:=(List ap×List Int×List (List I.Field)×List (List (List UInt8))×List (List I.Target)×Unit)
abbrev apK:=(List Int×Unit×Unit×Unit×Unit×(Unit×Unit×Unit)×Int×Unit)
abbrev apL:=(List Int×Unit×Unit×Unit×Unit×(Unit×Unit×Unit)×Unit)
abbrev ki:=(List Int×Int×Int×Int×Int×List Int×Int×Unit)
abbrev ada:=(Unit×Int×Int×Int×Int×List Int×Int×Unit)
def Tj(F:Nat)(a:Int)(b:List Int)(c:List Int):Option ((Int×Unit)×(List Int×Unit)×(Unit×Unit)×List Int×Unit):=
 (B6 F b a).bind λ d=>
cond (decide (a=0)||decide (d.1.1<0)) (some ((a,()),(b,()),((),()),c,())) (
(idx c d.1.1).bind λ e=>
some ((e,()),(b,()),((),()),c,()))
noncomputable def ar5(F:Nat):aQ aG:=(ar3 F).fn 72 ⟨[.p (.i .i64),.p (.B 0),.p (.B 1)],[.c 22 [.l 3],.c 22 [.R 2],.r 3 true],[.p (.i .i64)],[.c 22 [.l 3],.c 22 [.R 2],.r 3 true],λ d=>Tj F d.1.1 d.2.1.1 d.2.2.2.1⟩ λ da db=>by kernel_rfl
def Ir(F:Nat):Nat->(Int)->(Int)->(Int)->(List Int)->(Int)->(Int)->(Int)->(Int)->(List Int)->(Int)->(List ap)->(List Int)->(List (List I.Field))->(List (List (List UInt8)))->(List (List I.Target))->(List Int)->(List Int)->(Int)->(Int)->(Int)->(Int)->(List Int)->(Int)->(List Int)->Option apJ
 |0,_,_,_,_,_,_,_,_,_,_,_,_,_,_,_,_,_,_,_,_,_,_,_,_=>none
 |aR+1,e,b,a,c,k,l,m,n,vn,o,f,g,h,i,j,p,q,r,s,t,u,v,w,d=>
  (idx c (ax (e+1))).bind λ z=>
cond (decide (a<ax (3+z))) ((idx c (ax (e+a))).bind λ x=>
cond (decide (3<=a)) ((idx c e).bind λ A=>
(tO (aO.mk f g h i j) A (ax (a-3))).bind λ B=>
cond B ((Tj F x p q).bind λ y=>
(idx d (ax (b+a))).bind λ C=>
Ir F aR e b (ax (a+1)) c k l m n vn o f g h i j y.2.1.1 y.2.2.2.1 r s t u v w (d.set (ax (b+a)).toNat y.1.1)) (
(idx d (ax (b+a))).bind λ D=>
Ir F aR e b (ax (a+1)) c k l m n vn o f g h i j p q r s t u v w (d.set (ax (b+a)).toNat x))) (
(idx d (ax (b+a))).bind λ E=>
Ir F aR e b (ax (a+1)) c k l m n vn o f g h i j p q r s t u v w (d.set (ax (b+a)).toNat x))) (
some ((),(c,k,l,m,n,vn,o,()),(f,g,h,i,j,()),((),()),(p,()),((),()),q,((),r,s,t,u,v,w,()),d,()))
noncomputable def ar6(F:Nat):aQ aG:=(ar5 F).gd 73 0 F ⟨[0,1,2,3,4,5,8],[.p (.i .i64),.p (.i .i64),.p (.B 0),.p (.B 1),.p (.B 2),.p (.B 6),.p (.i .i64)],[eU,j_,.c 110 [.F 72 [3,4]],.c 22 [.l 3],.c 22 [.R 5],.r 3 true,GY,.r 3 true],[⟨.nm,[],[],[eU,j_,.c 110 [.F 72 [3,4]],.c 22 [.l 3],.c 22 [.R 5],.r 3 true,GY,.r 3 true]⟩],λ k d=>Ir F k d.1.1 d.1.2.1 d.1.2.2.2.2.2.2.1 d.2.1.1 d.2.1.2.1 d.2.1.2.2.1 d.2.1.2.2.2.1 d.2.1.2.2.2.2.1 d.2.1.2.2.2.2.2.1 d.2.1.2.2.2.2.2.2.1 d.2.2.1.1 d.2.2.1.2.1 d.2.2.1.2.2.1 d.2.2.1.2.2.2.1 d.2.2.1.2.2.2.2.1 d.2.2.2.2.1.1 d.2.2.2.2.2.2.1 d.2.2.2.2.2.2.2.1.2.1 d.2.2.2.2.2.2.2.1.2.2.1 d.2.2.2.2.2.2.2.1.2.2.2.1 d.2.2.2.2.2.2.2.1.2.2.2.2.1 d.2.2.2.2.2.2.2.1.2.2.2.2.2.1 d.2.2.2.2.2.2.2.1.2.2.2.2.2.2.1 d.2.2.2.2.2.2.2.2.1⟩ ⟨λ d=>by kernel_rfl,λ k da db=>by kernel_rfl⟩
def Tk(F:Nat)(p:Int)(q:Int)(r:List Int)(s:Int)(t:Int)(u:Int)(Mk:Int)(v:List Int)(w:Int)(b:List ap)(c:List Int)(d:List (List I.Field))(e:List (List (List UInt8)))(f:List (List I.Target))(g:List Int)(h:List Int)(i:Int)(j:Int)(k:Int)(l:Int)(m:List Int)(n:Int)(o:List Int):Option apJ:=
 (Ir F F p q 0 r s t u Mk v w b c d e f g h i j k l m n o).bind λ a=>
some ((),(a.2.1.1,a.2.1.2.1,a.2.1.2.2.1,a.2.1.2.2.2.1,a.2.1.2.2.2.2.1,a.2.1.2.2.2.2.2.1,a.2.1.2.2.2.2.2.2.1,()),(a.2.2.1.1,a.2.2.1.2.1,a.2.2.1.2.2.1,a.2.2.1.2.2.2.1,a.2.2.1.2.2.2.2.1,()),((),()),(a.2.2.2.2.1.1,()),((),()),a.2.2.2.2.2.2.1,((),a.2.2.2.2.2.2.2.1.2.1,a.2.2.2.2.2.2.2.1.2.2.1,a.2.2.2.2.2.2.2.1.2.2.2.1,a.2.2.2.2.2.2.2.1.2.2.2.2.1,a.2.2.2.2.2.2.2.1.2.2.2.2.2.1,a.2.2.2.2.2.2.2.1.2.2.2.2.2.2.1,()),a.2.2.2.2.2.2.2.2.1,())
noncomputable def ar7(F:Nat):aQ aG:=(ar6 F).fn 73 ⟨[.p (.i .i64),.p (.i .i64),.p (.B 0),.p (.B 1),.p (.B 2),.p (.B 6)],[eU,j_,.c 110 [.F 72 [3,4]],.c 22 [.l 3],.c 22 [.R 5],.r 3 true,GY,.r 3 true],[],[eU,j_,.c 110 [.F 72 [3,4]],.c 22 [.l 3],.c 22 [.R 5],.r 3 true,GY,.r 3 true],λ d=>Tk F d.1.1 d.1.2.1 d.2.1.1 d.2.1.2.1 d.2.1.2.2.1 d.2.1.2.2.2.1 d.2.1.2.2.2.2.1 d.2.1.2.2.2.2.2.1 d.2.1.2.2.2.2.2.2.1 d.2.2.1.1 d.2.2.1.2.1 d.2.2.1.2.2.1 d.2.2.1.2.2.2.1 d.2.2.1.2.2.2.2.1 d.2.2.2.2.1.1 d.2.2.2.2.2.2.1 d.2.2.2.2.2.2.2.1.2.1 d.2.2.2.2.2.2.2.1.2.2.1 d.2.2.2.2.2.2.2.1.2.2.2.1 d.2.2.2.2.2.2.2.1.2.2.2.2.1 d.2.2.2.2.2.2.2.1.2.2.2.2.2.1 d.2.2.2.2.2.2.2.1.2.2.2.2.2.2.1 d.2.2.2.2.2.2.2.2.1⟩ λ da db=>by kernel_rfl
def Tl(F:Nat):Nat->(Int)->(List Int)->(Int)->(Int)->(List Int)->(Int)->(Int)->(Int)->(Int)->(List Int)->(Int)->(List ap)->(List Int)->(List (List I.Field))->(List (List (List UInt8)))->(List (List I.Target))->(List Int)->(List Int)->(Int)->(Int)->(Int)->(Int)->(List Int)->(Int)->(List Int)->Option ((Int×List Int×Unit×Unit×Unit×Unit×Unit×Int×Unit)×
 ki×
  Bv×(List Int×Unit)×ki×(Unit×Unit)×List Int×Unit)
 |0,_,_,_,_,_,_,_,_,_,_,_,_,_,_,_,_,_,_,_,_,_,_,_,_,_=>none
 |aR+1,e,f,b,c,d,g,h,i,j,k,l,m,n,o,p,q,a,r,s,t,u,v,w,x,y=>
  cond (decide (c<(↑a.length:Int))) ((bI 8 y [b]).bind λ mE=>
(idx a c).bind λ z=>
(idx d (ax (z+1))).bind λ A=>
Tl F aR e f (ax (b+ax (3+A))) (ax (c+1)) d g h i j k l m n o p q a r s t u v w x mE) (
some ((e,f,(),(),(),(),(),b,()),(d,g,h,i,j,k,l,()),(m,n,o,p,q,()),(a,()),(r,s,t,u,v,w,x,()),((),()),y,()))
noncomputable def ar8(F:Nat):aQ aG:=(ar7 F).gd 45 0 F ⟨[3,4,5,6,7,10,12,13,14],[.p (.i .i64),.p (.l 3),.p (.B 0),.p (.B 1),.p (.B 2),.p (.B 3),.p (.B 4),.p (.i .i64),.p (.i .i64)],[eU,j_,.c 22 [.l 3],eU,.c 22 [.R 5],.r 3 false],[⟨.nm,[3,4,5,6,7,10,12,13],[.p (.i .i64),.p (.l 3),.p (.B 0),.p (.B 1),.p (.B 2),.p (.B 3),.p (.B 4),.p (.i .i64)],[eU,j_,.c 22 [.l 3],eU,.c 22 [.R 5],.r 3 false]⟩],λ k d=>Tl F k d.1.1 d.1.2.1 d.1.2.2.2.2.2.2.2.1 d.1.2.2.2.2.2.2.2.2.1 d.2.1.1 d.2.1.2.1 d.2.1.2.2.1 d.2.1.2.2.2.1 d.2.1.2.2.2.2.1 d.2.1.2.2.2.2.2.1 d.2.1.2.2.2.2.2.2.1 d.2.2.1.1 d.2.2.1.2.1 d.2.2.1.2.2.1 d.2.2.1.2.2.2.1 d.2.2.1.2.2.2.2.1 d.2.2.2.1.1 d.2.2.2.2.1.1 d.2.2.2.2.1.2.1 d.2.2.2.2.1.2.2.1 d.2.2.2.2.1.2.2.2.1 d.2.2.2.2.1.2.2.2.2.1 d.2.2.2.2.1.2.2.2.2.2.1 d.2.2.2.2.1.2.2.2.2.2.2.1 d.2.2.2.2.2.2.1⟩ ⟨λ d=>by kernel_rfl,λ k da db=>by kernel_rfl⟩
def Tm(F:Nat):Nat->(Int)->(List Int)->(Int)->(List Int)->(Int)->(Int)->(Int)->(Int)->(List Int)->(Int)->(List Int)->(List Int)->(Int)->(Int)->(Int)->(Int)->(List Int)->(Int)->(List Int)->(Int)->(Int)->(Int)->(Int)->(List Int)->(Int)->(List Int)->(List ap)->(List Int)->(List (List I.Field))->(List (List (List UInt8)))->(List (List I.Target))->Option ((List Int×Unit×Unit×Unit×Unit×Unit×(Unit×Unit×Unit×Unit×Unit)×Unit)×
 ki×
  (List Int×Unit)×
   ki×
    (Unit×Unit)×List Int×(Unit×Unit)×ada×List Int×Bv×Unit)
 |0,_,_,_,_,_,_,_,_,_,_,_,_,_,_,_,_,_,_,_,_,_,_,_,_,_,_,_,_,_,_,_=>none
 |aR+1,c,d,b,e,f,g,h,LV,i,j,k,l,m,Ev,n,o,p,q,r,s,t,u,v,w,x,y,z,A,B,C,D=>
  cond (decide (b<c)) ((Tk F b b e f g h LV i j z A B C D k r s t u v w x y).bind λ a=>
(idx a.2.1.1 (ax (b+1))).bind λ E=>
Tm F aR c d (ax (b+ax (3+E))) a.2.1.1 a.2.1.2.1 a.2.1.2.2.1 a.2.1.2.2.2.1 a.2.1.2.2.2.2.1 a.2.1.2.2.2.2.2.1 a.2.1.2.2.2.2.2.2.1 a.2.2.2.2.1.1 l m Ev n o p q a.2.2.2.2.2.2.1 a.2.2.2.2.2.2.2.1.2.1 a.2.2.2.2.2.2.2.1.2.2.1 a.2.2.2.2.2.2.2.1.2.2.2.1 a.2.2.2.2.2.2.2.1.2.2.2.2.1 a.2.2.2.2.2.2.2.1.2.2.2.2.2.1 a.2.2.2.2.2.2.2.1.2.2.2.2.2.2.1 a.2.2.2.2.2.2.2.2.1 a.2.2.1.1 a.2.2.1.2.1 a.2.2.1.2.2.1 a.2.2.1.2.2.2.1 a.2.2.1.2.2.2.2.1) (
some ((d,(),(),(),(),(),((),(),(),(),()),()),(e,f,g,h,LV,i,j,()),(k,()),(l,m,Ev,n,o,p,q,()),((),()),r,((),()),((),s,t,u,v,w,x,()),y,(z,A,B,C,D,()),()))
noncomputable def ar9(F:Nat):aQ aG:=(ar8 F).gd 45 2 F ⟨[3,4,5,7,10,12,15,16,17,18],[.p (.i .i64),.p (.l 3),.p (.B 0),.p (.B 1),.p (.B 2),.p (.B 3),.p (.B 5),.p (.B 6),.f 73 [.B 0,.B 8,.B 5,.B 6],.p (.i .i64)],[eU,.c 22 [.l 3],eU,.c 22 [.R 4],.r 3 true,.c 110 [.F 72 [1,3]],GY,.r 3 true,j_],[⟨.nm,[4,7,10,12,15,16,17],[.p (.l 3),.p (.B 1),.p (.B 2),.p (.B 3),.p (.B 5),.p (.B 6),.f 73 [.B 0,.B 8,.B 5,.B 6]],[eU,.c 22 [.l 3],eU,.c 22 [.R 4],.r 3 true,.c 110 [.F 72 [1,3]],GY,.r 3 true,j_]⟩],λ k d=>Tm F k d.1.1 d.1.2.1 d.1.2.2.2.2.2.2.2.2.2.1 d.2.1.1 d.2.1.2.1 d.2.1.2.2.1 d.2.1.2.2.2.1 d.2.1.2.2.2.2.1 d.2.1.2.2.2.2.2.1 d.2.1.2.2.2.2.2.2.1 d.2.2.1.1 d.2.2.2.1.1 d.2.2.2.1.2.1 d.2.2.2.1.2.2.1 d.2.2.2.1.2.2.2.1 d.2.2.2.1.2.2.2.2.1 d.2.2.2.1.2.2.2.2.2.1 d.2.2.2.1.2.2.2.2.2.2.1 d.2.2.2.2.2.1 d.2.2.2.2.2.2.2.1.2.1 d.2.2.2.2.2.2.2.1.2.2.1 d.2.2.2.2.2.2.2.1.2.2.2.1 d.2.2.2.2.2.2.2.1.2.2.2.2.1 d.2.2.2.2.2.2.2.1.2.2.2.2.2.1 d.2.2.2.2.2.2.2.1.2.2.2.2.2.2.1 d.2.2.2.2.2.2.2.2.1 d.2.2.2.2.2.2.2.2.2.1.1 d.2.2.2.2.2.2.2.2.2.1.2.1 d.2.2.2.2.2.2.2.2.2.1.2.2.1 d.2.2.2.2.2.2.2.2.2.1.2.2.2.1 d.2.2.2.2.2.2.2.2.2.1.2.2.2.2.1⟩ ⟨λ d=>by kernel_rfl,λ k da db=>by kernel_rfl⟩
def Tn(F:Nat):Nat->(List Int)->(Int)->(List Int)->(List Int)->(Int)->(Int)->(Int)->(Int)->(List Int)->(Int)->(List Int)->(Int)->(Int)->(Int)->(Int)->(List Int)->(Int)->(List Int)->(List Int)->(Int)->(Int)->(Int)->(Int)->(List Int)->(Int)->(List ap)->(List Int)->(List (List I.Field))->(List (List (List UInt8)))->(List (List I.Target))->Option ((List Int×Unit×Unit×Unit×Unit)×
 (List Int×Unit)×
  ki×
   (Unit×Unit)×
    List Int×
     (Unit×Unit)×
      ada×
       List Int×ki×Bv×Unit)
 |0,_,_,_,_,_,_,_,_,_,_,_,_,_,_,_,_,_,_,_,_,_,_,_,_,_,_,_,_,_,_=>none
 |aR+1,w,r,s,x,y,z,A,B,C,D,t,E,G,H,b,c,d,e,f,g,h,i,j,k,l,m,n,o,p,q=>
  cond (decide (r<(↑s.length:Int))) ((idx s r).bind λ u=>
(idx t r).bind λ v=>
(Tk F u v f g h i j k l m n o p q s t E G H b c d e).bind λ a=>
Tn F aR w (ax (r+1)) a.2.2.2.2.1.1 x y z A B C D a.2.2.2.2.2.2.1 a.2.2.2.2.2.2.2.1.2.1 a.2.2.2.2.2.2.2.1.2.2.1 a.2.2.2.2.2.2.2.1.2.2.2.1 a.2.2.2.2.2.2.2.1.2.2.2.2.1 a.2.2.2.2.2.2.2.1.2.2.2.2.2.1 a.2.2.2.2.2.2.2.1.2.2.2.2.2.2.1 a.2.2.2.2.2.2.2.2.1 a.2.1.1 a.2.1.2.1 a.2.1.2.2.1 a.2.1.2.2.2.1 a.2.1.2.2.2.2.1 a.2.1.2.2.2.2.2.1 a.2.1.2.2.2.2.2.2.1 a.2.2.1.1 a.2.2.1.2.1 a.2.2.1.2.2.1 a.2.2.1.2.2.2.1 a.2.2.1.2.2.2.2.1) (
some ((w,(),(),(),()),(s,()),(x,y,z,A,B,C,D,()),((),()),t,((),()),((),E,G,H,b,c,d,()),e,(f,g,h,i,j,k,l,()),(m,n,o,p,q,()),()))
noncomputable def ar_(F:Nat):aQ aG:=(ar9 F).gd 45 4 F ⟨[4,7,10,12,15,16,17,19],[.p (.l 3),.p (.B 0),.p (.B 1),.p (.B 2),.p (.B 4),.p (.B 5),.f 73 [.B 7,.B 8,.B 4,.B 5],.p (.i .i64)],[.c 22 [.l 3],eU,.c 22 [.R 3],.r 3 true,.c 110 [.F 72 [0,2]],P1,.r 3 true,eU,j_],[⟨.nm,[4,10,15,16],[.p (.l 3),.p (.B 1),.p (.B 4),.p (.B 5)],[.c 22 [.l 3],eU,.c 22 [.R 3],.r 3 true,.c 110 [.F 72 [0,2]],P1,.r 3 true,eU,j_]⟩],λ k d=>Tn F k d.1.1 d.1.2.2.2.2.2.2.2.1 d.2.1.1 d.2.2.1.1 d.2.2.1.2.1 d.2.2.1.2.2.1 d.2.2.1.2.2.2.1 d.2.2.1.2.2.2.2.1 d.2.2.1.2.2.2.2.2.1 d.2.2.1.2.2.2.2.2.2.1 d.2.2.2.2.1 d.2.2.2.2.2.2.1.2.1 d.2.2.2.2.2.2.1.2.2.1 d.2.2.2.2.2.2.1.2.2.2.1 d.2.2.2.2.2.2.1.2.2.2.2.1 d.2.2.2.2.2.2.1.2.2.2.2.2.1 d.2.2.2.2.2.2.1.2.2.2.2.2.2.1 d.2.2.2.2.2.2.2.1 d.2.2.2.2.2.2.2.2.1.1 d.2.2.2.2.2.2.2.2.1.2.1 d.2.2.2.2.2.2.2.2.1.2.2.1 d.2.2.2.2.2.2.2.2.1.2.2.2.1 d.2.2.2.2.2.2.2.2.1.2.2.2.2.1 d.2.2.2.2.2.2.2.2.1.2.2.2.2.2.1 d.2.2.2.2.2.2.2.2.1.2.2.2.2.2.2.1 d.2.2.2.2.2.2.2.2.2.1.1 d.2.2.2.2.2.2.2.2.2.1.2.1 d.2.2.2.2.2.2.2.2.2.1.2.2.1 d.2.2.2.2.2.2.2.2.2.1.2.2.2.1 d.2.2.2.2.2.2.2.2.2.1.2.2.2.2.1⟩ ⟨λ d=>by kernel_rfl,λ k da db=>by kernel_rfl⟩
def Tp(F:Nat):Nat->(List Int)->(Int)->(List Int)->(Int)->(Int)->(Int)->(Int)->(List Int)->(Int)->(List Int)->(List Int)->(Int)->(Int)->(Int)->(Int)->(List Int)->(Int)->(List Int)->(List Int)->Option ((Unit×Unit×Unit×Unit)×ki×(Unit×Unit)×(List Int×Unit)×(Unit×Unit)×List Int×ada×List Int×List Int×Unit)
 |0,_,_,_,_,_,_,_,_,_,_,_,_,_,_,_,_,_,_,_=>none
 |aR+1,a,b,d,e,f,g,h,i,j,k,l,m,n,o,p,q,r,s,t=>
  cond (decide (b<(↑a.length:Int))) ((idx a b).bind λ u=>
(Tj F u k l).bind λ c=>
(bI 8 t [c.1.1]).bind λ v=>
Tp F aR a (ax (b+1)) d e f g h i j c.2.1.1 c.2.2.2.1 m n o p q r s v) (
some (((),(),(),()),(d,e,f,g,h,i,j,()),((),()),(k,()),((),()),l,((),m,n,o,p,q,r,()),s,t,()))
noncomputable def ar'(F:Nat):aQ aG:=(ar_ F).gd 45 6 F ⟨[4,10,15,16,20,21],[.p (.l 3),.p (.B 0),.p (.B 1),.p (.B 5),.p (.R 7),.p (.i .i64)],[eU,.c 110 [.F 72 [2,3]],.c 22 [.l 3],.c 22 [.R 4],.r 3 true,P1,.r 3 true,.r 3 false],[⟨.nm,[10,16,20],[.p (.B 0),.p (.B 5),.p (.R 7)],[eU,.c 110 [.F 72 [2,3]],.c 22 [.l 3],.c 22 [.R 4],.r 3 true,P1,.r 3 true,.r 3 false]⟩],λ k d=>Tp F k d.1.1 d.1.2.2.2.2.2.1 d.2.1.1 d.2.1.2.1 d.2.1.2.2.1 d.2.1.2.2.2.1 d.2.1.2.2.2.2.1 d.2.1.2.2.2.2.2.1 d.2.1.2.2.2.2.2.2.1 d.2.2.2.1.1 d.2.2.2.2.2.1 d.2.2.2.2.2.2.1.2.1 d.2.2.2.2.2.2.1.2.2.1 d.2.2.2.2.2.2.1.2.2.2.1 d.2.2.2.2.2.2.1.2.2.2.2.1 d.2.2.2.2.2.2.1.2.2.2.2.2.1 d.2.2.2.2.2.2.1.2.2.2.2.2.2.1 d.2.2.2.2.2.2.2.1 d.2.2.2.2.2.2.2.2.1⟩ ⟨λ d=>by kernel_rfl,λ k da db=>by kernel_rfl⟩
def adO(F:Nat)(f:List Int)(g:Int)(h:Int)(i:Int)(j:Int)(k:List Int)(l:Int)(m:List ap)(n:List Int)(o:List (List I.Field))(p:List (List (List UInt8)))(q:List (List I.Target))(r:List Int)(e:Int)(s:List Int):Option ((ki×List Int×Unit)×Unit):=
 (Tl F F e s e 0 f g h i j k l m n o p q r [] 0 0 0 0 [] 0 []).bind λ a=>
(zU 0 8 (↑(jb a.2.1.1):Int)).bind λ t=>
(Tm F F a.1.1 a.1.2.1 (ax (a.2.1.2.1+1)) a.2.1.1 a.2.1.2.1 a.2.1.2.2.1 a.2.1.2.2.2.1 a.2.1.2.2.2.2.1
 a.2.1.2.2.2.2.2.1 a.2.1.2.2.2.2.2.2.1 a.2.2.2.1.1 a.2.2.2.2.1.1 a.2.2.2.2.1.2.1 a.2.2.2.2.1.2.2.1
 a.2.2.2.2.1.2.2.2.1 a.2.2.2.2.1.2.2.2.2.1 a.2.2.2.2.1.2.2.2.2.2.1 a.2.2.2.2.1.2.2.2.2.2.2.1 a.2.2.2.2.2.2.1
 a.2.1.2.1 a.2.1.2.2.1 1 a.1.2.2.2.2.2.2.2.1 [] a.2.1.2.2.2.2.2.2.1 t a.2.2.1.1 a.2.2.1.2.1 a.2.2.1.2.2.1
 a.2.2.1.2.2.2.1 a.2.2.1.2.2.2.2.1).bind λ b=>
(Tn F F b.1.1 0 b.2.2.1.1 b.2.2.2.1.1 b.2.2.2.1.2.1 b.2.2.2.1.2.2.1 b.2.2.2.1.2.2.2.1 b.2.2.2.1.2.2.2.2.1
 b.2.2.2.1.2.2.2.2.2.1 b.2.2.2.1.2.2.2.2.2.2.1 b.2.2.2.2.2.1 b.2.2.2.2.2.2.2.1.2.1 b.2.2.2.2.2.2.2.1.2.2.1
 b.2.2.2.2.2.2.2.1.2.2.2.1 b.2.2.2.2.2.2.2.1.2.2.2.2.1 b.2.2.2.2.2.2.2.1.2.2.2.2.2.1 b.2.2.2.2.2.2.2.1.2.2.2.2.2.2.1
 b.2.2.2.2.2.2.2.2.1 b.2.1.1 b.2.1.2.1 b.2.1.2.2.1 b.2.1.2.2.2.1 b.2.1.2.2.2.2.1 b.2.1.2.2.2.2.2.1
 b.2.1.2.2.2.2.2.2.1 b.2.2.2.2.2.2.2.2.2.1.1 b.2.2.2.2.2.2.2.2.2.1.2.1 b.2.2.2.2.2.2.2.2.2.1.2.2.1
 b.2.2.2.2.2.2.2.2.2.1.2.2.2.1 b.2.2.2.2.2.2.2.2.2.1.2.2.2.2.1).bind λ c=>
(Tp F F c.1.1 0 c.2.2.1.1 c.2.2.1.2.1 c.2.2.1.2.2.1 c.2.2.1.2.2.2.1 c.2.2.1.2.2.2.2.1 c.2.2.1.2.2.2.2.2.1
 c.2.2.1.2.2.2.2.2.2.1 c.2.1.1 c.2.2.2.2.1 c.2.2.2.2.2.2.1.2.1 c.2.2.2.2.2.2.1.2.2.1 c.2.2.2.2.2.2.1.2.2.2.1
 c.2.2.2.2.2.2.1.2.2.2.2.1 c.2.2.2.2.2.2.1.2.2.2.2.2.1 c.2.2.2.2.2.2.1.2.2.2.2.2.2.1 c.2.2.2.2.2.2.2.1 []).bind λ d=>
some (((d.2.2.2.2.2.2.2.1,d.2.2.2.2.2.2.1.2.1,d.2.2.2.2.2.2.1.2.2.1,d.2.2.2.2.2.2.1.2.2.2.1,d.2.2.2.2.2.2.1.2.2.2.2.1,d.2.2.2.2.2.2.1.2.2.2.2.2.1,d.2.2.2.2.2.2.1.2.2.2.2.2.2.1,()),d.2.2.2.2.2.2.2.2.1,()),())
noncomputable def asa(F:Nat):aQ aG:=(ar' F).fn 45 ⟨[KP,Y1,.p (.l 3),.p (.i .i64),.p (.l 3)],[],[KP,.p (.l 3)],[],λ d=>adO F d.1.1.1 d.1.1.2.1 d.1.1.2.2.1 d.1.1.2.2.2.1 d.1.1.2.2.2.2.1 d.1.1.2.2.2.2.2.1 d.1.1.2.2.2.2.2.2.1 d.1.2.1.1 d.1.2.1.2.1 d.1.2.1.2.2.1 d.1.2.1.2.2.2.1 d.1.2.1.2.2.2.2.1 d.1.2.2.1 d.1.2.2.2.1 d.1.2.2.2.2.1⟩ λ da db=>by kernel_rfl
def Im(F:Nat)(g:Int)(a:List Int)(h:Int)(b:Int)(c:Int)(d:Int)(e:List Int)(f:Int)(i:List Int):Option (Unit×ki×(Unit×Unit)×List Int×Unit):=
 cond (decide (1<=g)&&decide (g<=h)) ((lk F i g).bind λ j=>
cond (!j) ((bI 8 i [g]).bind λ k=>
some ((),(a,h,b,c,d,e,f,()),((),()),k,())) (
some ((),(a,h,b,c,d,e,f,()),((),()),i,()))) (
some ((),(a,h,b,c,d,e,f,()),((),()),i,()))
noncomputable def asb(F:Nat):aQ aG:=(asa F).fn 41 ⟨[.p (.i .i64),.p (.B 0),.p (.B 1)],[eU,.c 22 [.R 2],.r 3 false],[],[eU,.c 22 [.R 2],.r 3 false],λ d=>Im F d.1.1 d.2.1.1 d.2.1.2.1 d.2.1.2.2.1 d.2.1.2.2.2.1 d.2.1.2.2.2.2.1 d.2.1.2.2.2.2.2.1 d.2.1.2.2.2.2.2.2.1 d.2.2.2.1⟩ λ da db=>by kernel_rfl
def Tb(F:Nat):Nat->(List Int)->(Int)->(List Int)->(Int)->(Int)->(Int)->(Int)->(List Int)->(Int)->(List ap)->(List Int)->(List (List I.Field))->(List (List (List UInt8)))->(List (List I.Target))->(List Int)->(Int)->(Int)->(Int)->(Int)->(List Int)->(Int)->(List Int)->Option (apL×
 ki×
  Bv×ki×(Unit×Unit)×List Int×Unit)
 |0,_,_,_,_,_,_,_,_,_,_,_,_,_,_,_,_,_,_,_,_,_,_=>none
 |aR+1,w,b,c,d,e,f,g,h,i,j,k,l,m,n,o,p,q,r,s,t,u,v=>
  cond (decide (b<(↑w.length:Int))) ((idx w b).bind λ x=>
(Im F x c d e f g h i v).bind λ a=>
Tb F aR w (ax (b+1)) a.2.1.1 a.2.1.2.1 a.2.1.2.2.1 a.2.1.2.2.2.1 a.2.1.2.2.2.2.1 a.2.1.2.2.2.2.2.1 a.2.1.2.2.2.2.2.2.1 j k l m n o p q r s t u a.2.2.2.1) (
some ((w,(),(),(),(),((),(),()),()),(c,d,e,f,g,h,i,()),(j,k,l,m,n,()),(o,p,q,r,s,t,u,()),((),()),v,()))
noncomputable def asc(F:Nat):aQ aG:=(asb F).gd 15 0 F ⟨[2,3,4,6,8,9,10],[.p (.l 3),.p (.B 0),.p (.B 1),.p (.B 2),.p (.B 3),.f 41 [.B 0,.B 3],.p (.i .i64)],[eU,j_,eU,.c 22 [.R 4],.r 3 false],[⟨.nm,[2,3,4,6,8,9],[.p (.l 3),.p (.B 0),.p (.B 1),.p (.B 2),.p (.B 3),.f 41 [.B 0,.B 3]],[eU,j_,eU,.c 22 [.R 4],.r 3 false]⟩],λ k d=>Tb F k d.1.1 d.1.2.2.2.2.2.2.1 d.2.1.1 d.2.1.2.1 d.2.1.2.2.1 d.2.1.2.2.2.1 d.2.1.2.2.2.2.1 d.2.1.2.2.2.2.2.1 d.2.1.2.2.2.2.2.2.1 d.2.2.1.1 d.2.2.1.2.1 d.2.2.1.2.2.1 d.2.2.1.2.2.2.1 d.2.2.1.2.2.2.2.1 d.2.2.2.1.1 d.2.2.2.1.2.1 d.2.2.2.1.2.2.1 d.2.2.2.1.2.2.2.1 d.2.2.2.1.2.2.2.2.1 d.2.2.2.1.2.2.2.2.2.1 d.2.2.2.1.2.2.2.2.2.2.1 d.2.2.2.2.2.1⟩ ⟨λ d=>by kernel_rfl,λ k da db=>by kernel_rfl⟩
def Td(F:Nat):Nat->(List Int)->(Int)->(List Int)->(Int)->(List Int)->(Int)->(Int)->(Int)->(Int)->(List Int)->(Int)->(List ap)->(List Int)->(List (List I.Field))->(List (List (List UInt8)))->(List (List I.Target))->(List Int)->(Int)->(Int)->(Int)->(Int)->(List Int)->(Int)->(List Int)->Option (apK×
 ki×
  Bv×ki×(Unit×Unit)×List Int×Unit)
 |0,_,_,_,_,_,_,_,_,_,_,_,_,_,_,_,_,_,_,_,_,_,_,_,_=>none
 |aR+1,e,f,b,c,d,g,h,i,j,k,l,m,n,o,p,q,r,s,t,u,v,w,x,y=>
  cond (decide (c<(↑b.length:Int))) ((idx b c).bind λ z=>
(idx d z).bind λ A=>
(Im F A d g h i j k l y).bind λ a=>
Td F aR e f b (ax (c+1)) a.2.1.1 a.2.1.2.1 a.2.1.2.2.1 a.2.1.2.2.2.1 a.2.1.2.2.2.2.1 a.2.1.2.2.2.2.2.1 a.2.1.2.2.2.2.2.2.1 m n o p q r s t u v w x a.2.2.2.1) (
some ((e,(),(),(),(),((),(),()),f,()),(d,g,h,i,j,k,l,()),(m,n,o,p,q,()),(r,s,t,u,v,w,x,()),((),()),y,()))
noncomputable def ase(F:Nat):aQ aG:=(asc F).gd 15 4 F ⟨[2,3,4,6,8,9,11,12,13],[.p (.l 3),.p (.B 0),.p (.B 1),.p (.B 2),.p (.B 3),.f 41 [.B 0,.B 3],.p (.i .i64),.p (.l 3),.p (.i .i64)],[eU,j_,eU,.c 22 [.R 4],.r 3 false],[⟨.nm,[2,3,4,6,8,9,11],[.p (.l 3),.p (.B 0),.p (.B 1),.p (.B 2),.p (.B 3),.f 41 [.B 0,.B 3],.p (.i .i64)],[eU,j_,eU,.c 22 [.R 4],.r 3 false]⟩],λ k d=>Td F k d.1.1 d.1.2.2.2.2.2.2.1 d.1.2.2.2.2.2.2.2.1 d.1.2.2.2.2.2.2.2.2.1 d.2.1.1 d.2.1.2.1 d.2.1.2.2.1 d.2.1.2.2.2.1 d.2.1.2.2.2.2.1 d.2.1.2.2.2.2.2.1 d.2.1.2.2.2.2.2.2.1 d.2.2.1.1 d.2.2.1.2.1 d.2.2.1.2.2.1 d.2.2.1.2.2.2.1 d.2.2.1.2.2.2.2.1 d.2.2.2.1.1 d.2.2.2.1.2.1 d.2.2.2.1.2.2.1 d.2.2.2.1.2.2.2.1 d.2.2.2.1.2.2.2.2.1 d.2.2.2.1.2.2.2.2.2.1 d.2.2.2.1.2.2.2.2.2.2.1 d.2.2.2.2.2.1⟩ ⟨λ d=>by kernel_rfl,λ k da db=>by kernel_rfl⟩
def Tc(F:Nat):Nat->(List Int)->(Int)->(List Int)->(Int)->(Int)->(Int)->(Int)->(List Int)->(Int)->(List ap)->(List Int)->(List (List I.Field))->(List (List (List UInt8)))->(List (List I.Target))->(List Int)->(Int)->(Int)->(Int)->(Int)->(List Int)->(Int)->(List Int)->Option (apL×
 ki×
  Bv×ki×(Unit×Unit)×List Int×Unit)
 |0,_,_,_,_,_,_,_,_,_,_,_,_,_,_,_,_,_,_,_,_,_,_=>none
 |aR+1,n,b,c,d,e,f,g,o,h,i,j,k,l,m,p,q,r,s,t,u,v,w=>
  cond (decide (b<(↑o.length:Int))) ((idx o b).bind λ x=>
(pa F (aV.mk c d e f g o h) (aO.mk i j k l m) x).bind λ y=>
(Td F F n b y 0 c d e f g o h i j k l m p q r s t u v w).bind λ a=>
Tc F aR a.1.1 (ax (a.1.2.2.2.2.2.2.1+1)) a.2.1.1 a.2.1.2.1 a.2.1.2.2.1 a.2.1.2.2.2.1 a.2.1.2.2.2.2.1 a.2.1.2.2.2.2.2.1 a.2.1.2.2.2.2.2.2.1 a.2.2.1.1 a.2.2.1.2.1 a.2.2.1.2.2.1 a.2.2.1.2.2.2.1 a.2.2.1.2.2.2.2.1 a.2.2.2.1.1 a.2.2.2.1.2.1 a.2.2.2.1.2.2.1 a.2.2.2.1.2.2.2.1 a.2.2.2.1.2.2.2.2.1 a.2.2.2.1.2.2.2.2.2.1 a.2.2.2.1.2.2.2.2.2.2.1 a.2.2.2.2.2.1) (
some ((n,(),(),(),(),((),(),()),()),(c,d,e,f,g,o,h,()),(i,j,k,l,m,()),(p,q,r,s,t,u,v,()),((),()),w,()))
noncomputable def asf(F:Nat):aQ aG:=(ase F).gd 15 2 F ⟨[2,3,4,6,8,9,11],[.p (.l 3),.p (.B 0),.p (.B 1),.p (.B 2),.p (.B 3),.f 41 [.B 0,.B 3],.p (.i .i64)],[eU,j_,eU,.c 22 [.R 4],.r 3 false],[⟨.nm,[2,3,4,6,8,9],[.p (.l 3),.p (.B 0),.p (.B 1),.p (.B 2),.p (.B 3),.f 41 [.B 0,.B 3]],[eU,j_,eU,.c 22 [.R 4],.r 3 false]⟩],λ k d=>Tc F k d.1.1 d.1.2.2.2.2.2.2.1 d.2.1.1 d.2.1.2.1 d.2.1.2.2.1 d.2.1.2.2.2.1 d.2.1.2.2.2.2.1 d.2.1.2.2.2.2.2.1 d.2.1.2.2.2.2.2.2.1 d.2.2.1.1 d.2.2.1.2.1 d.2.2.1.2.2.1 d.2.2.1.2.2.2.1 d.2.2.1.2.2.2.2.1 d.2.2.2.1.1 d.2.2.2.1.2.1 d.2.2.2.1.2.2.1 d.2.2.2.1.2.2.2.1 d.2.2.2.1.2.2.2.2.1 d.2.2.2.1.2.2.2.2.2.1 d.2.2.2.1.2.2.2.2.2.2.1 d.2.2.2.2.2.1⟩ ⟨λ d=>by kernel_rfl,λ k da db=>by kernel_rfl⟩
def Tg(F:Nat):Nat->(List Int)->(Int)->(List Int)->(Int)->(List Int)->(Int)->(Int)->(Int)->(Int)->(List Int)->(Int)->(List ap)->(List Int)->(List (List I.Field))->(List (List (List UInt8)))->(List (List I.Target))->(List Int)->(Int)->(Int)->(Int)->(Int)->(List Int)->(Int)->(List Int)->Option (apK×
 ki×
  Bv×ki×(Unit×Unit)×List Int×Unit)
 |0,_,_,_,_,_,_,_,_,_,_,_,_,_,_,_,_,_,_,_,_,_,_,_,_=>none
 |aR+1,e,f,b,c,d,g,h,i,j,k,l,m,n,o,p,q,r,s,t,u,v,w,x,y=>
  cond (decide (c<(↑b.length:Int))) ((idx b c).bind λ z=>
(idx d z).bind λ A=>
(Im F A d g h i j k l y).bind λ a=>
Tg F aR e f b (ax (c+1)) a.2.1.1 a.2.1.2.1 a.2.1.2.2.1 a.2.1.2.2.2.1 a.2.1.2.2.2.2.1 a.2.1.2.2.2.2.2.1 a.2.1.2.2.2.2.2.2.1 m n o p q r s t u v w x a.2.2.2.1) (
some ((e,(),(),(),(),((),(),()),f,()),(d,g,h,i,j,k,l,()),(m,n,o,p,q,()),(r,s,t,u,v,w,x,()),((),()),y,()))
noncomputable def asg(F:Nat):aQ aG:=(asf F).gd 15 8 F ⟨[2,3,4,6,8,9,14,15,16],[.p (.l 3),.p (.B 0),.p (.B 1),.p (.B 2),.p (.B 3),.f 41 [.B 0,.B 3],.p (.i .i64),.p (.l 3),.p (.i .i64)],[eU,j_,eU,.c 22 [.R 4],.r 3 false],[⟨.nm,[2,3,4,6,8,9,14],[.p (.l 3),.p (.B 0),.p (.B 1),.p (.B 2),.p (.B 3),.f 41 [.B 0,.B 3],.p (.i .i64)],[eU,j_,eU,.c 22 [.R 4],.r 3 false]⟩],λ k d=>Tg F k d.1.1 d.1.2.2.2.2.2.2.1 d.1.2.2.2.2.2.2.2.1 d.1.2.2.2.2.2.2.2.2.1 d.2.1.1 d.2.1.2.1 d.2.1.2.2.1 d.2.1.2.2.2.1 d.2.1.2.2.2.2.1 d.2.1.2.2.2.2.2.1 d.2.1.2.2.2.2.2.2.1 d.2.2.1.1 d.2.2.1.2.1 d.2.2.1.2.2.1 d.2.2.1.2.2.2.1 d.2.2.1.2.2.2.2.1 d.2.2.2.1.1 d.2.2.2.1.2.1 d.2.2.2.1.2.2.1 d.2.2.2.1.2.2.2.1 d.2.2.2.1.2.2.2.2.1 d.2.2.2.1.2.2.2.2.2.1 d.2.2.2.1.2.2.2.2.2.2.1 d.2.2.2.2.2.1⟩ ⟨λ d=>by kernel_rfl,λ k da db=>by kernel_rfl⟩
def Tf(F:Nat):Nat->(List Int)->(Int)->(List Int)->(Int)->(Int)->(Int)->(Int)->(List Int)->(Int)->(List ap)->(List Int)->(List (List I.Field))->(List (List (List UInt8)))->(List (List I.Target))->(List Int)->(Int)->(Int)->(Int)->(Int)->(List Int)->(Int)->(List Int)->Option ((List Int×Unit×Unit×Unit×Unit×Unit)×
 ki×
  Bv×ki×(Unit×Unit)×List Int×Unit)
 |0,_,_,_,_,_,_,_,_,_,_,_,_,_,_,_,_,_,_,_,_,_,_=>none
 |aR+1,o,b,c,d,e,f,g,h,i,j,k,l,m,n,p,q,r,s,t,u,v,w=>
  cond (decide (b<(↑w.length:Int))) ((idx w b).bind λ x=>
(pa F (aV.mk c d e f g h i) (aO.mk j k l m n) x).bind λ y=>
(Tg F F o b y 0 c d e f g h i j k l m n p q r s t u v w).bind λ a=>
Tf F aR a.1.1 (ax (a.1.2.2.2.2.2.2.1+1)) a.2.1.1 a.2.1.2.1 a.2.1.2.2.1 a.2.1.2.2.2.1 a.2.1.2.2.2.2.1 a.2.1.2.2.2.2.2.1 a.2.1.2.2.2.2.2.2.1 a.2.2.1.1 a.2.2.1.2.1 a.2.2.1.2.2.1 a.2.2.1.2.2.2.1 a.2.2.1.2.2.2.2.1 a.2.2.2.1.1 a.2.2.2.1.2.1 a.2.2.2.1.2.2.1 a.2.2.2.1.2.2.2.1 a.2.2.2.1.2.2.2.2.1 a.2.2.2.1.2.2.2.2.2.1 a.2.2.2.1.2.2.2.2.2.2.1 a.2.2.2.2.2.1) (
some ((o,(),(),(),(),()),(c,d,e,f,g,h,i,()),(j,k,l,m,n,()),(p,q,r,s,t,u,v,()),((),()),w,()))
noncomputable def ash(F:Nat):aQ aG:=(asg F).gd 15 6 F ⟨[2,3,4,6,8,9,14],[.p (.l 3),.p (.B 0),.p (.B 1),.p (.B 2),.p (.B 3),.f 41 [.B 0,.B 3],.p (.i .i64)],[eU,j_,eU,.c 22 [.R 4],.r 3 false],[⟨.nm,[2,3,4,6,8],[.p (.l 3),.p (.B 0),.p (.B 1),.p (.B 2),.p (.B 3)],[eU,j_,eU,.c 22 [.R 4],.r 3 false]⟩],λ k d=>Tf F k d.1.1 d.1.2.2.2.2.2.2.1 d.2.1.1 d.2.1.2.1 d.2.1.2.2.1 d.2.1.2.2.2.1 d.2.1.2.2.2.2.1 d.2.1.2.2.2.2.2.1 d.2.1.2.2.2.2.2.2.1 d.2.2.1.1 d.2.2.1.2.1 d.2.2.1.2.2.1 d.2.2.1.2.2.2.1 d.2.2.1.2.2.2.2.1 d.2.2.2.1.1 d.2.2.2.1.2.1 d.2.2.2.1.2.2.1 d.2.2.2.1.2.2.2.1 d.2.2.2.1.2.2.2.2.1 d.2.2.2.1.2.2.2.2.2.1 d.2.2.2.1.2.2.2.2.2.2.1 d.2.2.2.2.2.1⟩ ⟨λ d=>by kernel_rfl,λ k da db=>by kernel_rfl⟩
def Ta(F:Nat)(e:List Int)(f:Int)(g:Int)(h:Int)(i:Int)(j:List Int)(k:Int)(l:List ap)(m:List Int)(n:List (List I.Field))(o:List (List (List UInt8)))(p:List (List I.Target))(q:List Int):Option ((ki×List Int×Unit)×Unit):=
 (Tb F F q 0 e f g h i j k l m n o p [] 0 0 0 0 [] 0 []).bind λ a=>
(Tc F F a.1.1 0 a.2.1.1 a.2.1.2.1 a.2.1.2.2.1 a.2.1.2.2.2.1 a.2.1.2.2.2.2.1 a.2.1.2.2.2.2.2.1
 a.2.1.2.2.2.2.2.2.1 a.2.2.1.1 a.2.2.1.2.1 a.2.2.1.2.2.1 a.2.2.1.2.2.2.1 a.2.2.1.2.2.2.2.1 a.2.2.2.1.1
 a.2.2.2.1.2.1 a.2.2.2.1.2.2.1 a.2.2.2.1.2.2.2.1 a.2.2.2.1.2.2.2.2.1 a.2.2.2.1.2.2.2.2.2.1
 a.2.2.2.1.2.2.2.2.2.2.1 a.2.2.2.2.2.1).bind λ b=>
(Tf F F b.1.1 0 b.2.1.1 b.2.1.2.1 b.2.1.2.2.1 b.2.1.2.2.2.1 b.2.1.2.2.2.2.1 b.2.1.2.2.2.2.2.1
 b.2.1.2.2.2.2.2.2.1 b.2.2.1.1 b.2.2.1.2.1 b.2.2.1.2.2.1 b.2.2.1.2.2.2.1 b.2.2.1.2.2.2.2.1 b.2.2.2.1.1
 b.2.2.2.1.2.1 b.2.2.2.1.2.2.1 b.2.2.2.1.2.2.2.1 b.2.2.2.1.2.2.2.2.1 b.2.2.2.1.2.2.2.2.2.1
 b.2.2.2.1.2.2.2.2.2.2.1 b.2.2.2.2.2.1).bind λ c=>
(adO F c.2.1.1 c.2.1.2.1 c.2.1.2.2.1 c.2.1.2.2.2.1 c.2.1.2.2.2.2.1 c.2.1.2.2.2.2.2.1 c.2.1.2.2.2.2.2.2.1
 c.2.2.1.1 c.2.2.1.2.1 c.2.2.1.2.2.1 c.2.2.1.2.2.2.1 c.2.2.1.2.2.2.2.1 c.2.2.2.2.2.1 c.2.1.2.2.2.2.1 c.1.1).bind λ d=>
some (((d.1.1.1,d.1.1.2.1,d.1.1.2.2.1,d.1.1.2.2.2.1,d.1.1.2.2.2.2.1,d.1.1.2.2.2.2.2.1,d.1.1.2.2.2.2.2.2.1,()),d.1.2.1,()),())
noncomputable def asi(F:Nat):aQ aG:=(ash F).fn 15 ⟨[KP,Y1,.p (.l 3)],[],[KP,.p (.l 3)],[],λ d=>Ta F d.1.1.1 d.1.1.2.1 d.1.1.2.2.1 d.1.1.2.2.2.1 d.1.1.2.2.2.2.1 d.1.1.2.2.2.2.2.1 d.1.1.2.2.2.2.2.2.1 d.1.2.1.1 d.1.2.1.2.1 d.1.2.1.2.2.1 d.1.2.1.2.2.2.1 d.1.2.1.2.2.2.2.1 d.1.2.2.1⟩ λ da db=>by kernel_rfl
def at3(F:Nat)(i:List Int)(e:Int)(f:Int)(g:Int)(h:Int)(j:List Int)(k:Int)(l:List ap)(m:List Int)(n:List (List I.Field))(o:List (List (List UInt8)))(p:List (List I.Target))(Rq:List Int):Option ((Bool×Unit)×Unit):=
 (qk F i e f g h j k l m n o p Rq).bind λ a=>
(S8 F (aV.mk i e f g h j k) (aO.mk l m n o p) Rq).bind λ d=>
cond (decide (d=0)) (cond (decide (ax (ax (ax (ax (ax (e+f)+1)-h)-g)+1)<0)) ((BF F (aV.mk a.1.1.1 a.1.1.2.1 a.1.1.2.2.1 a.1.1.2.2.2.1 a.1.1.2.2.2.2.1 a.1.1.2.2.2.2.2.1 a.1.1.2.2.2.2.2.2.1)
 a.1.2.2.1 8 (aV.mk [] 0 0 0 0 [] 0)).bind λ q=>
cond q ((pb F a.1.2.1 []).bind λ r=>
some ((r,()),())) (
some ((false,()),()))) (
cond (decide (d=0)) ((Ta F i e f g h j k l m n o p Rq).bind λ b=>
(BF F (aV.mk a.1.1.1 a.1.1.2.1 a.1.1.2.2.1 a.1.1.2.2.2.1 a.1.1.2.2.2.2.1 a.1.1.2.2.2.2.2.1 a.1.1.2.2.2.2.2.2.1)
 a.1.2.2.1 d
 (aV.mk b.1.1.1 b.1.1.2.1 b.1.1.2.2.1 b.1.1.2.2.2.1 b.1.1.2.2.2.2.1 b.1.1.2.2.2.2.2.1 b.1.1.2.2.2.2.2.2.1)).bind λ s=>
cond s ((pb F a.1.2.1 b.1.2.1).bind λ t=>
some ((t,()),())) (
some ((false,()),()))) (
(BF F (aV.mk a.1.1.1 a.1.1.2.1 a.1.1.2.2.1 a.1.1.2.2.2.1 a.1.1.2.2.2.2.1 a.1.1.2.2.2.2.2.1 a.1.1.2.2.2.2.2.2.1)
 a.1.2.2.1 d (aV.mk [] 0 0 0 0 [] 0)).bind λ u=>
cond u ((pb F a.1.2.1 []).bind λ v=>
some ((v,()),())) (
some ((false,()),()))))) (
cond (decide (d=0)) ((Ta F i e f g h j k l m n o p Rq).bind λ c=>
(BF F (aV.mk a.1.1.1 a.1.1.2.1 a.1.1.2.2.1 a.1.1.2.2.2.1 a.1.1.2.2.2.2.1 a.1.1.2.2.2.2.2.1 a.1.1.2.2.2.2.2.2.1)
 a.1.2.2.1 d
 (aV.mk c.1.1.1 c.1.1.2.1 c.1.1.2.2.1 c.1.1.2.2.2.1 c.1.1.2.2.2.2.1 c.1.1.2.2.2.2.2.1 c.1.1.2.2.2.2.2.2.1)).bind λ w=>
cond w ((pb F a.1.2.1 c.1.2.1).bind λ x=>
some ((x,()),())) (
some ((false,()),()))) (
(BF F (aV.mk a.1.1.1 a.1.1.2.1 a.1.1.2.2.1 a.1.1.2.2.2.1 a.1.1.2.2.2.2.1 a.1.1.2.2.2.2.2.1 a.1.1.2.2.2.2.2.2.1)
 a.1.2.2.1 d (aV.mk [] 0 0 0 0 [] 0)).bind λ y=>
cond y ((pb F a.1.2.1 []).bind λ z=>
some ((z,()),())) (
some ((false,()),()))))
@[reducible] noncomputable def aOK(F:Nat):ey bs:=⟨[KP,Y1,.p (.l 3)],[],[.p (.b)],[],λ d=>at3 F d.1.1.1 d.1.1.2.1 d.1.1.2.2.1 d.1.1.2.2.2.1 d.1.1.2.2.2.2.1 d.1.1.2.2.2.2.2.1 d.1.1.2.2.2.2.2.2.1 d.1.2.1.1 d.1.2.1.2.1 d.1.2.1.2.2.1 d.1.2.1.2.2.2.1 d.1.2.1.2.2.2.2.1 d.1.2.2.1⟩
end Go.Proofs.YteeliipnilghaaaGreat
namespace Go.Proofs.YteeliipnilghaaaGreat
open Go Go.RowKit ay I bc
set_option maxRecDepth 100000
@[reducible] def aOT:bK:=.c 24 [.l 3,.i .i64,.i .i64,.i .i64,.i .i64,.l 3,.i .i64]
@[reducible] def aFu:cN:=.a [.l 3,.i .i64,.i .i64,.i .i64,.i .i64,.l 3,.i .i64]
@[reducible] def aOU:bK:=.c 30 [.l 134,.l 3,.l 124,.l 120,.l 121]
@[reducible] def aFv:cN:=.a [.l 134,.l 3,.l 124,.l 120,.l 121]
abbrev ac_:=(List ap×List Int×List (List I.Field)×List (List (List UInt8))×List (List I.Target)×Unit)
abbrev ac':=(List Int×Int×Int×Int×Int×List Int×Int×Unit)
def yy(F:Nat)(b:Int)(a:List Int):Option ((Int×Unit)×(Unit×Unit)×List Int×Unit):=
 cond (decide (b=0)) (some ((0,()),((),()),a,())) (
(B6 F a b).bind λ c=>
cond (decide (c.1.1<0)) ((bI 8 a [b]).bind λ d=>
some (((ax (ax ((↑d.length:Int)-1)+1)),()),((),()),d,())) (
some (((ax (c.1.1+1)),()),((),()),a,())))
def BG(F:Nat):Nat->(List Int)->(Int)->(List Int)->(Int)->(Int)->(Int)->(Int)->(List Int)->(Int)->(List ap)->(List Int)->(List (List I.Field))->(List (List (List UInt8)))->(List (List I.Target))->(List Int)->(List Int)->Option ((Unit×Unit×Unit×Unit×(Unit×Unit)×Unit)×
 ac'×ac_×(Unit×Unit)×List Int×List Int×Unit)
 |0,_,_,_,_,_,_,_,_,_,_,_,_,_,_,_,_=>none
 |aR+1,c,d,f,g,h,i,j,k,l,m,n,o,p,q,r,a=>
  cond (decide (d<(↑c.length:Int))) ((idx c d).bind λ e=>
(yy F e r).bind λ b=>
(bI 8 a [b.1.1]).bind λ s=>
BG F aR c (ax (d+1)) f g h i j k l m n o p q b.2.2.1 s) (
some (((),(),(),(),((),()),()),(f,g,h,i,j,k,l,()),(m,n,o,p,q,()),((),()),r,a,()))
def yz(F:Nat):Nat->(Int)->(Int)->(Int)->(List Int)->(Int)->(Int)->(Int)->(Int)->(List Int)->(Int)->(List ap)->(List Int)->(List (List I.Field))->(List (List (List UInt8)))->(List (List I.Target))->(List Int)->(List Int)->Option ((Unit×Unit×Unit×Unit×(Unit×Unit)×Int×Unit)×
 ac'×ac_×(Unit×Unit)×List Int×List Int×Unit)
 |0,_,_,_,_,_,_,_,_,_,_,_,_,_,_,_,_,_=>none
 |aR+1,i,b,c,a,j,k,l,m,n,o,d,e,f,g,h,p,q=>
  (idx a (ax (b+1))).bind λ t=>
cond (decide (c<t)) ((idx a (ax (ax (b+3)+c))).bind λ r=>
(idx a b).bind λ u=>
(tO (aO.mk d e f g h) u c).bind λ v=>
cond v ((yy F r p).bind λ s=>
(bI 8 q [s.1.1]).bind λ w=>
yz F aR i b (ax (c+1)) a j k l m n o d e f g h s.2.2.1 w) (
(bI 8 q [r]).bind λ mE=>
yz F aR i b (ax (c+1)) a j k l m n o d e f g h p mE)) (
some (((),(),(),(),((),()),i,()),(a,j,k,l,m,n,o,()),(d,e,f,g,h,()),((),()),p,q,()))
def tD(F:Nat):Nat->(Int)->(List Int)->(Int)->(Int)->(Int)->(Int)->(List Int)->(Int)->(List ap)->(List Int)->(List (List I.Field))->(List (List (List UInt8)))->(List (List I.Target))->(List Int)->(List Int)->Option ((Unit×Unit)×ac'×ac_×(Unit×Unit)×List Int×List Int×Unit)
 |0,_,_,_,_,_,_,_,_,_,_,_,_,_,_,_=>none
 |aR+1,e,b,Ev,f,g,h,i,j,k,l,m,n,o,c,p=>
  cond (decide (e<(↑c.length:Int))) ((idx c e).bind λ d=>
(idx b d).bind λ q=>
(idx b (ax (d+1))).bind λ r=>
(idx b (ax (d+2))).bind λ s=>
(bI 8 p [q,r,s]).bind λ t=>
(yz F F e d 0 b Ev f g h i j k l m n o c t).bind λ a=>
tD F aR (ax (a.1.2.2.2.2.2.1+1)) a.2.1.1 a.2.1.2.1 a.2.1.2.2.1 a.2.1.2.2.2.1 a.2.1.2.2.2.2.1 a.2.1.2.2.2.2.2.1 a.2.1.2.2.2.2.2.2.1 a.2.2.1.1 a.2.2.1.2.1 a.2.2.1.2.2.1 a.2.2.1.2.2.2.1 a.2.2.1.2.2.2.2.1 a.2.2.2.2.1 a.2.2.2.2.2.1) (
some (((),()),(b,Ev,f,g,h,i,j,()),(k,l,m,n,o,()),((),()),c,p,()))
def yx(F:Nat)(b:List Int)(c:Int)(d:Int)(e:Int)(f:Int)(g:List Int)(h:Int)(i:List ap)(j:List Int)(k:List (List I.Field))(l:List (List (List UInt8)))(eg:List (List I.Target))(m:List Int):Option ((List Int×Unit)×Unit):=
 (BG F F m 0 b c d e f g h i j k l eg [] []).bind λ a=>
(tD F F 0 a.2.1.1 a.2.1.2.1 a.2.1.2.2.1 a.2.1.2.2.2.1 a.2.1.2.2.2.2.1 a.2.1.2.2.2.2.2.1 a.2.1.2.2.2.2.2.2.1 a.2.2.1.1
 a.2.2.1.2.1 a.2.2.1.2.2.1 a.2.2.1.2.2.2.1 a.2.2.1.2.2.2.2.1 a.2.2.2.2.1 a.2.2.2.2.2.1).bind λ n=>
some ((n.2.2.2.2.2.1,()),())
def E8(F:Nat)(r:List Int)(s:Int)(t:Int)(u:Int)(v:Int)(w:List Int)(x:Int)(a:List ap)(b:List Int)(c:List (List I.Field))(d:List (List (List UInt8)))(e:List (List I.Target))(q:List Int)(f:List Int)(qc:Int)(g:Int)(h:Int)(i:Int)(j:List Int)(k:Int)(l:List Int):Option ((Bool×Unit)×Unit):=
 (yM F (aV.mk f qc g h i j k) (aO.mk a b c d e)).bind λ m=>
cond (decide (m=0)) ((yK F (aV.mk f qc g h i j k) (aO.mk a b c d e) l).bind λ n=>
cond (decide (n=0)&&decide ((↑q.length:Int)=(↑l.length:Int))) ((yx F r s t u v w x a b c d e q).bind λ o=>
(yx F f qc g h i j k a b c d e l).bind λ p=>
(pb F o.1.1 p.1.1).bind λ hs=>
some ((hs,()),())) (
some ((false,()),()))) (
some ((false,()),()))
def at4(F:Nat)(c:List Int)(d:Int)(e:Int)(f:Int)(g:Int)(h:List Int)(b:Int)(i:List ap)(j:List Int)(k:List (List I.Field))(l:List (List (List UInt8)))(m:List (List I.Target))(n:List Int):Option ((Bool×Unit)×Unit):=
 (qk F c d e f g h b i j k l m n).bind λ a=>
cond (!decide (a.1.2.2.1=0)) (some (((decide ((↑(jb a.1.2.1):Int)=0)),()),())) (
(E8 F c d e f g h b i j k l m n a.1.1.1 a.1.1.2.1 a.1.1.2.2.1 a.1.1.2.2.2.1 a.1.1.2.2.2.2.1 a.1.1.2.2.2.2.2.1
 a.1.1.2.2.2.2.2.2.1 a.1.2.1).bind λ o=>
some (((o.1.1&&decide (a.1.1.2.2.2.1=1)&&decide ((↑(jb a.1.1.2.2.2.2.2.1):Int)=0)&&decide (a.1.1.2.2.2.2.2.2.1=b)),()),()))
@[reducible] noncomputable def aOL(F:Nat):ey bs:=⟨[aFu,aFv,.p (.l 3)],[],[.p (.b)],[],λ d=>at4 F d.1.1.1 d.1.1.2.1 d.1.1.2.2.1 d.1.1.2.2.2.1 d.1.1.2.2.2.2.1 d.1.1.2.2.2.2.2.1 d.1.1.2.2.2.2.2.2.1 d.1.2.1.1 d.1.2.1.2.1 d.1.2.1.2.2.1 d.1.2.1.2.2.2.1 d.1.2.1.2.2.2.2.1 d.1.2.2.1⟩
end Go.Proofs.YteeliipnilghaaaGreat
namespace Go.Proofs.YteeliipnilghaaaGreat
open Go Go.RowKit ay I bc
set_option maxRecDepth 100000
@[reducible] def GZ:bK:=.c 24 [.l 3,.i .i64,.i .i64,.i .i64,.i .i64,.l 3,.i .i64]
@[reducible] def Y2:cN:=.a [.l 3,.i .i64,.i .i64,.i .i64,.i .i64,.l 3,.i .i64]
@[reducible] def G0:bK:=.c 30 [.l 134,.l 3,.l 124,.l 120,.l 121]
@[reducible] def aky:cN:=.a [.l 134,.l 3,.l 124,.l 120,.l 121]
noncomputable def asj(F:Nat):aQ aG:=(asi F).fn 88 ⟨[.p (.i .i64),.p (.B 0)],[.c 22 [.R 1],.r 3 false],[.p (.i .i64)],[.c 22 [.R 1],.r 3 false],λ d=>yy F d.1.1 d.2.2.1⟩ λ da db=>by kernel_rfl
noncomputable def asl(F:Nat):aQ aG:=(asj F).gd 52 0 F ⟨[2,3,4,7,8,9,10],[.p (.l 3),.p (.B 0),.p (.B 1),.p (.B 2),.p (.R 4),.f 88 [.B 2],.p (.i .i64)],[GZ,G0,.c 22 [.R 3],.r 3 false,.r 3 false],[⟨.nm,[3,4,7,8,9],[.p (.B 0),.p (.B 1),.p (.B 2),.p (.R 4),.f 88 [.B 2]],[GZ,G0,.c 22 [.R 3],.r 3 false,.r 3 false]⟩],λ k d=>BG F k d.1.1 d.1.2.2.2.2.2.2.1 d.2.1.1 d.2.1.2.1 d.2.1.2.2.1 d.2.1.2.2.2.1 d.2.1.2.2.2.2.1 d.2.1.2.2.2.2.2.1 d.2.1.2.2.2.2.2.2.1 d.2.2.1.1 d.2.2.1.2.1 d.2.2.1.2.2.1 d.2.2.1.2.2.2.1 d.2.2.1.2.2.2.2.1 d.2.2.2.2.1 d.2.2.2.2.2.1⟩ ⟨λ d=>by kernel_rfl,λ k da db=>by kernel_rfl⟩
noncomputable def asm(F:Nat):aQ aG:=(asl F).gd 52 4 F ⟨[3,4,7,8,9,11,12,13],[.p (.B 0),.p (.B 1),.p (.B 2),.p (.R 4),.f 88 [.B 2],.p (.i .i64),.p (.i .i64),.p (.i .i64)],[GZ,G0,.c 22 [.R 3],.r 3 false,.r 3 false],[⟨.nm,[3,4,7,8,9,11],[.p (.B 0),.p (.B 1),.p (.B 2),.p (.R 4),.f 88 [.B 2],.p (.i .i64)],[GZ,G0,.c 22 [.R 3],.r 3 false,.r 3 false]⟩],λ k d=>yz F k d.1.2.2.2.2.2.1 d.1.2.2.2.2.2.2.1 d.1.2.2.2.2.2.2.2.1 d.2.1.1 d.2.1.2.1 d.2.1.2.2.1 d.2.1.2.2.2.1 d.2.1.2.2.2.2.1 d.2.1.2.2.2.2.2.1 d.2.1.2.2.2.2.2.2.1 d.2.2.1.1 d.2.2.1.2.1 d.2.2.1.2.2.1 d.2.2.1.2.2.2.1 d.2.2.1.2.2.2.2.1 d.2.2.2.2.1 d.2.2.2.2.2.1⟩ ⟨λ d=>by kernel_rfl,λ k da db=>by kernel_rfl⟩
noncomputable def asn(F:Nat):aQ aG:=(asm F).gd 52 2 F ⟨[3,4,7,8,9,11],[.p (.B 0),.p (.B 1),.p (.B 2),.p (.R 4),.f 88 [.B 2],.p (.i .i64)],[GZ,G0,.c 22 [.R 3],.r 3 false,.r 3 false],[⟨.nm,[8],[.p (.R 4)],[GZ,G0,.c 22 [.R 3],.r 3 false,.r 3 false]⟩],λ k d=>tD F k d.1.2.2.2.2.2.1 d.2.1.1 d.2.1.2.1 d.2.1.2.2.1 d.2.1.2.2.2.1 d.2.1.2.2.2.2.1 d.2.1.2.2.2.2.2.1 d.2.1.2.2.2.2.2.2.1 d.2.2.1.1 d.2.2.1.2.1 d.2.2.1.2.2.1 d.2.2.1.2.2.2.1 d.2.2.1.2.2.2.2.1 d.2.2.2.2.1 d.2.2.2.2.2.1⟩ ⟨λ d=>by kernel_rfl,λ k da db=>by kernel_rfl⟩
noncomputable def aso(F:Nat):aQ aG:=(asn F).fn 52 ⟨[Y2,aky,.p (.l 3)],[],[.p (.l 3)],[],λ d=>yx F d.1.1.1 d.1.1.2.1 d.1.1.2.2.1 d.1.1.2.2.2.1 d.1.1.2.2.2.2.1 d.1.1.2.2.2.2.2.1 d.1.1.2.2.2.2.2.2.1 d.1.2.1.1 d.1.2.1.2.1 d.1.2.1.2.2.1 d.1.2.1.2.2.2.1 d.1.2.1.2.2.2.2.1 d.1.2.2.1⟩ λ da db=>by kernel_rfl
noncomputable def asq(F:Nat):aQ aG:=(aso F).fn 21 ⟨[Y2,aky,.p (.l 3),Y2,.p (.l 3)],[],[.p (.b)],[],λ d=>E8 F d.1.1.1 d.1.1.2.1 d.1.1.2.2.1 d.1.1.2.2.2.1 d.1.1.2.2.2.2.1 d.1.1.2.2.2.2.2.1 d.1.1.2.2.2.2.2.2.1 d.1.2.1.1 d.1.2.1.2.1 d.1.2.1.2.2.1 d.1.2.1.2.2.2.1 d.1.2.1.2.2.2.2.1 d.1.2.2.1 d.1.2.2.2.1.1 d.1.2.2.2.1.2.1 d.1.2.2.2.1.2.2.1 d.1.2.2.2.1.2.2.2.1 d.1.2.2.2.1.2.2.2.2.1 d.1.2.2.2.1.2.2.2.2.2.1 d.1.2.2.2.1.2.2.2.2.2.2.1 d.1.2.2.2.2.1⟩ λ da db=>by kernel_rfl
end Go.Proofs.YteeliipnilghaaaGreat
