/- Part 5 of the proof that is ended in the last text: small logic, what the functions compute, walks, plain laws. -/
import Derived.Test.YteeliipnilghaaaGreatGn4
open Int renaming le_refl->k7
open List renaming length->h8,length_pos_iff->lY,mem_append->cf,mem_singleton->dV,replicate->gk,take->mB
open Nat renaming mul_one->jR,zero_add->jO,zero_le->gY
open Option renaming map->eh,map_eq_some_iff->cA,some.injEq->aF
noncomputable section
namespace Go.Proofs.YteeliipnilghaaaGreat
open Go Go.RowKit ay I ba
set_option maxRecDepth 100000
@[reducible] def Ig{α:Type}(x:List UInt8×List UInt8×List I.Field×List I.Method×α):I.aq:=⟨x.1,x.2.1,x.2.2.1,x.2.2.2.1⟩
@[reducible] def dZ{α:Type}(x:List Int×Int×Int×Int×Int×List Int×Int×α):I.aV:=⟨x.1,x.2.1,x.2.2.1,x.2.2.2.1,x.2.2.2.2.1,x.2.2.2.2.2.1,x.2.2.2.2.2.2.1⟩
@[reducible] def Mq{α:Type}(x:Int×List UInt8×α):I.Kind:=⟨x.1,x.2.1⟩
@[reducible] def fu{α:Type}(x:List I.aq×List Int×List (List I.Field)×List (List (List UInt8))×List (List I.Target)×α):I.aP:=⟨x.1,x.2.1,x.2.2.1,x.2.2.2.1,x.2.2.2.2.1⟩
@[reducible] def vV{α:Type}(x:List UInt8×Bool×List I.Kind×Int×List UInt8×Int×Int×List UInt8×List I.Handler×α):I.Method:=⟨x.1,x.2.1,x.2.2.1,⟨x.2.2.2.1,x.2.2.2.2.1⟩,x.2.2.2.2.2.1,x.2.2.2.2.2.2.1,x.2.2.2.2.2.2.2.1,x.2.2.2.2.2.2.2.2.1⟩
@[reducible] def hr{α:Type}(x:List I.aq×List Int×List (List I.Field)×List (List (List UInt8))×List (List I.Target)×α):I.b9:=⟨⟨x.1,x.2.1,x.2.2.1,x.2.2.2.1,x.2.2.2.2.1⟩⟩
@[reducible] def fW:bK:=.c 72 [.l 3,nl,nl,nl,nl,.l 3,nl,.l 134,.l 3,.l 124,.l 120,.l 121,.l 3,.l 3,.M 1]
@[reducible] def iI:bK:=.c 72 [.l 3,nl,nl,nl,nl,.l 3,nl,.l 134,.l 3,.l 124,.l 120,.l 121,.l 3,.l 3,.M 2]
@[reducible] def mY:bK:=.c 131 [.s,.b,.l 128,nl,.s,nl,nl,.s,.l 157]
@[reducible] def akT:bK:=.c 24 [.R 1,nl,nl,nl,nl,.l 3,nl]
@[reducible] def jp:bK:=.c 24 [.l 3,nl,nl,nl,nl,.l 3,nl]
@[reducible] def QC:cM:=.a [.s,.b,.l 128,nl,.s,nl,nl,.s,.l 157]
@[reducible] def jQ:cM:=.a [.l 3,nl,nl,nl,nl,.l 3,nl]
@[reducible] def dY:bK:=.c 30 [.l 134,.l 3,.l 124,.l 120,.l 121]
@[reducible] def h2:cM:=.a [.l 134,.l 3,.l 124,.l 120,.l 121]
@[reducible] def akU:bK:=.c 30 [.l 134,.l 3,.R 4,.R 5,.R 6]
@[reducible] def akQ:bK:=.c 30 [.l 134,.R 2,.R 3,.R 4,.R 5]
@[reducible] def iJ:bK:=.c 134 [.s,.s,.l 136,.l 131]
@[reducible] def akR:bK:=.c 134 [.s,.s,.R 2,.R 3]
@[reducible] def lA:bK:=.c 117 [.l 134,.M 1,.R 2]
@[reducible] def eH:bK:=.c 117 [.l 134,.M 1,.l 3]
@[reducible] def akS:bK:=.c 117 [.l 134,.M 2,.l 3]
def auJ(F:Nat):aS aI:=⟨M' F,λ _=>avt F,rfl⟩
def VH(k:Nat)(a:List UInt8)(b:Int)(ao:Int):=dt ((a.length:Int)=ao/\True) (bf (Ea a k b))
theorem ZP(k:Nat)(a:List UInt8)(b:Int):bf (Ea a k b)=VH k a b (a.length:Int):=(dK ⟨rfl,trivial⟩).symm
def aqF(F:Nat):aS aI:=(auJ F).b2 140 0 F ⟨[0,6,7,8],[.p (.s),.p (.l 5),ni,ni],[],
 [⟨⟨.nm,[0],[.p (.s)],[]⟩,Unit,λ d r=>((d.1.1,()),())⟩,
  ⟨⟨.rt,[2],[nk],[]⟩,Bool,λ d r=>((r,()),())⟩],
 λ k d=>VH k d.1.2.1 d.1.2.2.2.1 d.1.2.2.1⟩ (bP.bY (λ d=>dJ) λ k da db q h=>by
 obtain⟨(v0:List UInt8),(v1:List UInt8),(b:Int),(v3:Int),_⟩:=da
 obtain⟨a,_⟩:=ei h
 dsimp only at a
 obtain⟨rfl,_⟩:=a
 conv=>rhs;change eh (α:=Unit⊕Bool) _ (VH (k+1) v1 v3 (v1.length:Int));rw[<-ZP (k+1) v1 v3];simp only[Ea,bb,ZP];simp only[bW]
 kernel_rfl)
def adK(F:Nat):aS aI:=(aqF F).rt 140 ⟨[.p (.s)],[],[nk],[],Bool,λ d=>o_ F d.1.1,λ d r=>((r,()),())⟩ λ da db=>by
 obtain⟨(v0:List UInt8),_⟩:=da;conv=>rhs;simp only[o_,bb,ZP]
 kernel_rfl
def atn(F:Nat):aS aI:=(adK F).rt 162 ⟨[ni],[],[nk],[],Bool,λ d=>Pn d.1.1,λ d r=>((r,()),())⟩ λ da db=>by
 conv=>rhs;simp only[Pn,bb]
 kernel_rfl
def atE(F:Nat):aS aI:=(atn F).rt 141 ⟨[.a [nl,.s]],[],[nk],[],Bool,λ d=>xG F (Mq d.1.1),λ d r=>((r,()),())⟩ λ da db=>by
 conv=>rhs;simp only[xG,bb]
 kernel_rfl
def atP(F:Nat):aS aI:=(atE F).rt 163 ⟨[ni,ni,ni],[],[nk],[],Bool,λ d=>nO d.1.1 d.1.2.1 d.1.2.2.1,λ d r=>((r,()),())⟩ λ da db=>by
 conv=>rhs;simp only[nO,bb]
 kernel_rfl
def VI(F:Nat)(k:Nat)(a:I.Method)(b:Int)(c:Int)(dx:List I.Kind):=dt ((a.cF.length:Int)=c/\(a.cF:List I.Kind)=dx/\True) (bf (AB F a k b))
theorem ZQ(F:Nat)(k:Nat)(a:I.Method)(b:Int):bf (AB F a k b)=VI F k a b (a.cF.length:Int) a.cF:=(dK ⟨rfl,rfl,trivial⟩).symm
def at1(F:Nat):aS aI:=(atP F).b2 142 1 F ⟨[1,41,42,43],[.p (.B 0),.p (.l 128),ni,ni],[mY],
 [⟨⟨.nm,[1],[.p (.B 0)],[mY]⟩,Unit,λ d r=>(((),()),(d.2.1,()))⟩,
  ⟨⟨.rt,[2],[ni],[.d]⟩,Int,λ d r=>((r,()),((),()))⟩],
 λ k d=>VI F k (⟨d.2.1.1,d.2.1.2.1,d.1.2.1,(Mq d.2.1.2.2.2),d.2.1.2.2.2.2.2.1,d.2.1.2.2.2.2.2.2.1,d.2.1.2.2.2.2.2.2.2.1,d.2.1.2.2.2.2.2.2.2.2.1⟩:I.Method) d.1.2.2.2.1 d.1.2.2.1 d.2.1.2.2.1⟩ (bP.bY (λ d=>dJ) λ k da db q h=>by
 obtain⟨_,(v0:List I.Kind),(v1:Int),(c:Int),_⟩:=da
 obtain⟨⟨(v3:List UInt8),(v4:Bool),(v5:List I.Kind),(e:Int),(f:List UInt8),(g:Int),(v9:Int),(a:List UInt8),(b:List I.Handler),_⟩,_⟩:=db
 obtain⟨i,_⟩:=ei h
 dsimp only at i
 obtain⟨rfl,rfl,_⟩:=i
 conv=>rhs;change eh (α:=Unit⊕Int) _ (VI F (k+1) (⟨v3,v4,v0,(⟨e,f⟩:I.Kind),g,v9,a,b⟩:I.Method) c (v0.length:Int) (v0));rw[<-ZQ F (k+1) (⟨v3,v4,v0,(⟨e,f⟩:I.Kind),g,v9,a,b⟩:I.Method) c];simp only[AB,bb,ZQ];simp only[bW]
 kernel_rfl)
def OA(F:Nat)(k:Nat)(a:I.Method)(b:Int)(c:Int):=dt ((a.cL.length:Int)=c/\True) (bf (tg F a k b))
theorem QU(F:Nat)(k:Nat)(a:I.Method)(b:Int):bf (tg F a k b)=OA F k (⟨[],false,[],(⟨0,[]⟩:I.Kind),0,0,[],a.cL⟩:I.Method) b (a.cL.length:Int):=(show bf (tg F a k b)=bf (tg F (⟨[],false,[],(⟨0,[]⟩:I.Kind),0,0,[],a.cL⟩:I.Method) k b) by kernel_rfl).trans (dK ⟨rfl,trivial⟩).symm
theorem aGX(F:Nat)(k:Nat)(a:I.Method)(b:Int):bf (Ef F a k b)=OA F k (⟨[],false,[],(⟨0,[]⟩:I.Kind),0,0,[],a.cL⟩:I.Method) b (a.cL.length:Int):=(show bf (Ef F a k b)=bf (tg F a k b) by kernel_rfl).trans (QU F k a b)
def aub(F:Nat):aS aI:=(at1 F).b2 142 3 F ⟨[62,63,64],[.p (.l 157),ni,ni],[],
 [⟨⟨.nm,[],[],[]⟩,Unit,λ d r=>((),())⟩,
  ⟨⟨.rt,[2],[ni],[]⟩,Int,λ d r=>((r,()),())⟩],
 λ k d=>OA F k (⟨[],false,[],(⟨0,[]⟩:I.Kind),0,0,[],d.1.1⟩:I.Method) d.1.2.2.1 d.1.2.1⟩ (bP.bY (λ d=>dJ) λ k da db q h=>by
 obtain⟨(v0:List I.Handler),(v1:Int),(a:Int),_⟩:=da
 obtain⟨b,_⟩:=ei h
 dsimp only at b
 obtain⟨rfl,_⟩:=b
 conv=>rhs;change eh (α:=Unit⊕Int) _ (OA F (k+1) (⟨[],false,[],(⟨0,[]⟩:I.Kind),0,0,[],v0⟩:I.Method) a (v0.length:Int));rw[<-QU F (k+1) (⟨[],false,[],(⟨0,[]⟩:I.Kind),0,0,[],v0⟩:I.Method) a];simp only[tg,bb,QU];simp only[bW]
 kernel_rfl)
def aum(F:Nat):aS aI:=(aub F).rt 142 ⟨[QC],[],[ni],[],Int,λ d=>Ed F (vV d.1.1),λ d r=>((r,()),())⟩ λ da db=>by
 obtain⟨⟨(v0:List UInt8),(v1:Bool),(a:List I.Kind),(v3:Int),(v4:List UInt8),(v5:Int),(b:Int),(c:List UInt8),(e:List I.Handler),_⟩,_⟩:=da;conv=>rhs;simp only[Ed,bb,ZQ,QU,aGX]
 kernel_rfl
def Oy(F:Nat)(k:Nat)(c_:I.aq)(a:Int)(b:Int)(dx:List I.Field):=dt ((c_.Fields.length:Int)=b/\(c_.Fields:List I.Field)=dx/\True) (bf (xF F c_ k a))
theorem QS(F:Nat)(k:Nat)(c_:I.aq)(a:Int):bf (xF F c_ k a)=Oy F k c_ a (c_.Fields.length:Int) c_.Fields:=(dK ⟨rfl,rfl,trivial⟩).symm
theorem aGV(F:Nat)(k:Nat)(c_:I.aq)(a:Int):bf (Eb F c_ k a)=Oy F k c_ a (c_.Fields.length:Int) c_.Fields:=(show bf (Eb F c_ k a)=bf (xF F c_ k a) by kernel_rfl).trans (QS F k c_ a)
def auy(F:Nat):aS aI:=(aum F).b2 107 1 F ⟨[1,36,37,38],[.p (.B 0),.p (.l 136),ni,ni],[iJ],
 [⟨⟨.nm,[1],[.p (.B 0)],[iJ]⟩,Unit,λ d r=>(((),()),(d.2.1,()))⟩,
  ⟨⟨.rt,[2],[ni],[.d]⟩,Int,λ d r=>((r,()),((),()))⟩],
 λ k d=>Oy F k (⟨d.2.1.1,d.2.1.2.1,d.1.2.1,d.2.1.2.2.2.1⟩:I.aq) d.1.2.2.2.1 d.1.2.2.1 d.2.1.2.2.1⟩ (bP.bY (λ d=>dJ) λ k da db q h=>by
 obtain⟨_,(v0:List I.Field),(v1:Int),(a:Int),_⟩:=da
 obtain⟨⟨(v3:List UInt8),(v4:List UInt8),(v5:List I.Field),(b:List I.Method),_⟩,_⟩:=db
 obtain⟨c,_⟩:=ei h
 dsimp only at c
 obtain⟨rfl,rfl,_⟩:=c
 conv=>rhs;change eh (α:=Unit⊕Int) _ (Oy F (k+1) (⟨v3,v4,v0,b⟩:I.aq) a (v0.length:Int) (v0));rw[<-QS F (k+1) (⟨v3,v4,v0,b⟩:I.aq) a];simp only[xF,bb,QS];simp only[bW]
 kernel_rfl)
def Oz(F:Nat)(k:Nat)(c_:I.aq)(a:Int)(b:Int):=dt ((c_.bp.length:Int)=b/\True) (bf (tf F c_ k a))
theorem QT(F:Nat)(k:Nat)(c_:I.aq)(a:Int):bf (tf F c_ k a)=Oz F k (⟨[],[],[],c_.bp⟩:I.aq) a (c_.bp.length:Int):=(show bf (tf F c_ k a)=bf (tf F (⟨[],[],[],c_.bp⟩:I.aq) k a) by kernel_rfl).trans (dK ⟨rfl,trivial⟩).symm
theorem aGW(F:Nat)(k:Nat)(c_:I.aq)(a:Int):bf (Ec F c_ k a)=Oz F k (⟨[],[],[],c_.bp⟩:I.aq) a (c_.bp.length:Int):=(show bf (Ec F c_ k a)=bf (tf F c_ k a) by kernel_rfl).trans (QT F k c_ a)
def aqG(F:Nat):aS aI:=(auy F).b2 107 4 F ⟨[54,55,56],[.p (.l 131),ni,ni],[],
 [⟨⟨.nm,[],[],[]⟩,Unit,λ d r=>((),())⟩,
  ⟨⟨.rt,[2],[ni],[]⟩,Int,λ d r=>((r,()),())⟩],
 λ k d=>Oz F k (⟨[],[],[],d.1.1⟩:I.aq) d.1.2.2.1 d.1.2.1⟩ (bP.bY (λ d=>dJ) λ k da db q h=>by
 obtain⟨(v0:List I.Method),(v1:Int),(a:Int),_⟩:=da
 obtain⟨b,_⟩:=ei h
 dsimp only at b
 obtain⟨rfl,_⟩:=b
 conv=>rhs;change eh (α:=Unit⊕Int) _ (Oz F (k+1) (⟨[],[],[],v0⟩:I.aq) a (v0.length:Int));rw[<-QT F (k+1) (⟨[],[],[],v0⟩:I.aq) a];simp only[tf,bb,QT];simp only[bW]
 kernel_rfl)
def aqR(F:Nat):aS aI:=(aqG F).rt 107 ⟨[.a [.s,.s,.l 136,.l 131]],[],[ni],[],Int,λ d=>KW F (Ig d.1.1),λ d r=>((r,()),())⟩ λ da db=>by
 obtain⟨⟨(v0:List UInt8),(v1:List UInt8),(a:List I.Field),(v3:List I.Method),_⟩,_⟩:=da;conv=>rhs;simp only[KW,bb,QS,aGV,QT,aGW]
 kernel_rfl
def VG(F:Nat)(k:Nat)(a:List I.aq)(b:Int)(c:Int):=dt ((a.length:Int)=c/\True) (bf (AA F a k b))
theorem ZO(F:Nat)(k:Nat)(a:List I.aq)(b:Int):bf (AA F a k b)=VG F k a b (a.length:Int):=(dK ⟨rfl,trivial⟩).symm
def aq2(F:Nat):aS aI:=(aqR F).b2 74 0 F ⟨[9,10,11],[.p (.l 134),ni,ni],[],
 [⟨⟨.nm,[],[],[]⟩,Unit,λ d r=>((),())⟩,
  ⟨⟨.rt,[2],[ni],[]⟩,Int,λ d r=>((r,()),())⟩],
 λ k d=>VG F k d.1.1 d.1.2.2.1 d.1.2.1⟩ (bP.bY (λ d=>dJ) λ k da db q h=>by
 obtain⟨(v0:List I.aq),(v1:Int),(a:Int),_⟩:=da
 obtain⟨b,_⟩:=ei h
 dsimp only at b
 obtain⟨rfl,_⟩:=b
 conv=>rhs;change eh (α:=Unit⊕Int) _ (VG F (k+1) v0 a (v0.length:Int));rw[<-ZO F (k+1) v0 a];simp only[AA,bb,ZO];simp only[bW]
 kernel_rfl)
def arb(F:Nat):aS aI:=(aq2 F).rt 74 ⟨[.p (.l 134)],[],[ni],[],Int,λ d=>KV F d.1.1,λ d r=>((r,()),())⟩ λ da db=>by
 obtain⟨(v0:List I.aq),_⟩:=da;conv=>rhs;simp only[KV,bb,ZO]
 kernel_rfl
def aro(F:Nat):aS aI:=(arb F).b2 75 2 F ⟨[3,5,8,9,10,23,24,25],[.p (.R 0),.p (.B 1),.p (.l 134),ni,ni,.p (.R 3),ni,ni],[.r 134 false,akR,.r 136 true,.r 131 true],
 [⟨⟨.nm,[3,5,8,9,10],[.p (.R 0),.p (.B 1),.p (.l 134),ni,ni],[.r 134 false,akR,.r 136 true,.r 131 true]⟩,List I.Method,λ d r=>(((),(),d.1.2.2.1,d.1.2.2.2.1,d.1.2.2.2.2.1,()),(d.2.1,(d.2.2.1.1,d.2.2.1.2.1,(),(),()),d.2.2.2.1,r,()))⟩],
 λ k d=>vv k d.2.2.2.2.1 d.1.2.2.2.2.2.2.1 d.1.2.2.2.2.2.2.2.1⟩ (bP.bY (λ d=>rfl) λ k da db q h=>by
 obtain⟨_,_,(v0:List I.aq),(v1:Int),(a:Int),_,(v3:Int),(v4:Int),_⟩:=da
 obtain⟨(v5:List I.aq),⟨(b:List UInt8),(c:List UInt8),_,_,_⟩,(e:List I.Field),(v9:List I.Method),_⟩:=db
 conv=>rhs;simp only[vv,bb,abi,abj];simp only[bW]
 kernel_rfl)
def V2(F:Nat)(k:Nat)(a:List I.aq)(b:List I.aq)(c:Int)(d:Int):=dt ((a.length:Int)=d/\True) (tA F a k b c)
theorem Z_(F:Nat)(k:Nat)(a:List I.aq)(b:List I.aq)(c:Int):tA F a k b c=V2 F k a b c (a.length:Int):=(dK ⟨rfl,trivial⟩).symm
def arz(F:Nat):aS aI:=(aro F).b2 75 0 F ⟨[3,8,9,10],[.p (.R 0),.p (.l 134),ni,ni],[.r 134 false],
 [⟨⟨.nm,[3],[.p (.R 0)],[.r 134 false]⟩,List I.aq,λ d r=>(((),()),(r,()))⟩],
 λ k d=>V2 F k d.1.2.1 d.2.1 d.1.2.2.2.1 d.1.2.2.1⟩ (bP.bY (λ d=>dJ) λ k da db q h=>by
 obtain⟨_,(v0:List I.aq),(v1:Int),(a:Int),_⟩:=da
 obtain⟨(v3:List I.aq),_⟩:=db
 obtain⟨b,_⟩:=ei h
 dsimp only at b
 obtain⟨rfl,_⟩:=b
 conv=>rhs;change eh (α:=List I.aq) _ (V2 F (k+1) v0 v3 a (v0.length:Int));rw[<-Z_ F (k+1) v0 v3 a];simp only[tA,bb,Z_,abh,abk];simp only[bW]
 kernel_rfl)
def arK(F:Nat):aS aI:=(arz F).rt 75 ⟨[.p (.l 134)],[],[.p (.l 134)],[],List I.aq,λ d=>K' F d.1.1,λ d r=>((r,()),())⟩ λ da db=>by
 obtain⟨(v0:List I.aq),_⟩:=da;conv=>rhs;simp only[K',bb,Z_]
 kernel_rfl
def VS(k:Nat)(a:I.bt)(b:List ((List UInt8)×Int))(c:Int)(d:Int)(aW:List I.aq):=dt ((a.l.length:Int)=d/\(a.l:List I.aq)=aW/\True) (bf (qg a k b c))
theorem Z0(k:Nat)(a:I.bt)(b:List ((List UInt8)×Int))(c:Int):bf (qg a k b c)=VS k (⟨a.l,[],a.dB⟩:I.bt) b c (a.l.length:Int) a.l:=(show bf (qg a k b c)=bf (qg (⟨a.l,[],a.dB⟩:I.bt) k b c) by kernel_rfl).trans (dK ⟨rfl,rfl,trivial⟩).symm
def arV(F:Nat):aS aI:=(arK F).b2 76 0 F ⟨[0,14,15,16],[.p (.B 0),.p (.l 134),ni,ni],[lA,.m 9 3,.r 3 true],
 [⟨⟨.nm,[0],[.p (.B 0)],[lA,.m 9 3,.r 3 true]⟩,List ((List UInt8)×Int),λ d r=>(((),()),((d.2.1.1,(),(),()),r,d.2.2.2.1,()))⟩,
  ⟨⟨.rt,[2],[ni],[lA,.m 9 3,.r 3 true]⟩,Int×I.bt,λ d r=>((r.1,()),((d.2.1.1,(),(),()),r.2.b4,d.2.2.2.1,()))⟩],
 λ k d=>VS k (⟨d.1.2.1,[],d.2.2.2.1⟩:I.bt) d.2.2.1 d.1.2.2.2.1 d.1.2.2.1 d.2.1.1⟩ (bP.bY (λ d=>dJ) λ k da db q h=>by
 obtain⟨_,(v0:List I.aq),(v1:Int),(a:Int),_⟩:=da
 obtain⟨⟨(v3:List I.aq),_,_,_⟩,(v4:List ((List UInt8)×Int)),(v5:List Int),_⟩:=db
 obtain⟨b,_⟩:=ei h
 dsimp only at b
 obtain⟨rfl,rfl,_⟩:=b
 conv=>rhs;change eh (α:=(List ((List UInt8)×Int))⊕(Int×I.bt)) _ (VS (k+1) (⟨v0,[],v5⟩:I.bt) v4 a (v0.length:Int) (v0));rw[<-Z0 (k+1) (⟨v0,[],v5⟩:I.bt) v4 a];simp only[qg,bb,Z0];simp only[bW]
 kernel_rfl)
def ar6(F:Nat):aS aI:=(arV F).rt 76 ⟨[.p (.B 0)],[lA,.m 9 3,.r 3 true],[ni],[lA,.m 9 3,.r 3 true],Int×I.bt,λ d=>Hq F (⟨d.2.1.1,d.2.2.1,d.2.2.2.1⟩:I.bt),λ d r=>((r.1,()),((d.2.1.1,(),(),()),r.2.b4,d.2.2.2.1,()))⟩ λ da db=>by
 obtain⟨_,_⟩:=da;obtain⟨⟨(v0:List I.aq),_,_,_⟩,(v1:List ((List UInt8)×Int)),(a:List Int),_⟩:=db;conv=>rhs;simp only[Hq,bb,Z0]
 kernel_rfl
def VK(k:Nat)(a:I.bt)(b:Int)(c:Int)(aW:List I.aq):=dt ((a.l.length:Int)=c/\(a.l:List I.aq)=aW/\True) (bf (x5 a k b))
theorem ZS(k:Nat)(a:I.bt)(b:Int):bf (x5 a k b)=VK k a b (a.l.length:Int) a.l:=(dK ⟨rfl,rfl,trivial⟩).symm
def asf(F:Nat):aS aI:=(ar6 F).b2 77 0 F ⟨[0,14,15,16],[.p (.B 0),.p (.l 134),ni,ni],[lA,.m 9 3,.r 3 true],
 [⟨⟨.nm,[0],[.p (.B 0)],[lA,.m 9 3,.r 3 true]⟩,Unit,λ d r=>(((),()),((d.2.1.1,(),(),()),d.2.2.1,d.2.2.2.1,()))⟩,
  ⟨⟨.rt,[2],[ni],[lA,.m 9 3,.r 3 true]⟩,Int×I.bt,λ d r=>((r.1,()),((d.2.1.1,(),(),()),d.2.2.1,r.2.dB,()))⟩],
 λ k d=>VK k (⟨d.1.2.1,d.2.2.1,d.2.2.2.1⟩:I.bt) d.1.2.2.2.1 d.1.2.2.1 d.2.1.1⟩ (bP.bY (λ d=>dJ) λ k da db q h=>by
 obtain⟨_,(v0:List I.aq),(v1:Int),(a:Int),_⟩:=da
 obtain⟨⟨(v3:List I.aq),_,_,_⟩,(v4:List ((List UInt8)×Int)),(v5:List Int),_⟩:=db
 obtain⟨b,_⟩:=ei h
 dsimp only at b
 obtain⟨rfl,rfl,_⟩:=b
 conv=>rhs;change eh (α:=Unit⊕(Int×I.bt)) _ (VK (k+1) (⟨v0,v4,v5⟩:I.bt) a (v0.length:Int) (v0));rw[<-ZS (k+1) (⟨v0,v4,v5⟩:I.bt) a];simp only[x5,bb,ZS];simp only[bW]
 kernel_rfl)
def VL(k:Nat)(a:I.bt)(vn:List Int)(b:Int)(c:Int)(aW:List I.aq):=dt ((a.l.length:Int)=c/\(a.l:List I.aq)=aW/\True) (bf (nV a k vn b))
theorem ZT(k:Nat)(a:I.bt)(vn:List Int)(b:Int):bf (nV a k vn b)=VL k (⟨a.l,a.b4,[]⟩:I.bt) vn b (a.l.length:Int) a.l:=(show bf (nV a k vn b)=bf (nV (⟨a.l,a.b4,[]⟩:I.bt) k vn b) by kernel_rfl).trans (dK ⟨rfl,rfl,trivial⟩).symm
def asr(F:Nat):aS aI:=(asf F).b2 77 2 F ⟨[0,31,32,33],[.p (.B 0),.p (.l 134),ni,ni],[lA,.m 9 3,.r 3 false],
 [⟨⟨.nm,[0],[.p (.B 0)],[lA,.m 9 3,.r 3 false]⟩,List Int,λ d r=>(((),()),((d.2.1.1,(),(),()),d.2.2.1,r,()))⟩,
  ⟨⟨.rt,[2],[ni],[lA,.m 9 3,.r 3 false]⟩,Int×I.bt,λ d r=>((r.1,()),((d.2.1.1,(),(),()),d.2.2.1,r.2.dB,()))⟩],
 λ k d=>VL k (⟨d.1.2.1,d.2.2.1,[]⟩:I.bt) d.2.2.2.1 d.1.2.2.2.1 d.1.2.2.1 d.2.1.1⟩ (bP.bY (λ d=>dJ) λ k da db q h=>by
 obtain⟨_,(v0:List I.aq),(v1:Int),(a:Int),_⟩:=da
 obtain⟨⟨(v3:List I.aq),_,_,_⟩,(v4:List ((List UInt8)×Int)),(v5:List Int),_⟩:=db
 obtain⟨b,_⟩:=ei h
 dsimp only at b
 obtain⟨rfl,rfl,_⟩:=b
 conv=>rhs;change eh (α:=(List Int)⊕(Int×I.bt)) _ (VL (k+1) (⟨v0,v4,[]⟩:I.bt) v5 a (v0.length:Int) (v0));rw[<-ZT (k+1) (⟨v0,v4,[]⟩:I.bt) v5 a];simp only[nV,bb,ZT];simp only[bW]
 kernel_rfl)
def VN(k:Nat)(a:I.bt)(b:List Int)(c:Int)(d:Int)(e:Int)(aW:Int):=dt ((a.l.length:Int)=e/\(a.l.length:Int)=aW/\True) (vr a b k c d)
theorem ZV(k:Nat)(a:I.bt)(b:List Int)(c:Int)(d:Int):vr a b k c d=VN k (⟨a.l,a.b4,[]⟩:I.bt) b c d (a.l.length:Int) (a.l.length:Int):=(show vr a b k c d=vr (⟨a.l,a.b4,[]⟩:I.bt) b k c d by kernel_rfl).trans (dK ⟨rfl,rfl,trivial⟩).symm
def asB(F:Nat):aS aI:=(asr F).b2 77 7 F ⟨[0,10,69,70,78,79],[.p (.B 0),ni,ni,ni,ni,ni],[lA,.m 9 3,.r 3 true],
 [⟨⟨.nm,[0,10,69,70],[.p (.B 0),ni,ni,ni],[lA,.m 9 3,.r 3 true]⟩,Int,λ d r=>(((),r,d.1.2.2.1,d.1.2.2.2.1,()),((d.2.1.1,(),(),()),d.2.2.1,d.2.2.2.1,()))⟩],
 λ k d=>VN k (⟨d.2.1.1,d.2.2.1,[]⟩:I.bt) d.2.2.2.1 d.1.2.1 d.1.2.2.2.2.2.1 d.1.2.2.1 d.1.2.2.2.2.1⟩ (bP.bY (λ d=>dJ) λ k da db q h=>by
 obtain⟨_,(v0:Int),(v1:Int),(e:Int),(v3:Int),(v4:Int),_⟩:=da
 obtain⟨⟨(v5:List I.aq),_,_,_⟩,(a:List ((List UInt8)×Int)),(b:List Int),_⟩:=db
 obtain⟨c,_⟩:=ei h
 dsimp only at c
 obtain⟨rfl,rfl,_⟩:=c
 conv=>rhs;change eh (α:=Int) _ (VN (k+1) (⟨v5,a,[]⟩:I.bt) b v0 v4 (v5.length:Int) (v5.length:Int));rw[<-ZV (k+1) (⟨v5,a,[]⟩:I.bt) b v0 v4];simp only[vr,bb,ZV];simp only[bW]
 kernel_rfl)
def VM(F:Nat)(k:Nat)(a:I.bt)(b:List Int)(c:Int)(d:Int):=dt ((a.l.length:Int)=d/\True) (bf (tr F a b k c))
theorem ZU(F:Nat)(k:Nat)(a:I.bt)(b:List Int)(c:Int):bf (tr F a b k c)=VM F k (⟨a.l,a.b4,[]⟩:I.bt) b c (a.l.length:Int):=(show bf (tr F a b k c)=bf (tr F (⟨a.l,a.b4,[]⟩:I.bt) b k c) by kernel_rfl).trans (dK ⟨rfl,trivial⟩).symm
def asM(F:Nat):aS aI:=(asB F).b2 77 5 F ⟨[0,69,70],[.p (.B 0),ni,ni],[lA,.m 9 3,.r 3 true],
 [⟨⟨.nm,[],[],[lA,.m 9 3,.r 3 true]⟩,Unit,λ d r=>((),((d.2.1.1,(),(),()),d.2.2.1,d.2.2.2.1,()))⟩,
  ⟨⟨.rt,[2],[ni],[lA,.m 9 3,.r 3 true]⟩,Int×I.bt,λ d r=>((r.1,()),((d.2.1.1,(),(),()),d.2.2.1,r.2.dB,()))⟩],
 λ k d=>VM F k (⟨d.2.1.1,d.2.2.1,[]⟩:I.bt) d.2.2.2.1 d.1.2.2.1 d.1.2.1⟩ (bP.bY (λ d=>dJ) λ k da db q h=>by
 obtain⟨_,(v0:Int),(v1:Int),_⟩:=da
 obtain⟨⟨(a:List I.aq),_,_,_⟩,(v3:List ((List UInt8)×Int)),(v4:List Int),_⟩:=db
 obtain⟨b,_⟩:=ei h
 dsimp only at b
 obtain⟨rfl,_⟩:=b
 conv=>rhs;change eh (α:=Unit⊕(Int×I.bt)) _ (VM F (k+1) (⟨a,v3,[]⟩:I.bt) v4 v1 (a.length:Int));rw[<-ZU F (k+1) (⟨a,v3,[]⟩:I.bt) v4 v1];simp only[tr,bb,ZV,ZU];simp only[bW]
 kernel_rfl)
def asX(F:Nat):aS aI:=(asM F).rt 77 ⟨[.p (.B 0)],[lA,.m 9 3,.r 3 false],[ni],[lA,.m 9 3,.r 3 false],Int×I.bt,λ d=>PQ F (⟨d.2.1.1,d.2.2.1,d.2.2.2.1⟩:I.bt),λ d r=>((r.1,()),((d.2.1.1,(),(),()),d.2.2.1,r.2.dB,()))⟩ λ da db=>by
 obtain⟨_,_⟩:=da;obtain⟨⟨(v0:List I.aq),_,_,_⟩,(v1:List ((List UInt8)×Int)),(a:List Int),_⟩:=db;conv=>rhs;simp only[PQ,bb,ZS,ZT,ZU]
 kernel_rfl
def as8(F:Nat):aS aI:=(asX F).rt 78 ⟨[.p (.B 0)],[eH,.m 9 3],[ni],[eH,.m 9 3],Int,λ d=>PR F (⟨d.2.1.1,d.2.2.1,d.2.1.2.2.1⟩:I.bt),λ d r=>((r,()),((d.2.1.1,(),d.2.1.2.2.1,()),d.2.2.1,()))⟩ λ da db=>by
 conv=>rhs;simp only[PR,bb]
 kernel_rfl
def ata(F:Nat):aS aI:=(as8 F).rt 112 ⟨[.a [nl,.s],.p (.B 0)],[.c 120 [.R 1],.r 9 false],[],[.c 120 [.R 1],.r 9 false],List (List UInt8),λ d=>EB (Mq d.1.1) d.2.2.1,λ d r=>((),(((),()),r,()))⟩ λ da db=>by
 conv=>rhs;simp only[EB,bb]
 kernel_rfl
def VX(k:Nat)(a:I.aq)(c:List (List UInt8))(d:Int)(bR:Int)(b:List I.Field):=dt ((a.Fields.length:Int)=bR/\(a.Fields:List I.Field)=b/\True) (x8 a k c d)
theorem Z5(k:Nat)(a:I.aq)(b:List (List UInt8))(c:Int):x8 a k b c=VX k a b c (a.Fields.length:Int) a.Fields:=(dK ⟨rfl,rfl,trivial⟩).symm
def atb(F:Nat):aS aI:=(ata F).b2 79 2 F ⟨[0,3,4,6,23,24,25,30,31,32],[.p (.B 0),.p (.B 2),.f 112 [.B 2],.p (.B 4),.p (.l 134),ni,ni,.p (.l 136),ni,ni],[eH,.m 9 3,.c 120 [.R 3],.r 9 false,iJ],
 [⟨⟨.nm,[0,3,4,6,23,24,25],[.p (.B 0),.p (.B 2),.f 112 [.B 2],.p (.B 4),.p (.l 134),ni,ni],[eH,.m 9 3,.c 120 [.R 3],.r 9 false,iJ]⟩,List (List UInt8),λ d r=>(((),(),((),()),(),d.1.2.2.2.2.1,d.1.2.2.2.2.2.1,d.1.2.2.2.2.2.2.1,()),((d.2.1.1,(),d.2.1.2.2.1,()),d.2.2.1,((),()),r,d.2.2.2.2.2.1,()))⟩],
 λ k d=>VX k (⟨d.2.2.2.2.2.1.1,d.2.2.2.2.2.1.2.1,d.1.2.2.2.2.2.2.2.1,d.2.2.2.2.2.1.2.2.2.1⟩:I.aq) d.2.2.2.2.1 d.1.2.2.2.2.2.2.2.2.2.1 d.1.2.2.2.2.2.2.2.2.1 d.2.2.2.2.2.1.2.2.1⟩ (bP.bY (λ d=>dJ) λ k da db q h=>by
 obtain⟨_,_,⟨_,_⟩,_,(v0:List I.aq),(v1:Int),(g:Int),(v3:List I.Field),(v4:Int),(v5:Int),_⟩:=da
 obtain⟨⟨(i:List I.aq),_,(j:List Int),_⟩,(l:List ((List UInt8)×Int)),⟨_,_⟩,(v9:List (List UInt8)),⟨(a:List UInt8),(b:List UInt8),(f:List I.Field),(c:List I.Method),_⟩,_⟩:=db
 obtain⟨e,_⟩:=ei h
 dsimp only at e
 obtain⟨rfl,rfl,_⟩:=e
 conv=>rhs;change eh (α:=List (List UInt8)) _ (VX (k+1) (⟨a,b,v3,c⟩:I.aq) v9 v5 (v3.length:Int) (v3));rw[<-Z5 (k+1) (⟨a,b,v3,c⟩:I.aq) v9 v5];simp only[x8,bb,Z5];simp only[bW]
 kernel_rfl)
def VZ(k:Nat)(a:I.Method)(c:List (List UInt8))(d:Int)(kP:Int)(b:List I.Kind):=dt ((a.cF.length:Int)=kP/\(a.cF:List I.Kind)=b/\True) (x9 a k c d)
theorem Z7(k:Nat)(a:I.Method)(b:List (List UInt8))(c:Int):x9 a k b c=VZ k a b c (a.cF.length:Int) a.cF:=(dK ⟨rfl,rfl,trivial⟩).symm
def atk(F:Nat):aS aI:=(atb F).b2 79 6 F ⟨[0,3,4,10,23,24,25,42,43,44,49,50,51],[.p (.B 0),.p (.B 2),.f 112 [.B 2],.p (.B 4),.p (.l 134),ni,ni,.p (.l 131),ni,ni,.p (.l 128),ni,ni],[eH,.m 9 3,.c 120 [.R 3],.r 9 false,mY],
 [⟨⟨.nm,[0,3,4,10,23,24,25,42,43,44],[.p (.B 0),.p (.B 2),.f 112 [.B 2],.p (.B 4),.p (.l 134),ni,ni,.p (.l 131),ni,ni],[eH,.m 9 3,.c 120 [.R 3],.r 9 false,mY]⟩,List (List UInt8),λ d r=>(((),(),((),()),(),d.1.2.2.2.2.1,d.1.2.2.2.2.2.1,d.1.2.2.2.2.2.2.1,d.1.2.2.2.2.2.2.2.1,d.1.2.2.2.2.2.2.2.2.1,d.1.2.2.2.2.2.2.2.2.2.1,()),((d.2.1.1,(),d.2.1.2.2.1,()),d.2.2.1,((),()),r,d.2.2.2.2.2.1,()))⟩],
 λ k d=>VZ k (⟨d.2.2.2.2.2.1.1,d.2.2.2.2.2.1.2.1,d.1.2.2.2.2.2.2.2.2.2.2.1,(Mq d.2.2.2.2.2.1.2.2.2),d.2.2.2.2.2.1.2.2.2.2.2.1,d.2.2.2.2.2.1.2.2.2.2.2.2.1,d.2.2.2.2.2.1.2.2.2.2.2.2.2.1,d.2.2.2.2.2.1.2.2.2.2.2.2.2.2.1⟩:I.Method) d.2.2.2.2.1 d.1.2.2.2.2.2.2.2.2.2.2.2.2.1 d.1.2.2.2.2.2.2.2.2.2.2.2.1 d.2.2.2.2.2.1.2.2.1⟩ (bP.bY (λ d=>dJ) λ k da db q h=>by
 obtain⟨_,_,⟨_,_⟩,_,(v0:List I.aq),(v1:Int),(s:Int),(v3:List I.Method),(v4:Int),(v5:Int),(f:List I.Kind),(t:Int),(g:Int),_⟩:=da
 obtain⟨⟨(v9:List I.aq),_,(o:List Int),_⟩,(p:List ((List UInt8)×Int)),⟨_,_⟩,(a:List (List UInt8)),⟨(i:List UInt8),(j:Bool),(u:List I.Kind),(gP:Int),(b:List UInt8),(l:Int),(m:Int),(c:List UInt8),(e:List I.Handler),_⟩,_⟩:=db
 obtain⟨n,_⟩:=ei h
 dsimp only at n
 obtain⟨rfl,rfl,_⟩:=n
 conv=>rhs;change eh (α:=List (List UInt8)) _ (VZ (k+1) (⟨i,j,f,(⟨gP,b⟩:I.Kind),l,m,c,e⟩:I.Method) a g (f.length:Int) (f));rw[<-Z7 (k+1) (⟨i,j,f,(⟨gP,b⟩:I.Kind),l,m,c,e⟩:I.Method) a g];simp only[x9,bb,Z7];simp only[bW]
 kernel_rfl)
def V0(k:Nat)(a:I.Method)(b:List (List UInt8))(c:Int)(kP:Int):=dt ((a.cL.length:Int)=kP/\True) (tz a k b c)
theorem Z8(k:Nat)(a:I.Method)(b:List (List UInt8))(c:Int):tz a k b c=V0 k (⟨[],false,[],(⟨0,[]⟩:I.Kind),0,0,[],a.cL⟩:I.Method) b c (a.cL.length:Int):=(show tz a k b c=tz (⟨[],false,[],(⟨0,[]⟩:I.Kind),0,0,[],a.cL⟩:I.Method) k b c by kernel_rfl).trans (dK ⟨rfl,trivial⟩).symm
def atl(F:Nat):aS aI:=(atk F).b2 79 8 F ⟨[0,3,4,23,24,25,42,43,44,64,65,66],[.p (.B 0),.p (.B 2),.f 112 [.B 2],.p (.l 134),ni,ni,.p (.l 131),ni,ni,.p (.l 157),ni,ni],[eH,.m 9 3,.c 120 [.R 3],.r 9 false],
 [⟨⟨.nm,[0,3,4,23,24,25,42,43,44],[.p (.B 0),.p (.B 2),.f 112 [.B 2],.p (.l 134),ni,ni,.p (.l 131),ni,ni],[eH,.m 9 3,.c 120 [.R 3],.r 9 false]⟩,List (List UInt8),λ d r=>(((),(),((),()),d.1.2.2.2.1,d.1.2.2.2.2.1,d.1.2.2.2.2.2.1,d.1.2.2.2.2.2.2.1,d.1.2.2.2.2.2.2.2.1,d.1.2.2.2.2.2.2.2.2.1,()),((d.2.1.1,(),d.2.1.2.2.1,()),d.2.2.1,((),()),r,()))⟩],
 λ k d=>V0 k (⟨[],false,[],(⟨0,[]⟩:I.Kind),0,0,[],d.1.2.2.2.2.2.2.2.2.2.1⟩:I.Method) d.2.2.2.2.1 d.1.2.2.2.2.2.2.2.2.2.2.2.1 d.1.2.2.2.2.2.2.2.2.2.2.1⟩ (bP.bY (λ d=>dJ) λ k da db q h=>by
 obtain⟨_,_,⟨_,_⟩,(v0:List I.aq),(v1:Int),(i:Int),(v3:List I.Method),(v4:Int),(v5:Int),(b:List I.Handler),(j:Int),(c:Int),_⟩:=da
 obtain⟨⟨(v9:List I.aq),_,(f:List Int),_⟩,(g:List ((List UInt8)×Int)),⟨_,_⟩,(a:List (List UInt8)),_⟩:=db
 obtain⟨e,_⟩:=ei h
 dsimp only at e
 obtain⟨rfl,_⟩:=e
 conv=>rhs;change eh (α:=List (List UInt8)) _ (V0 (k+1) (⟨[],false,[],(⟨0,[]⟩:I.Kind),0,0,[],b⟩:I.Method) a c (b.length:Int));rw[<-Z8 (k+1) (⟨[],false,[],(⟨0,[]⟩:I.Kind),0,0,[],b⟩:I.Method) a c];simp only[tz,bb,Z8];simp only[bW]
 kernel_rfl)
def VY(F:Nat)(k:Nat)(a:I.aq)(b:List (List UInt8))(vE:Int)(bR:Int):=dt ((a.bp.length:Int)=bR/\True) (tx F a k b vE)
theorem Z6(F:Nat)(k:Nat)(a:I.aq)(b:List (List UInt8))(vE:Int):tx F a k b vE=VY F k (⟨[],[],[],a.bp⟩:I.aq) b vE (a.bp.length:Int):=(show tx F a k b vE=tx F (⟨[],[],[],a.bp⟩:I.aq) k b vE by kernel_rfl).trans (dK ⟨rfl,trivial⟩).symm
def atm(F:Nat):aS aI:=(atl F).b2 79 4 F ⟨[0,3,4,23,24,25,42,43,44],[.p (.B 0),.p (.B 2),.f 112 [.B 2],.p (.l 134),ni,ni,.p (.l 131),ni,ni],[eH,.m 9 3,.c 120 [.R 3],.r 9 false],
 [⟨⟨.nm,[0,3,4,23,24,25],[.p (.B 0),.p (.B 2),.f 112 [.B 2],.p (.l 134),ni,ni],[eH,.m 9 3,.c 120 [.R 3],.r 9 false]⟩,List (List UInt8),λ d r=>(((),(),((),()),d.1.2.2.2.1,d.1.2.2.2.2.1,d.1.2.2.2.2.2.1,()),((d.2.1.1,(),d.2.1.2.2.1,()),d.2.2.1,((),()),r,()))⟩],
 λ k d=>VY F k (⟨[],[],[],d.1.2.2.2.2.2.2.1⟩:I.aq) d.2.2.2.2.1 d.1.2.2.2.2.2.2.2.2.1 d.1.2.2.2.2.2.2.2.1⟩ (bP.bY (λ d=>dJ) λ k da db q h=>by
 obtain⟨_,_,⟨_,_⟩,(v0:List I.aq),(v1:Int),(b:Int),(v3:List I.Method),(v4:Int),(v5:Int),_⟩:=da
 obtain⟨⟨(c:List I.aq),_,(e:List Int),_⟩,(f:List ((List UInt8)×Int)),⟨_,_⟩,(v9:List (List UInt8)),_⟩:=db
 obtain⟨a,_⟩:=ei h
 dsimp only at a
 obtain⟨rfl,_⟩:=a
 conv=>rhs;change eh (α:=List (List UInt8)) _ (VY F (k+1) (⟨[],[],[],v3⟩:I.aq) v9 v5 (v3.length:Int));rw[<-Z6 F (k+1) (⟨[],[],[],v3⟩:I.aq) v9 v5];simp only[tx,bb,Z7,Z8,Z6];simp only[bW]
 kernel_rfl)
def VW(F:Nat)(k:Nat)(a:I.bt)(Ev:List (List UInt8))(b:Int)(c:Int)(aW:List I.aq):=dt ((a.l.length:Int)=c/\(a.l:List I.aq)=aW/\True) (x7 F a k Ev b)
theorem Z4(F:Nat)(k:Nat)(a:I.bt)(Ev:List (List UInt8))(b:Int):x7 F a k Ev b=VW F k a Ev b (a.l.length:Int) a.l:=(dK ⟨rfl,rfl,trivial⟩).symm
def ato(F:Nat):aS aI:=(atm F).b2 79 0 F ⟨[0,3,4,23,24,25],[.p (.B 0),.p (.B 2),.f 112 [.B 2],.p (.l 134),ni,ni],[eH,.m 9 3,.c 120 [.R 3],.r 9 false],
 [⟨⟨.nm,[0,3],[.p (.B 0),.p (.B 2)],[eH,.m 9 3,.c 120 [.R 3],.r 9 false]⟩,List (List UInt8),λ d r=>(((),(),()),((d.2.1.1,(),d.2.1.2.2.1,()),d.2.2.1,((),()),r,()))⟩],
 λ k d=>VW F k (⟨d.1.2.2.2.1,d.2.2.1,d.2.1.2.2.1⟩:I.bt) d.2.2.2.2.1 d.1.2.2.2.2.2.1 d.1.2.2.2.2.1 d.2.1.1⟩ (bP.bY (λ d=>dJ) λ k da db q h=>by
 obtain⟨_,_,⟨_,_⟩,(v0:List I.aq),(v1:Int),(a:Int),_⟩:=da
 obtain⟨⟨(v3:List I.aq),_,(v4:List Int),_⟩,(v5:List ((List UInt8)×Int)),⟨_,_⟩,(b:List (List UInt8)),_⟩:=db
 obtain⟨c,_⟩:=ei h
 dsimp only at c
 obtain⟨rfl,rfl,_⟩:=c
 conv=>rhs;change eh (α:=List (List UInt8)) _ (VW F (k+1) (⟨v0,v5,v4⟩:I.bt) b a (v0.length:Int) (v0));rw[<-Z4 F (k+1) (⟨v0,v5,v4⟩:I.bt) b a];simp only[x7,bb,Z5,Z6,Z4];simp only[bW]
 kernel_rfl)
def V1(k:Nat)(b:I.bt)(a:List (List UInt8))(c:Int)(d:Int):=dt ((a.length:Int)=d/\True) (bf (AR b a k c))
theorem Z9(k:Nat)(b:I.bt)(a:List (List UInt8))(c:Int):bf (AR b a k c)=V1 k b a c (a.length:Int):=(dK ⟨rfl,trivial⟩).symm
def atp(F:Nat):aS aI:=(ato F).b2 79 10 F ⟨[0,78,79,80],[.p (.B 0),.p (.R 2),ni,ni],[eH,.m 9 3,.r 9 true],
 [⟨⟨.nm,[],[],[eH,.m 9 3,.d]⟩,Unit,λ d r=>((),((d.2.1.1,(),d.2.1.2.2.1,()),d.2.2.1,(),()))⟩,
  ⟨⟨.rt,[2],[ni],[eH,.m 9 3,.d]⟩,Int,λ d r=>((r,()),((d.2.1.1,(),d.2.1.2.2.1,()),d.2.2.1,(),()))⟩],
 λ k d=>V1 k (⟨d.2.1.1,d.2.2.1,d.2.1.2.2.1⟩:I.bt) d.2.2.2.1 d.1.2.2.2.1 d.1.2.2.1⟩ (bP.bY (λ d=>dJ) λ k da db q h=>by
 obtain⟨_,_,(v0:Int),(v1:Int),_⟩:=da
 obtain⟨⟨(a:List I.aq),_,(v3:List Int),_⟩,(v4:List ((List UInt8)×Int)),(v5:List (List UInt8)),_⟩:=db
 obtain⟨b,_⟩:=ei h
 dsimp only at b
 obtain⟨rfl,_⟩:=b
 conv=>rhs;change eh (α:=Unit⊕Int) _ (V1 (k+1) (⟨a,v4,v3⟩:I.bt) v5 v1 (v5.length:Int));rw[<-Z9 (k+1) (⟨a,v4,v3⟩:I.bt) v5 v1];simp only[AR,bb,Z9];simp only[bW]
 kernel_rfl)
def atq(F:Nat):aS aI:=(atp F).rt 79 ⟨[.p (.B 0)],[eH,.m 9 3],[ni],[eH,.m 9 3],Int,λ d=>K_ F (⟨d.2.1.1,d.2.2.1,d.2.1.2.2.1⟩:I.bt),λ d r=>((r,()),((d.2.1.1,(),d.2.1.2.2.1,()),d.2.2.1,()))⟩ λ da db=>by
 obtain⟨_,_⟩:=da;obtain⟨⟨(v0:List I.aq),_,(v1:List Int),_⟩,(a:List ((List UInt8)×Int)),_⟩:=db;conv=>rhs;simp only[K_,bb,Z4,Z9]
 kernel_rfl
def V3(k:Nat)(a:List (List UInt8))(b:List ((List UInt8)×Bool))(c:Int)(d:List (List UInt8))(ao:Int):=dt ((a:List (List UInt8))=d/\(a.length:Int)=ao/\True) (AU a k b c)
theorem Z'(k:Nat)(a:List (List UInt8))(b:List ((List UInt8)×Bool))(c:Int):AU a k b c=V3 k a b c a (a.length:Int):=(dK ⟨rfl,rfl,trivial⟩).symm
def atr(F:Nat):aS aI:=(atq F).b2 113 0 F ⟨[0,3,7,8,9],[.p (.l 9),.p (.M 0),.p (.l 9),ni,ni],[.m 9 4],
 [⟨⟨.nm,[0,3],[.p (.l 9),.p (.M 0)],[.m 9 4]⟩,List ((List UInt8)×Bool),λ d r=>((d.1.1,(),()),(r,()))⟩],
 λ k d=>V3 k d.1.1 d.2.1 d.1.2.2.2.2.1 d.1.2.2.1 d.1.2.2.2.1⟩ (bP.bY (λ d=>dJ) λ k da db q h=>by
 obtain⟨(v0:List (List UInt8)),_,(v1:List (List UInt8)),(b:Int),(v3:Int),_⟩:=da
 obtain⟨(v4:List ((List UInt8)×Bool)),_⟩:=db
 obtain⟨a,_⟩:=ei h
 dsimp only at a
 obtain⟨rfl,rfl,_⟩:=a
 conv=>rhs;change eh (α:=List ((List UInt8)×Bool)) _ (V3 (k+1) v0 v4 v3 (v0) (v0.length:Int));rw[<-Z' (k+1) v0 v4 v3];simp only[AU,bb,Z'];simp only[bW]
 kernel_rfl)
def ats(F:Nat):aS aI:=(atr F).rt 113 ⟨[.p (.l 9)],[],[nk],[],Bool,λ d=>Hs F d.1.1,λ d r=>((r,()),())⟩ λ da db=>by
 obtain⟨(v0:List (List UInt8)),_⟩:=da;conv=>rhs;simp only[Hs,bb,Z']
 kernel_rfl
def VU(k:Nat)(b:List I.Field)(c:List (List UInt8))(d:Int)(aW:Int)(a:List (List UInt8)):=dt ((b.length:Int)=aW/\([]:List (List UInt8))=a/\True) (x6 b k c d)
theorem Z2(k:Nat)(a:List I.Field)(b:List (List UInt8))(c:Int):x6 a k b c=VU k a b c (a.length:Int) []:=(dK ⟨rfl,rfl,trivial⟩).symm
def att(F:Nat):aS aI:=(ats F).b2 80 2 F ⟨[0,4,5,6,14,15,16,23,24,25],[.p (.B 0),.p (.B 2),.p (.R 3),.p (.R 4),.p (.l 134),ni,ni,.p (.R 5),ni,ni],[eH,.m 9 3,iJ,.r 9 false,.r 9 false,.r 136 true],
 [⟨⟨.nm,[0,4,5,6,14,15,16],[.p (.B 0),.p (.B 2),.p (.R 3),.p (.R 4),.p (.l 134),ni,ni],[eH,.m 9 3,iJ,.r 9 false,.r 9 false,.d]⟩,List (List UInt8),λ d r=>(((),(),(),(),d.1.2.2.2.2.1,d.1.2.2.2.2.2.1,d.1.2.2.2.2.2.2.1,()),((d.2.1.1,(),d.2.1.2.2.1,()),d.2.2.1,d.2.2.2.1,r,d.2.2.2.2.2.1,(),()))⟩],
 λ k d=>VU k d.2.2.2.2.2.2.1 d.2.2.2.2.1 d.1.2.2.2.2.2.2.2.2.2.1 d.1.2.2.2.2.2.2.2.2.1 d.2.2.2.2.2.1⟩ (bP.bY (λ d=>dJ) λ k da db q h=>by
 obtain⟨_,_,_,_,(v0:List I.aq),(v1:Int),(g:Int),_,(v3:Int),(v4:Int),_⟩:=da
 obtain⟨⟨(v5:List I.aq),_,(i:List Int),_⟩,(j:List ((List UInt8)×Int)),⟨(l:List UInt8),(v9:List UInt8),(e:List I.Field),(f:List I.Method),_⟩,(a:List (List UInt8)),(m:List (List UInt8)),(b:List I.Field),_⟩:=db
 obtain⟨c,_⟩:=ei h
 dsimp only at c
 obtain⟨rfl,rfl,_⟩:=c
 conv=>rhs;change eh (α:=List (List UInt8)) _ (VU (k+1) b a v4 (b.length:Int) ([]));rw[<-Z2 (k+1) b a v4];simp only[x6,bb,Z2];simp only[bW]
 kernel_rfl)
def VV(k:Nat)(a:I.aq)(b:List (List UInt8))(c:Int)(bR:Int):=dt ((a.bp.length:Int)=bR/\True) (tw a k b c)
theorem Z3(k:Nat)(a:I.aq)(b:List (List UInt8))(c:Int):tw a k b c=VV k (⟨[],[],[],a.bp⟩:I.aq) b c (a.bp.length:Int):=(show tw a k b c=tw (⟨[],[],[],a.bp⟩:I.aq) k b c by kernel_rfl).trans (dK ⟨rfl,trivial⟩).symm
def atu(F:Nat):aS aI:=(att F).b2 80 4 F ⟨[0,5,6,14,15,16,36,37,38],[.p (.B 0),.p (.R 2),.p (.R 3),.p (.l 134),ni,ni,.p (.l 131),ni,ni],[eH,.m 9 3,.r 9 false,.r 9 false],
 [⟨⟨.nm,[0,5,6,14,15,16],[.p (.B 0),.p (.R 2),.p (.R 3),.p (.l 134),ni,ni],[eH,.m 9 3,.r 9 false,.r 9 false]⟩,List (List UInt8),λ d r=>(((),(),(),d.1.2.2.2.1,d.1.2.2.2.2.1,d.1.2.2.2.2.2.1,()),((d.2.1.1,(),d.2.1.2.2.1,()),d.2.2.1,d.2.2.2.1,r,()))⟩],
 λ k d=>VV k (⟨[],[],[],d.1.2.2.2.2.2.2.1⟩:I.aq) d.2.2.2.2.1 d.1.2.2.2.2.2.2.2.2.1 d.1.2.2.2.2.2.2.2.1⟩ (bP.bY (λ d=>dJ) λ k da db q h=>by
 obtain⟨_,_,_,(v0:List I.aq),(v1:Int),(c:Int),(v3:List I.Method),(v4:Int),(v5:Int),_⟩:=da
 obtain⟨⟨(e:List I.aq),_,(f:List Int),_⟩,(g:List ((List UInt8)×Int)),(v9:List (List UInt8)),(a:List (List UInt8)),_⟩:=db
 obtain⟨b,_⟩:=ei h
 dsimp only at b
 obtain⟨rfl,_⟩:=b
 conv=>rhs;change eh (α:=List (List UInt8)) _ (VV (k+1) (⟨[],[],[],v3⟩:I.aq) a v5 (v3.length:Int));rw[<-Z3 (k+1) (⟨[],[],[],v3⟩:I.aq) a v5];simp only[tw,bb,Z3];simp only[bW]
 kernel_rfl)
def VT(F:Nat)(k:Nat)(a:I.bt)(b:Int)(c:Int)(aW:List I.aq):=dt ((a.l.length:Int)=c/\(a.l:List I.aq)=aW/\True) (bf (AO F a k b))
theorem Z1(F:Nat)(k:Nat)(a:I.bt)(b:Int):bf (AO F a k b)=VT F k a b (a.l.length:Int) a.l:=(dK ⟨rfl,rfl,trivial⟩).symm
def atw(F:Nat):aS aI:=(atu F).b2 80 0 F ⟨[0,14,15,16],[.p (.B 0),.p (.l 134),ni,ni],[eH,.m 9 3],
 [⟨⟨.nm,[],[],[eH,.m 9 3]⟩,Unit,λ d r=>((),((d.2.1.1,(),d.2.1.2.2.1,()),d.2.2.1,()))⟩,
  ⟨⟨.rt,[2],[ni],[eH,.m 9 3]⟩,Int,λ d r=>((r,()),((d.2.1.1,(),d.2.1.2.2.1,()),d.2.2.1,()))⟩],
 λ k d=>VT F k (⟨d.1.2.1,d.2.2.1,d.2.1.2.2.1⟩:I.bt) d.1.2.2.2.1 d.1.2.2.1 d.2.1.1⟩ (bP.bY (λ d=>dJ) λ k da db q h=>by
 obtain⟨_,(v0:List I.aq),(v1:Int),(a:Int),_⟩:=da
 obtain⟨⟨(v3:List I.aq),_,(v4:List Int),_⟩,(v5:List ((List UInt8)×Int)),_⟩:=db
 obtain⟨b,_⟩:=ei h
 dsimp only at b
 obtain⟨rfl,rfl,_⟩:=b
 conv=>rhs;change eh (α:=Unit⊕Int) _ (VT F (k+1) (⟨v0,v5,v4⟩:I.bt) a (v0.length:Int) (v0));rw[<-Z1 F (k+1) (⟨v0,v5,v4⟩:I.bt) a];simp only[AO,bb,Z2,Z3,Z1];simp only[bW]
 kernel_rfl)
def atC(F:Nat):aS aI:=(atw F).rt 80 ⟨[.p (.B 0)],[eH,.m 9 3],[ni],[eH,.m 9 3],Int,λ d=>K9 F (⟨d.2.1.1,d.2.2.1,d.2.1.2.2.1⟩:I.bt),λ d r=>((r,()),((d.2.1.1,(),d.2.1.2.2.1,()),d.2.2.1,()))⟩ λ da db=>by
 obtain⟨_,_⟩:=da;obtain⟨⟨(v0:List I.aq),_,(v1:List Int),_⟩,(a:List ((List UInt8)×Int)),_⟩:=db;conv=>rhs;simp only[K9,bb,Z1]
 kernel_rfl
def atD(F:Nat):aS aI:=(atC F).b2 114 0 F ⟨[0,1,5],[.p (.B 0),ni,.p (.R 2)],[eH,.m 9 3,.r 3 false],
 [⟨⟨.nm,[5],[.p (.R 2)],[eH,.m 9 3,.r 3 false]⟩,List Int,λ d r=>(((),()),((d.2.1.1,(),d.2.1.2.2.1,()),d.2.2.1,r,()))⟩],
 λ k d=>tt (⟨d.2.1.1,d.2.2.1,d.2.1.2.2.1⟩:I.bt) k d.2.2.2.1 d.1.2.1⟩ (bP.bY (λ d=>rfl) λ k da db q h=>by
 conv=>rhs;simp only[tt,bb];simp only[bW]
 kernel_rfl)
def atF(F:Nat):aS aI:=(atD F).rt 114 ⟨[.p (.B 0),ni],[eH,.m 9 3],[nj],[eH,.m 9 3],List Int,λ d=>ts F (⟨d.2.1.1,d.2.2.1,d.2.1.2.2.1⟩:I.bt) d.1.2.1,λ d r=>((r,()),((d.2.1.1,(),d.2.1.2.2.1,()),d.2.2.1,()))⟩ λ da db=>by
 conv=>rhs;simp only[ts,bb]
 kernel_rfl
def V'(k:Nat)(a:List I.Kind)(b:List I.Kind)(c:Int)(ao:Int):=dt ((a.length:Int)=ao/\True) (bf (E4 a b k c))
theorem aai(k:Nat)(a:List I.Kind)(b:List I.Kind)(c:Int):bf (E4 a b k c)=V' k a b c (a.length:Int):=(dK ⟨rfl,trivial⟩).symm
def atG(F:Nat):aS aI:=(atF F).b2 143 0 F ⟨[0,1,12,13],[.p (.l 128),.p (.l 128),ni,ni],[],
 [⟨⟨.nm,[],[],[]⟩,Unit,λ d r=>((),())⟩,
  ⟨⟨.rt,[4],[nk],[]⟩,Bool,λ d r=>((r,()),())⟩],
 λ k d=>V' k d.1.1 d.1.2.1 d.1.2.2.2.1 d.1.2.2.1⟩ (bP.bY (λ d=>dJ) λ k da db q h=>by
 obtain⟨(v0:List I.Kind),(v1:List I.Kind),(b:Int),(v3:Int),_⟩:=da
 obtain⟨a,_⟩:=ei h
 dsimp only at a
 obtain⟨rfl,_⟩:=a
 conv=>rhs;change eh (α:=Unit⊕Bool) _ (V' (k+1) v0 v1 v3 (v0.length:Int));rw[<-aai (k+1) v0 v1 v3];simp only[E4,bb,aai];simp only[bW]
 kernel_rfl)
def atH(F:Nat):aS aI:=(atG F).rt 143 ⟨[.p (.l 128),.p (.l 128)],[],[nk],[],Bool,λ d=>Md F d.1.1 d.1.2.1,λ d r=>((r,()),())⟩ λ da db=>by
 obtain⟨(v0:List I.Kind),(v1:List I.Kind),_⟩:=da;conv=>rhs;simp only[Md,bb,aai]
 kernel_rfl
def atI(F:Nat):aS aI:=(atH F).rt 115 ⟨[QC,QC],[],[nk],[],Bool,λ d=>PP F (vV d.1.1) (vV d.1.2.1),λ d r=>((r,()),())⟩ λ da db=>by
 obtain⟨⟨(v0:List UInt8),(v1:Bool),(f:List I.Kind),(v3:Int),(v4:List UInt8),(v5:Int),(g:Int),(h:List UInt8),(i:List I.Handler),_⟩,⟨(v9:List UInt8),(a:Bool),(b:List I.Kind),(c:Int),(j:List UInt8),(k:Int),(l:Int),(gP:List UInt8),(e:List I.Handler),_⟩,_⟩:=da;conv=>rhs;simp only[PP,bb,aFr]
 kernel_rfl
def VR(F:Nat)(k:Nat)(b:I.Method)(a:I.aq)(c:Int)(Gx:Int):=dt ((a.bp.length:Int)=Gx/\True) (bf (tu F b a k c))
theorem ZZ(F:Nat)(k:Nat)(b:I.Method)(a:I.aq)(c:Int):bf (tu F b a k c)=VR F k b (⟨[],[],[],a.bp⟩:I.aq) c (a.bp.length:Int):=(show bf (tu F b a k c)=bf (tu F b (⟨[],[],[],a.bp⟩:I.aq) k c) by kernel_rfl).trans (dK ⟨rfl,trivial⟩).symm
def atJ(F:Nat):aS aI:=(atI F).b2 81 6 F ⟨[0,4,6,8,14,15,16,24,25,26,31,32,33,44,45,46],[.p (.B 0),.p (.B 2),ni,.p (.B 3),.p (.l 134),ni,ni,nj,ni,ni,.p (.l 131),ni,ni,.p (.l 131),ni,ni],[eH,.m 9 3,iJ,mY],
 [⟨⟨.nm,[0,4,6,14,15,16,24,25,26,31,32,33],[.p (.B 0),.p (.B 2),ni,.p (.l 134),ni,ni,nj,ni,ni,.p (.l 131),ni,ni],[eH,.m 9 3,iJ,mY]⟩,Unit,λ d r=>(((),(),d.1.2.2.1,d.1.2.2.2.2.1,d.1.2.2.2.2.2.1,d.1.2.2.2.2.2.2.1,d.1.2.2.2.2.2.2.2.1,d.1.2.2.2.2.2.2.2.2.1,d.1.2.2.2.2.2.2.2.2.2.1,d.1.2.2.2.2.2.2.2.2.2.2.1,d.1.2.2.2.2.2.2.2.2.2.2.2.1,d.1.2.2.2.2.2.2.2.2.2.2.2.2.1,()),((d.2.1.1,(),d.2.1.2.2.1,()),d.2.2.1,d.2.2.2.1,d.2.2.2.2.1,()))⟩,
  ⟨⟨.rt,[2],[ni],[eH,.m 9 3,.d,.d]⟩,Int,λ d r=>((r,()),((d.2.1.1,(),d.2.1.2.2.1,()),d.2.2.1,(),(),()))⟩],
 λ k d=>VR F k (vV d.2.2.2.2.1) (⟨[],[],[],d.1.2.2.2.2.2.2.2.2.2.2.2.2.2.1⟩:I.aq) d.1.2.2.2.2.2.2.2.2.2.2.2.2.2.2.2.1 d.1.2.2.2.2.2.2.2.2.2.2.2.2.2.2.1⟩ (bP.bY (λ d=>dJ) λ k da db q h=>by
 obtain⟨_,_,(v0:Int),_,(v1:List I.aq),(p:Int),(v3:Int),(v4:List Int),(v5:Int),(s:Int),(t:List I.Method),(u:Int),(v9:Int),(a:List I.Method),(n:Int),(b:Int),_⟩:=da
 obtain⟨⟨(v:List I.aq),_,(w:List Int),_⟩,(x:List ((List UInt8)×Int)),⟨(gP:List UInt8),(o:List UInt8),(y:List I.Field),(z:List I.Method),_⟩,⟨(c:List UInt8),(e:Bool),(v22:List I.Kind),(f:Int),(g:List UInt8),(v25:Int),(i:Int),(j:List UInt8),(l:List I.Handler),_⟩,_⟩:=db
 obtain⟨m,_⟩:=ei h
 dsimp only at m
 obtain⟨rfl,_⟩:=m
 conv=>rhs;change eh (α:=Unit⊕Int) _ (VR F (k+1) (⟨c,e,v22,(⟨f,g⟩:I.Kind),v25,i,j,l⟩:I.Method) (⟨[],[],[],a⟩:I.aq) b (a.length:Int));rw[<-ZZ F (k+1) (⟨c,e,v22,(⟨f,g⟩:I.Kind),v25,i,j,l⟩:I.Method) (⟨[],[],[],a⟩:I.aq) b];simp only[tu,bb,ZZ];simp only[bW]
 kernel_rfl)
def VQ(F:Nat)(k:Nat)(a:I.bt)(b:I.aq)(d:Int)(e:Int)(ao:Int)(f:Int)(Gw:List I.aq)(c:List I.Method):=dt ((a.l.length:Int)=ao/\(b.bp.length:Int)=f/\(a.l:List I.aq)=Gw/\(b.bp:List I.Method)=c/\True) (bf (AN F a b d k e))
theorem ZY(F:Nat)(k:Nat)(a:I.bt)(b:I.aq)(c:Int)(d:Int):bf (AN F a b c k d)=VQ F k a b c d (a.l.length:Int) (b.bp.length:Int) a.l b.bp:=(dK ⟨rfl,rfl,rfl,rfl,trivial⟩).symm
def atK(F:Nat):aS aI:=(atJ F).b2 81 4 F ⟨[0,4,6,14,15,16,24,25,26,31,32,33],[.p (.B 0),.p (.B 2),ni,.p (.l 134),ni,ni,nj,ni,ni,.p (.l 131),ni,ni],[eH,.m 9 3,iJ],
 [⟨⟨.nm,[0,4,14,15,16,24,25,26],[.p (.B 0),.p (.B 2),.p (.l 134),ni,ni,nj,ni,ni],[eH,.m 9 3,iJ]⟩,Unit,λ d r=>(((),(),d.1.2.2.2.1,d.1.2.2.2.2.1,d.1.2.2.2.2.2.1,d.1.2.2.2.2.2.2.1,d.1.2.2.2.2.2.2.2.1,d.1.2.2.2.2.2.2.2.2.1,()),((d.2.1.1,(),d.2.1.2.2.1,()),d.2.2.1,d.2.2.2.1,()))⟩,
  ⟨⟨.rt,[2],[ni],[eH,.m 9 3,.d]⟩,Int,λ d r=>((r,()),((d.2.1.1,(),d.2.1.2.2.1,()),d.2.2.1,(),()))⟩],
 λ k d=>VQ F k (⟨d.1.2.2.2.1,d.2.2.1,d.2.1.2.2.1⟩:I.bt) (⟨d.2.2.2.1.1,d.2.2.2.1.2.1,d.2.2.2.1.2.2.1,d.1.2.2.2.2.2.2.2.2.2.1⟩:I.aq) d.1.2.2.1 d.1.2.2.2.2.2.2.2.2.2.2.2.1 d.1.2.2.2.2.1 d.1.2.2.2.2.2.2.2.2.2.2.1 d.2.1.1 d.2.2.2.1.2.2.2.1⟩ (bP.bY (λ d=>dJ) λ k da db q h=>by
 obtain⟨_,_,(v0:Int),(v1:List I.aq),(l:Int),(v3:Int),(v4:List Int),(v5:Int),(m:Int),(c:List I.Method),(n:Int),(v9:Int),_⟩:=da
 obtain⟨⟨(j:List I.aq),_,(a:List Int),_⟩,(b:List ((List UInt8)×Int)),⟨(e:List UInt8),(f:List UInt8),(g:List I.Field),(gP:List I.Method),_⟩,_⟩:=db
 obtain⟨i,_⟩:=ei h
 dsimp only at i
 obtain⟨rfl,rfl,rfl,rfl,_⟩:=i
 conv=>rhs;change eh (α:=Unit⊕Int) _ (VQ F (k+1) (⟨v1,b,a⟩:I.bt) (⟨e,f,g,c⟩:I.aq) v0 v9 (v1.length:Int) (c.length:Int) (v1) (c));rw[<-ZY F (k+1) (⟨v1,b,a⟩:I.bt) (⟨e,f,g,c⟩:I.aq) v0 v9];simp only[AN,bb,ZZ,ZY];simp only[bW]
 kernel_rfl)
def VP(F:Nat)(k:Nat)(a:I.bt)(c:I.aq)(b:List Int)(d:Int)(e:Int)(bR:Int)(eV:List I.aq):=dt ((a.l.length:Int)=e/\(b.length:Int)=bR/\(a.l:List I.aq)=eV/\True) (bf (AM F a c b k d))
theorem ZX(F:Nat)(k:Nat)(a:I.bt)(c:I.aq)(b:List Int)(d:Int):bf (AM F a c b k d)=VP F k a c b d (a.l.length:Int) (b.length:Int) a.l:=(dK ⟨rfl,rfl,rfl,trivial⟩).symm
def atL(F:Nat):aS aI:=(atK F).b2 81 2 F ⟨[0,4,14,15,16,24,25,26],[.p (.B 0),.p (.B 2),.p (.l 134),ni,ni,nj,ni,ni],[eH,.m 9 3,iJ],
 [⟨⟨.nm,[0,14,15,16],[.p (.B 0),.p (.l 134),ni,ni],[eH,.m 9 3,iJ]⟩,Unit,λ d r=>(((),d.1.2.2.1,d.1.2.2.2.1,d.1.2.2.2.2.1,()),((d.2.1.1,(),d.2.1.2.2.1,()),d.2.2.1,d.2.2.2.1,()))⟩,
  ⟨⟨.rt,[2],[ni],[eH,.m 9 3,.d]⟩,Int,λ d r=>((r,()),((d.2.1.1,(),d.2.1.2.2.1,()),d.2.2.1,(),()))⟩],
 λ k d=>VP F k (⟨d.1.2.2.1,d.2.2.1,d.2.1.2.2.1⟩:I.bt) (Ig d.2.2.2.1) d.1.2.2.2.2.2.1 d.1.2.2.2.2.2.2.2.1 d.1.2.2.2.1 d.1.2.2.2.2.2.2.1 d.2.1.1⟩ (bP.bY (λ d=>dJ) λ k da db q h=>by
 obtain⟨_,_,(v0:List I.aq),(v1:Int),(i:Int),(v3:List Int),(v4:Int),(v5:Int),_⟩:=da
 obtain⟨⟨(j:List I.aq),_,(e:List Int),_⟩,(f:List ((List UInt8)×Int)),⟨(v9:List UInt8),(a:List UInt8),(b:List I.Field),(c:List I.Method),_⟩,_⟩:=db
 obtain⟨g,_⟩:=ei h
 dsimp only at g
 obtain⟨rfl,rfl,rfl,_⟩:=g
 conv=>rhs;change eh (α:=Unit⊕Int) _ (VP F (k+1) (⟨v0,f,e⟩:I.bt) (⟨v9,a,b,c⟩:I.aq) v3 v5 (v0.length:Int) (v3.length:Int) (v0));rw[<-ZX F (k+1) (⟨v0,f,e⟩:I.bt) (⟨v9,a,b,c⟩:I.aq) v3 v5];simp only[AM,bb,ZY,ZX];simp only[bW]
 kernel_rfl)
def VO(F:Nat)(k:Nat)(a:I.bt)(b:Int)(c:Int)(aW:List I.aq):=dt ((a.l.length:Int)=c/\(a.l:List I.aq)=aW/\True) (bf (AL F a k b))
theorem ZW(F:Nat)(k:Nat)(a:I.bt)(b:Int):bf (AL F a k b)=VO F k a b (a.l.length:Int) a.l:=(dK ⟨rfl,rfl,trivial⟩).symm
def atM(F:Nat):aS aI:=(atL F).b2 81 0 F ⟨[0,14,15,16],[.p (.B 0),.p (.l 134),ni,ni],[eH,.m 9 3],
 [⟨⟨.nm,[],[],[eH,.m 9 3]⟩,Unit,λ d r=>((),((d.2.1.1,(),d.2.1.2.2.1,()),d.2.2.1,()))⟩,
  ⟨⟨.rt,[2],[ni],[eH,.m 9 3]⟩,Int,λ d r=>((r,()),((d.2.1.1,(),d.2.1.2.2.1,()),d.2.2.1,()))⟩],
 λ k d=>VO F k (⟨d.1.2.1,d.2.2.1,d.2.1.2.2.1⟩:I.bt) d.1.2.2.2.1 d.1.2.2.1 d.2.1.1⟩ (bP.bY (λ d=>dJ) λ k da db q h=>by
 obtain⟨_,(v0:List I.aq),(v1:Int),(a:Int),_⟩:=da
 obtain⟨⟨(v3:List I.aq),_,(v4:List Int),_⟩,(v5:List ((List UInt8)×Int)),_⟩:=db
 obtain⟨b,_⟩:=ei h
 dsimp only at b
 obtain⟨rfl,rfl,_⟩:=b
 conv=>rhs;change eh (α:=Unit⊕Int) _ (VO F (k+1) (⟨v0,v5,v4⟩:I.bt) a (v0.length:Int) (v0));rw[<-ZW F (k+1) (⟨v0,v5,v4⟩:I.bt) a];simp only[AL,bb,ZX,ZW];simp only[bW]
 kernel_rfl)
def atN(F:Nat):aS aI:=(atM F).rt 81 ⟨[.p (.B 0)],[eH,.m 9 3],[ni],[eH,.m 9 3],Int,λ d=>K8 F (⟨d.2.1.1,d.2.2.1,d.2.1.2.2.1⟩:I.bt),λ d r=>((r,()),((d.2.1.1,(),d.2.1.2.2.1,()),d.2.2.1,()))⟩ λ da db=>by
 obtain⟨_,_⟩:=da;obtain⟨⟨(v0:List I.aq),_,(v1:List Int),_⟩,(a:List ((List UInt8)×Int)),_⟩:=db;conv=>rhs;simp only[K8,bb,ZW]
 kernel_rfl
def VJ(F:Nat)(k:Nat)(a:List I.aq)(c:Int×I.bt)(b:Int×I.bt)(d:List (List I.Target))(e:List (List (List UInt8)))(f:List (List I.Field))(g:Int)(h:Int)(ao:List I.aq)(aW:List Int)(bR:List (List I.Field))(dx:List (List (List UInt8)))(eV:List (List I.Target))(Gw:List I.aq)(Gx:List Int):=dt ((a.length:Int)=h/\([]:List I.aq)=ao/\([]:List Int)=aW/\([]:List (List I.Field))=bR/\([]:List (List (List UInt8)))=dx/\([]:List (List I.Target))=eV/\(a:List I.aq)=Gw/\(b.2.dB:List Int)=Gx/\True) (bf (pb F a c b k d e f g))
theorem ZR(F:Nat)(k:Nat)(a:List I.aq)(c:Int×I.bt)(b:Int×I.bt)(d:List (List I.Target))(e:List (List (List UInt8)))(f:List (List I.Field))(g:Int):bf (pb F a c b k d e f g)=VJ F k a (0,(⟨[],c.2.b4,[]⟩:I.bt)) (0,(⟨[],[],b.2.dB⟩:I.bt)) d e f g (a.length:Int) [] [] [] [] [] a b.2.dB:=(show bf (pb F a c b k d e f g)=bf (pb F a (0,(⟨[],c.2.b4,[]⟩:I.bt)) (0,(⟨[],[],b.2.dB⟩:I.bt)) k d e f g) by kernel_rfl).trans (dK ⟨rfl,rfl,rfl,rfl,rfl,rfl,rfl,rfl,trivial⟩).symm
def atO(F:Nat):aS aI:=(atN F).b2 46 2 F ⟨[2,5,9,62,63],[.p (.B 0),.p (.B 1),.p (.B 3),ni,ni],[dY,akS,.m 9 3,akU,.r 124 false,.r 120 false,.r 121 false],
 [⟨⟨.nm,[2,9],[.p (.B 0),.p (.B 3)],[dY,akS,.m 9 3,akU,.r 124 false,.r 120 false,.r 121 false]⟩,(List (List I.Target))×(List (List (List UInt8)))×(List (List I.Field)),λ d r=>(((),(),()),(d.2.1,(d.2.2.1.1,(),d.2.2.1.2.2.1,()),d.2.2.2.1,(d.2.2.2.2.1.1,d.2.2.2.2.1.2.1,(),(),(),()),r.2.2,r.2.1,r.1,()))⟩,
  ⟨⟨.rt,[2,3],[.p (.B 0),ni],[dY,.d,.d,.d,.d,.d,.d]⟩,I.aP×Int,λ d r=>(((),r.2,()),((r.1.a1,r.1.aY,r.1.Fields,r.1.Names,r.1.aZ,()),(),(),(),(),(),(),()))⟩],
 λ k d=>VJ F k d.2.2.1.1 (0,(⟨[],d.2.2.2.1,[]⟩:I.bt)) (0,(⟨[],[],d.2.2.1.2.2.1⟩:I.bt)) d.2.2.2.2.2.2.2.1 d.2.2.2.2.2.2.1 d.2.2.2.2.2.1 d.1.2.2.2.2.1 d.1.2.2.2.1 d.2.1.1 d.2.1.2.1 d.2.1.2.2.1 d.2.1.2.2.2.1 d.2.1.2.2.2.2.1 d.2.2.2.2.1.1 d.2.2.2.2.1.2.1⟩ (bP.bY (λ d=>dJ) λ k da db q h=>by
 obtain⟨_,_,_,(v0:Int),(v1:Int),_⟩:=da
 obtain⟨⟨(l:List I.aq),(v3:List Int),(v4:List (List I.Field)),(v5:List (List (List UInt8))),(m:List (List I.Target)),_⟩,⟨(b:List I.aq),_,(c:List Int),_⟩,(v9:List ((List UInt8)×Int)),⟨(i:List I.aq),(j:List Int),_,_,_,_⟩,(a:List (List I.Field)),(e:List (List (List UInt8))),(f:List (List I.Target)),_⟩:=db
 obtain⟨g,_⟩:=ei h
 dsimp only at g
 obtain⟨rfl,rfl,rfl,rfl,rfl,rfl,rfl,rfl,_⟩:=g
 conv=>rhs;change eh (α:=((List (List I.Target))×(List (List (List UInt8)))×(List (List I.Field)))⊕(I.aP×Int)) _ (VJ F (k+1) b (0,(⟨[],v9,[]⟩:I.bt)) (0,(⟨[],[],c⟩:I.bt)) f e a v1 (b.length:Int) ([]) ([]) ([]) ([]) ([]) (b) ((0,(⟨[],[],c⟩:I.bt)).2.dB));rw[<-ZR F (k+1) b (0,(⟨[],v9,[]⟩:I.bt)) (0,(⟨[],[],c⟩:I.bt)) f e a v1];simp only[pb,bb,ZR];simp only[bW]
 kernel_rfl)
def atQ(F:Nat):aS aI:=(atO F).rt 46 ⟨[.p (.l 134)],[],[h2,ni],[],I.aP×Int,λ d=>Ez F d.1.1,λ d r=>(((r.1.a1,r.1.aY,r.1.Fields,r.1.Names,r.1.aZ,()),r.2,()),())⟩ λ da db=>by
 obtain⟨(v0:List I.aq),_⟩:=da;conv=>rhs;simp only[Ez,bb,ZR]
 kernel_rfl
def Wb(k:Nat)(a:List Int)(b:List Int)(c:Int)(ao:Int):=dt ((a.length:Int)=ao/\True) (bf (BC a b k c))
theorem aak(k:Nat)(a:List Int)(b:List Int)(c:Int):bf (BC a b k c)=Wb k a b c (a.length:Int):=(dK ⟨rfl,trivial⟩).symm
def atS(F:Nat):aS aI:=(atQ F).b2 126 0 F ⟨[0,1,12,13],[nj,nj,ni,ni],[],
 [⟨⟨.nm,[],[],[]⟩,Unit,λ d r=>((),())⟩,
  ⟨⟨.rt,[4],[nk],[]⟩,Bool,λ d r=>((r,()),())⟩],
 λ k d=>Wb k d.1.1 d.1.2.1 d.1.2.2.2.1 d.1.2.2.1⟩ (bP.bY (λ d=>dJ) λ k da db q h=>by
 obtain⟨(v0:List Int),(v1:List Int),(b:Int),(v3:Int),_⟩:=da
 obtain⟨a,_⟩:=ei h
 dsimp only at a
 obtain⟨rfl,_⟩:=a
 conv=>rhs;change eh (α:=Unit⊕Bool) _ (Wb (k+1) v0 v1 v3 (v0.length:Int));rw[<-aak (k+1) v0 v1 v3];simp only[BC,bb,aak];simp only[bW]
 kernel_rfl)
def atT(F:Nat):aS aI:=(atS F).rt 126 ⟨[nj,nj],[],[nk],[],Bool,λ d=>Mg F d.1.1 d.1.2.1,λ d r=>((r,()),())⟩ λ da db=>by
 obtain⟨(v0:List Int),(v1:List Int),_⟩:=da;conv=>rhs;simp only[Mg,bb,aak]
 kernel_rfl
def V_(k:Nat)(a:List I.Field)(b:List I.Field)(c:Int)(ao:Int):=dt ((a.length:Int)=ao/\True) (bf (BA a b k c))
theorem aah(k:Nat)(a:List I.Field)(b:List I.Field)(c:Int):bf (BA a b k c)=V_ k a b c (a.length:Int):=(dK ⟨rfl,trivial⟩).symm
def atU(F:Nat):aS aI:=(atT F).b2 128 0 F ⟨[0,1,12,13],[.p (.l 136),.p (.l 136),ni,ni],[],
 [⟨⟨.nm,[],[],[]⟩,Unit,λ d r=>((),())⟩,
  ⟨⟨.rt,[4],[nk],[]⟩,Bool,λ d r=>((r,()),())⟩],
 λ k d=>V_ k d.1.1 d.1.2.1 d.1.2.2.2.1 d.1.2.2.1⟩ (bP.bY (λ d=>dJ) λ k da db q h=>by
 obtain⟨(v0:List I.Field),(v1:List I.Field),(b:Int),(v3:Int),_⟩:=da
 obtain⟨a,_⟩:=ei h
 dsimp only at a
 obtain⟨rfl,_⟩:=a
 conv=>rhs;change eh (α:=Unit⊕Bool) _ (V_ (k+1) v0 v1 v3 (v0.length:Int));rw[<-aah (k+1) v0 v1 v3];simp only[BA,bb,aah];simp only[bW]
 kernel_rfl)
def atV(F:Nat):aS aI:=(atU F).rt 128 ⟨[.p (.l 136),.p (.l 136)],[],[nk],[],Bool,λ d=>Mc F d.1.1 d.1.2.1,λ d r=>((r,()),())⟩ λ da db=>by
 obtain⟨(v0:List I.Field),(v1:List I.Field),_⟩:=da;conv=>rhs;simp only[Mc,bb,aah]
 kernel_rfl
def V7(F:Nat)(k:Nat)(a:List (List I.Field))(b:List (List I.Field))(c:Int)(ao:Int):=dt ((a.length:Int)=ao/\True) (bf (Bx F a b k c))
theorem aae(F:Nat)(k:Nat)(a:List (List I.Field))(b:List (List I.Field))(c:Int):bf (Bx F a b k c)=V7 F k a b c (a.length:Int):=(dK ⟨rfl,trivial⟩).symm
def atW(F:Nat):aS aI:=(atV F).b2 127 0 F ⟨[1,2,15,16,17],[.p (.l 124),.f 128 [],.p (.l 124),ni,ni],[],
 [⟨⟨.nm,[],[],[]⟩,Unit,λ d r=>((),())⟩,
  ⟨⟨.rt,[6],[nk],[]⟩,Bool,λ d r=>((r,()),())⟩],
 λ k d=>V7 F k d.1.2.2.1 d.1.1 d.1.2.2.2.2.1 d.1.2.2.2.1⟩ (bP.bY (λ d=>dJ) λ k da db q h=>by
 obtain⟨(v0:List (List I.Field)),_,(v1:List (List I.Field)),(b:Int),(v3:Int),_⟩:=da
 obtain⟨a,_⟩:=ei h
 dsimp only at a
 obtain⟨rfl,_⟩:=a
 conv=>rhs;change eh (α:=Unit⊕Bool) _ (V7 F (k+1) v1 v0 v3 (v1.length:Int));rw[<-aae F (k+1) v1 v0 v3];simp only[Bx,bb,aae];simp only[bW]
 kernel_rfl)
def atX(F:Nat):aS aI:=(atW F).rt 127 ⟨[.p (.l 124),.p (.l 124),.f 128 []],[],[nk],[],Bool,λ d=>L_ F d.1.1 d.1.2.1,λ d r=>((r,()),())⟩ λ da db=>by
 obtain⟨(v0:List (List I.Field)),(v1:List (List I.Field)),_,_⟩:=da;conv=>rhs;simp only[L_,bb,aae]
 kernel_rfl
def Wc(k:Nat)(a:List (List UInt8))(b:List (List UInt8))(c:Int)(ao:Int):=dt ((a.length:Int)=ao/\True) (bf (BD a b k c))
theorem aal(k:Nat)(a:List (List UInt8))(b:List (List UInt8))(c:Int):bf (BD a b k c)=Wc k a b c (a.length:Int):=(dK ⟨rfl,trivial⟩).symm
def atY(F:Nat):aS aI:=(atX F).b2 130 0 F ⟨[0,1,12,13],[.p (.l 9),.p (.l 9),ni,ni],[],
 [⟨⟨.nm,[],[],[]⟩,Unit,λ d r=>((),())⟩,
  ⟨⟨.rt,[4],[nk],[]⟩,Bool,λ d r=>((r,()),())⟩],
 λ k d=>Wc k d.1.1 d.1.2.1 d.1.2.2.2.1 d.1.2.2.1⟩ (bP.bY (λ d=>dJ) λ k da db q h=>by
 obtain⟨(v0:List (List UInt8)),(v1:List (List UInt8)),(b:Int),(v3:Int),_⟩:=da
 obtain⟨a,_⟩:=ei h
 dsimp only at a
 obtain⟨rfl,_⟩:=a
 conv=>rhs;change eh (α:=Unit⊕Bool) _ (Wc (k+1) v0 v1 v3 (v0.length:Int));rw[<-aal (k+1) v0 v1 v3];simp only[BD,bb,aal];simp only[bW]
 kernel_rfl)
def atZ(F:Nat):aS aI:=(atY F).rt 130 ⟨[.p (.l 9),.p (.l 9)],[],[nk],[],Bool,λ d=>Mh F d.1.1 d.1.2.1,λ d r=>((r,()),())⟩ λ da db=>by
 obtain⟨(v0:List (List UInt8)),(v1:List (List UInt8)),_⟩:=da;conv=>rhs;simp only[Mh,bb,aal]
 kernel_rfl
def V9(F:Nat)(k:Nat)(a:List (List (List UInt8)))(b:List (List (List UInt8)))(c:Int)(ao:Int):=dt ((a.length:Int)=ao/\True) (bf (Bz F a b k c))
theorem aag(F:Nat)(k:Nat)(a:List (List (List UInt8)))(b:List (List (List UInt8)))(c:Int):bf (Bz F a b k c)=V9 F k a b c (a.length:Int):=(dK ⟨rfl,trivial⟩).symm
def at0(F:Nat):aS aI:=(atZ F).b2 129 0 F ⟨[1,2,15,16,17],[.p (.l 120),.f 130 [],.p (.l 120),ni,ni],[],
 [⟨⟨.nm,[],[],[]⟩,Unit,λ d r=>((),())⟩,
  ⟨⟨.rt,[6],[nk],[]⟩,Bool,λ d r=>((r,()),())⟩],
 λ k d=>V9 F k d.1.2.2.1 d.1.1 d.1.2.2.2.2.1 d.1.2.2.2.1⟩ (bP.bY (λ d=>dJ) λ k da db q h=>by
 obtain⟨(v0:List (List (List UInt8))),_,(v1:List (List (List UInt8))),(b:Int),(v3:Int),_⟩:=da
 obtain⟨a,_⟩:=ei h
 dsimp only at a
 obtain⟨rfl,_⟩:=a
 conv=>rhs;change eh (α:=Unit⊕Bool) _ (V9 F (k+1) v1 v0 v3 (v1.length:Int));rw[<-aag F (k+1) v1 v0 v3];simp only[Bz,bb,aag];simp only[bW]
 kernel_rfl)
def at2(F:Nat):aS aI:=(at0 F).rt 129 ⟨[.p (.l 120),.p (.l 120),.f 130 []],[],[nk],[],Bool,λ d=>Mb F d.1.1 d.1.2.1,λ d r=>((r,()),())⟩ λ da db=>by
 obtain⟨(v0:List (List (List UInt8))),(v1:List (List (List UInt8))),_,_⟩:=da;conv=>rhs;simp only[Mb,bb,aag]
 kernel_rfl
def Wa(k:Nat)(a:List I.Target)(b:List I.Target)(c:Int)(ao:Int):=dt ((a.length:Int)=ao/\True) (bf (BB a b k c))
theorem aaj(k:Nat)(a:List I.Target)(b:List I.Target)(c:Int):bf (BB a b k c)=Wa k a b c (a.length:Int):=(dK ⟨rfl,trivial⟩).symm
def at3(F:Nat):aS aI:=(at2 F).b2 132 0 F ⟨[0,1,12,13],[.p (.l 166),.p (.l 166),ni,ni],[],
 [⟨⟨.nm,[],[],[]⟩,Unit,λ d r=>((),())⟩,
  ⟨⟨.rt,[4],[nk],[]⟩,Bool,λ d r=>((r,()),())⟩],
 λ k d=>Wa k d.1.1 d.1.2.1 d.1.2.2.2.1 d.1.2.2.1⟩ (bP.bY (λ d=>dJ) λ k da db q h=>by
 obtain⟨(v0:List I.Target),(v1:List I.Target),(b:Int),(v3:Int),_⟩:=da
 obtain⟨a,_⟩:=ei h
 dsimp only at a
 obtain⟨rfl,_⟩:=a
 conv=>rhs;change eh (α:=Unit⊕Bool) _ (Wa (k+1) v0 v1 v3 (v0.length:Int));rw[<-aaj (k+1) v0 v1 v3];simp only[BB,bb,aaj];simp only[bW]
 kernel_rfl)
def at4(F:Nat):aS aI:=(at3 F).rt 132 ⟨[.p (.l 166),.p (.l 166)],[],[nk],[],Bool,λ d=>Mf F d.1.1 d.1.2.1,λ d r=>((r,()),())⟩ λ da db=>by
 obtain⟨(v0:List I.Target),(v1:List I.Target),_⟩:=da;conv=>rhs;simp only[Mf,bb,aaj]
 kernel_rfl
def V8(F:Nat)(k:Nat)(a:List (List I.Target))(b:List (List I.Target))(c:Int)(ao:Int):=dt ((a.length:Int)=ao/\True) (bf (By F a b k c))
theorem aaf(F:Nat)(k:Nat)(a:List (List I.Target))(b:List (List I.Target))(c:Int):bf (By F a b k c)=V8 F k a b c (a.length:Int):=(dK ⟨rfl,trivial⟩).symm
def at5(F:Nat):aS aI:=(at4 F).b2 131 0 F ⟨[1,2,15,16,17],[.p (.l 121),.f 132 [],.p (.l 121),ni,ni],[],
 [⟨⟨.nm,[],[],[]⟩,Unit,λ d r=>((),())⟩,
  ⟨⟨.rt,[6],[nk],[]⟩,Bool,λ d r=>((r,()),())⟩],
 λ k d=>V8 F k d.1.2.2.1 d.1.1 d.1.2.2.2.2.1 d.1.2.2.2.1⟩ (bP.bY (λ d=>dJ) λ k da db q h=>by
 obtain⟨(v0:List (List I.Target)),_,(v1:List (List I.Target)),(b:Int),(v3:Int),_⟩:=da
 obtain⟨a,_⟩:=ei h
 dsimp only at a
 obtain⟨rfl,_⟩:=a
 conv=>rhs;change eh (α:=Unit⊕Bool) _ (V8 F (k+1) v1 v0 v3 (v1.length:Int));rw[<-aaf F (k+1) v1 v0 v3];simp only[By,bb,aaf];simp only[bW]
 kernel_rfl)
def at6(F:Nat):aS aI:=(at5 F).rt 131 ⟨[.p (.l 121),.p (.l 121),.f 132 []],[],[nk],[],Bool,λ d=>Ma F d.1.1 d.1.2.1,λ d r=>((r,()),())⟩ λ da db=>by
 obtain⟨(v0:List (List I.Target)),(v1:List (List I.Target)),_,_⟩:=da;conv=>rhs;simp only[Ma,bb,aaf]
 kernel_rfl
def at7(F:Nat):aS aI:=(at6 F).rt 100 ⟨[h2,h2],[],[nk],[],Bool,λ d=>Hr F (fu d.1.1) (fu d.1.2.1),λ d r=>((r,()),())⟩ λ da db=>by
 conv=>rhs;simp only[Hr,bb]
 kernel_rfl
def at8(F:Nat):aS aI:=(at7 F).rt 64 ⟨[h2],[],[ni],[],Int,λ d=>pa F (fu d.1.1),λ d r=>((r,()),())⟩ λ da db=>by
 conv=>rhs;simp only[pa,bb]
 kernel_rfl
def at9(F:Nat):aS aI:=(at8 F).rt 84 ⟨[ni,ni,ni],[],[nk],[],Bool,λ d=>p5 d.1.1 d.1.2.1 d.1.2.2.1,λ d r=>((r,()),())⟩ λ da db=>by
 conv=>rhs;simp only[p5,bb]
 kernel_rfl
def at'(F:Nat):aS aI:=(at9 F).rt 101 ⟨[jQ],[],[ni],[],Int,λ d=>G0 (dZ d.1.1),λ d r=>((r,()),())⟩ λ da db=>by
 conv=>rhs;simp only[G0,bb]
 kernel_rfl
def aua(F:Nat):aS aI:=(at' F).rt 92 ⟨[h2,ni],[],[nk],[],Bool,λ d=>s6 (hr d.1.1) d.1.2.1,λ d r=>((r,()),())⟩ λ da db=>by
 conv=>rhs;simp only[s6,bb]
 kernel_rfl
def auc(F:Nat):aS aI:=(aua F).rt 93 ⟨[h2,ni,ni],[],[nk],[],Bool,λ d=>s7 (hr d.1.1) d.1.2.1 d.1.2.2.1,λ d r=>((r,()),())⟩ λ da db=>by
 conv=>rhs;simp only[s7,bb]
 kernel_rfl
def VD(k:Nat)(a:Int)(b:I.bk)(c:List Int)(d:List (Int×Bool))(e:Int):=dt (True) (bf (p4 a b k c d e))
theorem ZL(k:Nat)(b:Int)(a:I.bk)(c:List Int)(d:List (Int×Bool))(e:Int):bf (p4 b a k c d e)=VD k b (⟨(⟨a.H.Words,a.H.ak,a.H.aK,a.H.aO,a.H.aM,a.H.aU,a.H.Next⟩:I.aV),(⟨(⟨a.S.K.a1,a.S.K.aY,a.S.K.Fields,a.S.K.Names,a.S.K.aZ⟩:I.aP)⟩:I.b9),a.ak,a.aK,[]⟩:I.bk) c d e:=(show bf (p4 b a k c d e)=bf (p4 b (⟨(⟨a.H.Words,a.H.ak,a.H.aK,a.H.aO,a.H.aM,a.H.aU,a.H.Next⟩:I.aV),(⟨(⟨a.S.K.a1,a.S.K.aY,a.S.K.Fields,a.S.K.Names,a.S.K.aZ⟩:I.aP)⟩:I.b9),a.ak,a.aK,[]⟩:I.bk) k c d e) by kernel_rfl).trans (dK trivial).symm
def aud(F:Nat):aS aI:=(auc F).b2 102 0 F ⟨[0,2,8,9],[.p (.B 0),ni,.p (.R 2),ni],[fW,.m 3 4,.r 3 false],
 [⟨⟨.nm,[8],[.p (.R 2)],[fW,.m 3 4,.r 3 false]⟩,(List Int)×(List (Int×Bool)),λ d r=>(((),()),((d.2.1.1,d.2.1.2.1,d.2.1.2.2.1,d.2.1.2.2.2.1,d.2.1.2.2.2.2.1,d.2.1.2.2.2.2.2.1,d.2.1.2.2.2.2.2.2.1,d.2.1.2.2.2.2.2.2.2.1,d.2.1.2.2.2.2.2.2.2.2.1,d.2.1.2.2.2.2.2.2.2.2.2.1,d.2.1.2.2.2.2.2.2.2.2.2.2.1,d.2.1.2.2.2.2.2.2.2.2.2.2.2.1,d.2.1.2.2.2.2.2.2.2.2.2.2.2.2.1,d.2.1.2.2.2.2.2.2.2.2.2.2.2.2.2.1,(),()),r.2,r.1,()))⟩,
  ⟨⟨.rt,[6,7],[nj,nk],[fW,.m 3 4,.d]⟩,(List Int)×Bool×I.bk,λ d r=>((r.1,r.2.1,()),((d.2.1.1,d.2.1.2.1,d.2.1.2.2.1,d.2.1.2.2.2.1,d.2.1.2.2.2.2.1,d.2.1.2.2.2.2.2.1,d.2.1.2.2.2.2.2.2.1,d.2.1.2.2.2.2.2.2.2.1,d.2.1.2.2.2.2.2.2.2.2.1,d.2.1.2.2.2.2.2.2.2.2.2.1,d.2.1.2.2.2.2.2.2.2.2.2.2.1,d.2.1.2.2.2.2.2.2.2.2.2.2.2.1,d.2.1.2.2.2.2.2.2.2.2.2.2.2.2.1,d.2.1.2.2.2.2.2.2.2.2.2.2.2.2.2.1,(),()),r.2.2.dQ,(),()))⟩],
 λ k d=>VD k d.1.2.1 (⟨(dZ d.2.1),(hr d.2.1.2.2.2.2.2.2.2),d.2.1.2.2.2.2.2.2.2.2.2.2.2.2.1,d.2.1.2.2.2.2.2.2.2.2.2.2.2.2.2.1,[]⟩:I.bk) d.2.2.2.1 d.2.2.1 d.1.2.2.2.1⟩ (bP.bY (λ d=>dJ) λ k da db q h=>by
 obtain⟨_,(v0:Int),_,(v1:Int),_⟩:=da
 obtain⟨⟨(f:List Int),(v3:Int),(v4:Int),(v5:Int),(g:Int),(i:List Int),(j:Int),(v9:List I.aq),(a:List Int),(b:List (List I.Field)),(c:List (List (List UInt8))),(l:List (List I.Target)),(m:List Int),(n:List Int),_,_⟩,(gP:List (Int×Bool)),(e:List Int),_⟩:=db
 conv=>rhs;change eh (α:=((List Int)×(List (Int×Bool)))⊕((List Int)×Bool×I.bk)) _ (VD (k+1) v0 (⟨(⟨f,v3,v4,v5,g,i,j⟩:I.aV),(⟨(⟨v9,a,b,c,l⟩:I.aP)⟩:I.b9),m,n,[]⟩:I.bk) e gP v1);rw[<-ZL (k+1) v0 (⟨(⟨f,v3,v4,v5,g,i,j⟩:I.aV),(⟨(⟨v9,a,b,c,l⟩:I.aP)⟩:I.b9),m,n,[]⟩:I.bk) e gP v1];simp only[p4,bb,ZL];simp only[bW]
 kernel_rfl)
def aue(F:Nat):aS aI:=(aud F).rt 102 ⟨[.p (.B 0),ni,ni],[fW,.m 3 4],[nj,nk],[fW,.m 3 4],(List Int)×Bool×I.bk,λ d=>nJ F (⟨(dZ d.2.1),(hr d.2.1.2.2.2.2.2.2.2),d.2.1.2.2.2.2.2.2.2.2.2.2.2.2.1,d.2.1.2.2.2.2.2.2.2.2.2.2.2.2.2.1,d.2.2.1⟩:I.bk) d.1.2.1 d.1.2.2.1,λ d r=>((r.1,r.2.1,()),((d.2.1.1,d.2.1.2.1,d.2.1.2.2.1,d.2.1.2.2.2.1,d.2.1.2.2.2.2.1,d.2.1.2.2.2.2.2.1,d.2.1.2.2.2.2.2.2.1,d.2.1.2.2.2.2.2.2.2.1,d.2.1.2.2.2.2.2.2.2.2.1,d.2.1.2.2.2.2.2.2.2.2.2.1,d.2.1.2.2.2.2.2.2.2.2.2.2.1,d.2.1.2.2.2.2.2.2.2.2.2.2.2.1,d.2.1.2.2.2.2.2.2.2.2.2.2.2.2.1,d.2.1.2.2.2.2.2.2.2.2.2.2.2.2.2.1,(),()),r.2.2.dQ,()))⟩ λ da db=>by
 obtain⟨_,(v0:Int),(v1:Int),_⟩:=da;obtain⟨⟨(e:List Int),(v3:Int),(v4:Int),(v5:Int),(f:Int),(g:List Int),(h:Int),(v9:List I.aq),(a:List Int),(b:List (List I.Field)),(c:List (List (List UInt8))),(i:List (List I.Target)),(j:List Int),(k:List Int),_,_⟩,(gP:List (Int×Bool)),_⟩:=db;conv=>rhs;simp only[nJ,bb,ZL]
 kernel_rfl
def V5(k:Nat)(a:List (List Int))(b:Int)(c:Int)(ao:List (List Int))(aW:Int):=dt ((a:List (List Int))=ao/\(a.length:Int)=aW/\True) (yx a k b c)
theorem aac(k:Nat)(a:List (List Int))(b:Int)(c:Int):yx a k b c=V5 k a b c a (a.length:Int):=(dK ⟨rfl,rfl,trivial⟩).symm
def auf(F:Nat):aS aI:=(aue F).b2 135 0 F ⟨[0,3,9,10,11],[.p (.l 22),ni,.p (.l 22),ni,ni],[],
 [⟨⟨.nm,[0,3],[.p (.l 22),ni],[]⟩,Int,λ d r=>((d.1.1,r,()),())⟩],
 λ k d=>V5 k d.1.1 d.1.2.1 d.1.2.2.2.2.1 d.1.2.2.1 d.1.2.2.2.1⟩ (bP.bY (λ d=>dJ) λ k da db q h=>by
 obtain⟨(v0:List (List Int)),(v1:Int),(b:List (List Int)),(v3:Int),(v4:Int),_⟩:=da
 obtain⟨a,_⟩:=ei h
 dsimp only at a
 obtain⟨rfl,rfl,_⟩:=a
 conv=>rhs;change eh (α:=Int) _ (V5 (k+1) v0 v1 v4 (v0) (v0.length:Int));rw[<-aac (k+1) v0 v1 v4];simp only[yx,bb,aac];simp only[bW]
 kernel_rfl)
def V6(k:Nat)(a:List (List Int))(b:List Int)(c:Int)(d:Int):=dt ((a.length:Int)=d/\True) (yy a k b c)
theorem aad(k:Nat)(a:List (List Int))(b:List Int)(c:Int):yy a k b c=V6 k a b c (a.length:Int):=(dK ⟨rfl,trivial⟩).symm
def aug(F:Nat):aS aI:=(auf F).b2 135 2 F ⟨[6,25,26,27],[.p (.R 0),.p (.l 22),ni,ni],[.r 3 false],
 [⟨⟨.nm,[6],[.p (.R 0)],[.r 3 false]⟩,List Int,λ d r=>(((),()),(r,()))⟩],
 λ k d=>V6 k d.1.2.1 d.2.1 d.1.2.2.2.1 d.1.2.2.1⟩ (bP.bY (λ d=>dJ) λ k da db q h=>by
 obtain⟨_,(v0:List (List Int)),(v1:Int),(a:Int),_⟩:=da
 obtain⟨(v3:List Int),_⟩:=db
 obtain⟨b,_⟩:=ei h
 dsimp only at b
 obtain⟨rfl,_⟩:=b
 conv=>rhs;change eh (α:=List Int) _ (V6 (k+1) v0 v3 a (v0.length:Int));rw[<-aad (k+1) v0 v3 a];simp only[yy,bb,aad];simp only[bW]
 kernel_rfl)
def auh(F:Nat):aS aI:=(aug F).rt 135 ⟨[.p (.l 22)],[],[nj],[],List Int,λ d=>Ia F d.1.1,λ d r=>((r,()),())⟩ λ da db=>by
 obtain⟨(v0:List (List Int)),_⟩:=da;conv=>rhs;simp only[Ia,bb,aac,aad,Rp]
 kernel_rfl
def aui(F:Nat):aS aI:=(auh F).rt 133 ⟨[.p (.B 0)],[fW,.m 3 4],[nj],[fW,.m 3 4],List Int,λ d=>An F (⟨(dZ d.2.1),(hr d.2.1.2.2.2.2.2.2.2),d.2.1.2.2.2.2.2.2.2.2.2.2.2.2.1,d.2.1.2.2.2.2.2.2.2.2.2.2.2.2.2.1,d.2.2.1⟩:I.bk),λ d r=>((r,()),((d.2.1.1,d.2.1.2.1,d.2.1.2.2.1,d.2.1.2.2.2.1,d.2.1.2.2.2.2.1,d.2.1.2.2.2.2.2.1,d.2.1.2.2.2.2.2.2.1,d.2.1.2.2.2.2.2.2.2.1,d.2.1.2.2.2.2.2.2.2.2.1,d.2.1.2.2.2.2.2.2.2.2.2.1,d.2.1.2.2.2.2.2.2.2.2.2.2.1,d.2.1.2.2.2.2.2.2.2.2.2.2.2.1,d.2.1.2.2.2.2.2.2.2.2.2.2.2.2.1,d.2.1.2.2.2.2.2.2.2.2.2.2.2.2.2.1,(),()),d.2.2.1,()))⟩ λ da db=>by
 conv=>rhs;simp only[An,bb]
 kernel_rfl
def VA(k:Nat)(b:I.bk)(a:List Int)(c:List (Int×Bool))(d:Int)(e:Int):=dt ((a.length:Int)=e/\True) (bf (xq b a k c d))
theorem ZI(k:Nat)(b:I.bk)(a:List Int)(c:List (Int×Bool))(d:Int):bf (xq b a k c d)=VA k b a c d (a.length:Int):=(dK ⟨rfl,trivial⟩).symm
def auj(F:Nat):aS aI:=(aui F).b2 103 0 F ⟨[0,3,9,10,11],[.p (.B 0),.p (.M 2),nj,ni,ni],[fW,.m 3 4,.m 3 4],
 [⟨⟨.nm,[0,3],[.p (.B 0),.p (.M 2)],[fW,.m 3 4,.m 3 4]⟩,List (Int×Bool),λ d r=>(((),(),()),((d.2.1.1,d.2.1.2.1,d.2.1.2.2.1,d.2.1.2.2.2.1,d.2.1.2.2.2.2.1,d.2.1.2.2.2.2.2.1,d.2.1.2.2.2.2.2.2.1,d.2.1.2.2.2.2.2.2.2.1,d.2.1.2.2.2.2.2.2.2.2.1,d.2.1.2.2.2.2.2.2.2.2.2.1,d.2.1.2.2.2.2.2.2.2.2.2.2.1,d.2.1.2.2.2.2.2.2.2.2.2.2.2.1,d.2.1.2.2.2.2.2.2.2.2.2.2.2.2.1,d.2.1.2.2.2.2.2.2.2.2.2.2.2.2.2.1,(),()),d.2.2.1,r,()))⟩,
  ⟨⟨.rt,[2],[ni],[fW,.m 3 4,.d]⟩,Int,λ d r=>((r,()),((d.2.1.1,d.2.1.2.1,d.2.1.2.2.1,d.2.1.2.2.2.1,d.2.1.2.2.2.2.1,d.2.1.2.2.2.2.2.1,d.2.1.2.2.2.2.2.2.1,d.2.1.2.2.2.2.2.2.2.1,d.2.1.2.2.2.2.2.2.2.2.1,d.2.1.2.2.2.2.2.2.2.2.2.1,d.2.1.2.2.2.2.2.2.2.2.2.2.1,d.2.1.2.2.2.2.2.2.2.2.2.2.2.1,d.2.1.2.2.2.2.2.2.2.2.2.2.2.2.1,d.2.1.2.2.2.2.2.2.2.2.2.2.2.2.2.1,(),()),d.2.2.1,(),()))⟩],
 λ k d=>VA k (⟨(dZ d.2.1),(hr d.2.1.2.2.2.2.2.2.2),d.2.1.2.2.2.2.2.2.2.2.2.2.2.2.1,d.2.1.2.2.2.2.2.2.2.2.2.2.2.2.2.1,d.2.2.1⟩:I.bk) d.1.2.2.1 d.2.2.2.1 d.1.2.2.2.2.1 d.1.2.2.2.1⟩ (bP.bY (λ d=>dJ) λ k da db q h=>by
 obtain⟨_,_,(v0:List Int),(v1:Int),(f:Int),_⟩:=da
 obtain⟨⟨(v3:List Int),(v4:Int),(v5:Int),(g:Int),(i:Int),(j:List Int),(v9:Int),(a:List I.aq),(b:List Int),(c:List (List I.Field)),(l:List (List (List UInt8))),(m:List (List I.Target)),(n:List Int),(gP:List Int),_,_⟩,(e:List (Int×Bool)),(o:List (Int×Bool)),_⟩:=db
 obtain⟨p,_⟩:=ei h
 dsimp only at p
 obtain⟨rfl,_⟩:=p
 conv=>rhs;change eh (α:=(List (Int×Bool))⊕Int) _ (VA (k+1) (⟨(⟨v3,v4,v5,g,i,j,v9⟩:I.aV),(⟨(⟨a,b,c,l,m⟩:I.aP)⟩:I.b9),n,gP,e⟩:I.bk) v0 o f (v0.length:Int));rw[<-ZI (k+1) (⟨(⟨v3,v4,v5,g,i,j,v9⟩:I.aV),(⟨(⟨a,b,c,l,m⟩:I.aP)⟩:I.b9),n,gP,e⟩:I.bk) v0 o f];simp only[xq,bb,ZI];simp only[bW]
 kernel_rfl)
def auk(F:Nat):aS aI:=(auj F).rt 103 ⟨[.p (.B 0)],[fW,.m 3 4],[ni],[fW,.m 3 4],Int,λ d=>GX F (⟨(dZ d.2.1),(hr d.2.1.2.2.2.2.2.2.2),d.2.1.2.2.2.2.2.2.2.2.2.2.2.2.1,d.2.1.2.2.2.2.2.2.2.2.2.2.2.2.2.1,d.2.2.1⟩:I.bk),λ d r=>((r,()),((d.2.1.1,d.2.1.2.1,d.2.1.2.2.1,d.2.1.2.2.2.1,d.2.1.2.2.2.2.1,d.2.1.2.2.2.2.2.1,d.2.1.2.2.2.2.2.2.1,d.2.1.2.2.2.2.2.2.2.1,d.2.1.2.2.2.2.2.2.2.2.1,d.2.1.2.2.2.2.2.2.2.2.2.1,d.2.1.2.2.2.2.2.2.2.2.2.2.1,d.2.1.2.2.2.2.2.2.2.2.2.2.2.1,d.2.1.2.2.2.2.2.2.2.2.2.2.2.2.1,d.2.1.2.2.2.2.2.2.2.2.2.2.2.2.2.1,(),()),d.2.2.1,()))⟩ λ da db=>by
 obtain⟨_,_⟩:=da;obtain⟨⟨(v0:List Int),(v1:Int),(e:Int),(v3:Int),(v4:Int),(v5:List Int),(f:Int),(g:List I.aq),(h:List Int),(v9:List (List I.Field)),(a:List (List (List UInt8))),(b:List (List I.Target)),(c:List Int),(i:List Int),_,_⟩,(j:List (Int×Bool)),_⟩:=db;conv=>rhs;simp only[GX,bb,ZI]
 kernel_rfl
def aul(F:Nat):aS aI:=(auk F).rt 99 ⟨[h2,ni,ni],[],[nk],[],Bool,λ d=>rr (hr d.1.1) d.1.2.1 d.1.2.2.1,λ d r=>((r,()),())⟩ λ da db=>by
 conv=>rhs;simp only[rr,bb]
 kernel_rfl
def aun(F:Nat):aS aI:=(aul F).b2 134 0 F ⟨[0,1,5,15,16],[.p (.B 0),ni,.p (.R 2),ni,ni],[fW,.m 3 4,.r 3 false],
 [⟨⟨.nm,[5],[.p (.R 2)],[fW,.m 3 4,.r 3 false]⟩,List Int,λ d r=>(((),()),((d.2.1.1,d.2.1.2.1,d.2.1.2.2.1,d.2.1.2.2.2.1,d.2.1.2.2.2.2.1,d.2.1.2.2.2.2.2.1,d.2.1.2.2.2.2.2.2.1,d.2.1.2.2.2.2.2.2.2.1,d.2.1.2.2.2.2.2.2.2.2.1,d.2.1.2.2.2.2.2.2.2.2.2.1,d.2.1.2.2.2.2.2.2.2.2.2.2.1,d.2.1.2.2.2.2.2.2.2.2.2.2.2.1,d.2.1.2.2.2.2.2.2.2.2.2.2.2.2.1,d.2.1.2.2.2.2.2.2.2.2.2.2.2.2.2.1,(),()),d.2.2.1,r,()))⟩],
 λ k d=>xp d.1.2.1 (⟨(dZ d.2.1),(hr d.2.1.2.2.2.2.2.2.2),d.2.1.2.2.2.2.2.2.2.2.2.2.2.2.1,d.2.1.2.2.2.2.2.2.2.2.2.2.2.2.2.1,d.2.2.1⟩:I.bk) d.1.2.2.2.1 k d.2.2.2.1 d.1.2.2.2.2.1⟩ (bP.bY (λ d=>rfl) λ k da db q h=>by
 conv=>rhs;simp only[xp,bb];simp only[bW]
 kernel_rfl)
def auo(F:Nat):aS aI:=(aun F).rt 134 ⟨[.p (.B 0),ni],[fW,.m 3 4],[nj],[fW,.m 3 4],List Int,λ d=>ru F (⟨(dZ d.2.1),(hr d.2.1.2.2.2.2.2.2.2),d.2.1.2.2.2.2.2.2.2.2.2.2.2.2.1,d.2.1.2.2.2.2.2.2.2.2.2.2.2.2.2.1,d.2.2.1⟩:I.bk) d.1.2.1,λ d r=>((r,()),((d.2.1.1,d.2.1.2.1,d.2.1.2.2.1,d.2.1.2.2.2.1,d.2.1.2.2.2.2.1,d.2.1.2.2.2.2.2.1,d.2.1.2.2.2.2.2.2.1,d.2.1.2.2.2.2.2.2.2.1,d.2.1.2.2.2.2.2.2.2.2.1,d.2.1.2.2.2.2.2.2.2.2.2.1,d.2.1.2.2.2.2.2.2.2.2.2.2.1,d.2.1.2.2.2.2.2.2.2.2.2.2.2.1,d.2.1.2.2.2.2.2.2.2.2.2.2.2.2.1,d.2.1.2.2.2.2.2.2.2.2.2.2.2.2.2.1,(),()),d.2.2.1,()))⟩ λ da db=>by
 conv=>rhs;simp only[ru,bb]
 kernel_rfl
def aup(F:Nat):aS aI:=(auo F).rt 136 ⟨[ni],[],[nk],[],Bool,λ d=>WH d.1.1,λ d r=>((r,()),())⟩ λ da db=>by
 conv=>rhs;simp only[WH,bb]
 kernel_rfl
def auq(F:Nat):aS aI:=(aup F).rt 137 ⟨[.p (.B 0),ni],[fW,.m 3 4],[nk],[fW,.m 3 4],Bool,λ d=>GV (⟨(dZ d.2.1),(hr d.2.1.2.2.2.2.2.2.2),d.2.1.2.2.2.2.2.2.2.2.2.2.2.2.1,d.2.1.2.2.2.2.2.2.2.2.2.2.2.2.2.1,d.2.2.1⟩:I.bk) d.1.2.1,λ d r=>((r,()),((d.2.1.1,d.2.1.2.1,d.2.1.2.2.1,d.2.1.2.2.2.1,d.2.1.2.2.2.2.1,d.2.1.2.2.2.2.2.1,d.2.1.2.2.2.2.2.2.1,d.2.1.2.2.2.2.2.2.2.1,d.2.1.2.2.2.2.2.2.2.2.1,d.2.1.2.2.2.2.2.2.2.2.2.1,d.2.1.2.2.2.2.2.2.2.2.2.2.1,d.2.1.2.2.2.2.2.2.2.2.2.2.2.1,d.2.1.2.2.2.2.2.2.2.2.2.2.2.2.1,d.2.1.2.2.2.2.2.2.2.2.2.2.2.2.2.1,(),()),d.2.2.1,()))⟩ λ da db=>by
 conv=>rhs;simp only[GV,bb]
 kernel_rfl
def aur(F:Nat):aS aI:=(auq F).rt 139 ⟨[ni,.p (.B 0)],[.c 60 [.B 1],iI,.m 3 4],[nk],[.c 60 [.B 1],iI,.m 3 4],Bool,λ d=>OZ d.1.1 (⟨(dZ d.2.2.1),(hr d.2.2.1.2.2.2.2.2.2.2),d.2.2.1.2.2.2.2.2.2.2.2.2.2.2.2.1,d.2.2.1.2.2.2.2.2.2.2.2.2.2.2.2.2.1,d.2.2.2.1⟩:I.bk),λ d r=>((r,()),(((),()),(d.2.2.1.1,d.2.2.1.2.1,d.2.2.1.2.2.1,d.2.2.1.2.2.2.1,d.2.2.1.2.2.2.2.1,d.2.2.1.2.2.2.2.2.1,d.2.2.1.2.2.2.2.2.2.1,d.2.2.1.2.2.2.2.2.2.2.1,d.2.2.1.2.2.2.2.2.2.2.2.1,d.2.2.1.2.2.2.2.2.2.2.2.2.1,d.2.2.1.2.2.2.2.2.2.2.2.2.2.1,d.2.2.1.2.2.2.2.2.2.2.2.2.2.2.1,d.2.2.1.2.2.2.2.2.2.2.2.2.2.2.2.1,d.2.2.1.2.2.2.2.2.2.2.2.2.2.2.2.2.1,(),()),d.2.2.2.1,()))⟩ λ da db=>by
 conv=>rhs;simp only[OZ,bb]
 kernel_rfl
def aus(F:Nat):aS aI:=(aur F).rt 68 ⟨[.p (.B 0),ni],[fW,.m 3 4],[nk],[fW,.m 3 4],Bool,λ d=>GU (⟨(dZ d.2.1),(hr d.2.1.2.2.2.2.2.2.2),d.2.1.2.2.2.2.2.2.2.2.2.2.2.2.1,d.2.1.2.2.2.2.2.2.2.2.2.2.2.2.2.1,d.2.2.1⟩:I.bk) d.1.2.1,λ d r=>((r,()),((d.2.1.1,d.2.1.2.1,d.2.1.2.2.1,d.2.1.2.2.2.1,d.2.1.2.2.2.2.1,d.2.1.2.2.2.2.2.1,d.2.1.2.2.2.2.2.2.1,d.2.1.2.2.2.2.2.2.2.1,d.2.1.2.2.2.2.2.2.2.2.1,d.2.1.2.2.2.2.2.2.2.2.2.1,d.2.1.2.2.2.2.2.2.2.2.2.2.1,d.2.1.2.2.2.2.2.2.2.2.2.2.2.1,d.2.1.2.2.2.2.2.2.2.2.2.2.2.2.1,d.2.1.2.2.2.2.2.2.2.2.2.2.2.2.2.1,(),()),d.2.2.1,()))⟩ λ da db=>by
 conv=>rhs;simp only[GU,bb]
 kernel_rfl
def aut(F:Nat):aS aI:=(aus F).rt 67 ⟨[ni,.p (.B 0)],[.c 60 [.B 1],iI,.m 3 4],[nk],[.c 60 [.B 1],iI,.m 3 4],Bool,λ d=>S2 d.1.1 (⟨(dZ d.2.2.1),(hr d.2.2.1.2.2.2.2.2.2.2),d.2.2.1.2.2.2.2.2.2.2.2.2.2.2.2.1,d.2.2.1.2.2.2.2.2.2.2.2.2.2.2.2.2.1,d.2.2.2.1⟩:I.bk),λ d r=>((r,()),(((),()),(d.2.2.1.1,d.2.2.1.2.1,d.2.2.1.2.2.1,d.2.2.1.2.2.2.1,d.2.2.1.2.2.2.2.1,d.2.2.1.2.2.2.2.2.1,d.2.2.1.2.2.2.2.2.2.1,d.2.2.1.2.2.2.2.2.2.2.1,d.2.2.1.2.2.2.2.2.2.2.2.1,d.2.2.1.2.2.2.2.2.2.2.2.2.1,d.2.2.1.2.2.2.2.2.2.2.2.2.2.1,d.2.2.1.2.2.2.2.2.2.2.2.2.2.2.1,d.2.2.1.2.2.2.2.2.2.2.2.2.2.2.2.1,d.2.2.1.2.2.2.2.2.2.2.2.2.2.2.2.2.1,(),()),d.2.2.2.1,()))⟩ λ da db=>by
 conv=>rhs;simp only[S2,bb]
 kernel_rfl
def Wf(k:Nat)(s_:List Int)(a:Int)(b:Int):=dt ((s_.length:Int)=b/\True) (bf (BF s_ k a))
theorem aan(k:Nat)(s_:List Int)(a:Int):bf (BF s_ k a)=Wf k s_ a (s_.length:Int):=(dK ⟨rfl,trivial⟩).symm
def auu(F:Nat):aS aI:=(aut F).b2 106 0 F ⟨[0,1,7,8],[nj,.f 136 [],ni,ni],[],
 [⟨⟨.nm,[],[],[]⟩,Unit,λ d r=>((),())⟩,
  ⟨⟨.rt,[4],[ni],[]⟩,Int,λ d r=>((r,()),())⟩],
 λ k d=>Wf k d.1.1 d.1.2.2.2.1 d.1.2.2.1⟩ (bP.bY (λ d=>dJ) λ k da db q h=>by
 obtain⟨(v0:List Int),_,(v1:Int),(a:Int),_⟩:=da
 obtain⟨b,_⟩:=ei h
 dsimp only at b
 obtain⟨rfl,_⟩:=b
 conv=>rhs;change eh (α:=Unit⊕Int) _ (Wf (k+1) v0 a (v0.length:Int));rw[<-aan (k+1) v0 a];simp only[BF,bb,aan];simp only[bW]
 kernel_rfl)
def auv(F:Nat):aS aI:=(auu F).rt 106 ⟨[nj,.f 136 []],[],[ni],[],Int,λ d=>Rr F d.1.1,λ d r=>((r,()),())⟩ λ da db=>by
 obtain⟨(v0:List Int),_,_⟩:=da;conv=>rhs;simp only[Rr,bb,aan]
 kernel_rfl
def Wd(k:Nat)(s_:List Int)(a:I.bk)(b:Int)(c:Int):=dt ((s_.length:Int)=c/\True) (bf (BE s_ a k b))
theorem aam(k:Nat)(s_:List Int)(a:I.bk)(b:Int):bf (BE s_ a k b)=Wd k s_ a b (s_.length:Int):=(dK ⟨rfl,trivial⟩).symm
def auw(F:Nat):aS aI:=(auv F).Lf 106 0 F ⟨[0,1,7,8],[nj,.f 139 [.B 0],ni,ni],[.c 60 [.B 1],iI,.m 3 4],
 [⟨⟨.nm,[],[],[.c 60 [.B 1],iI,.m 3 4]⟩,Unit,λ d r=>((),(((),()),(d.2.2.1.1,d.2.2.1.2.1,d.2.2.1.2.2.1,d.2.2.1.2.2.2.1,d.2.2.1.2.2.2.2.1,d.2.2.1.2.2.2.2.2.1,d.2.2.1.2.2.2.2.2.2.1,d.2.2.1.2.2.2.2.2.2.2.1,d.2.2.1.2.2.2.2.2.2.2.2.1,d.2.2.1.2.2.2.2.2.2.2.2.2.1,d.2.2.1.2.2.2.2.2.2.2.2.2.2.1,d.2.2.1.2.2.2.2.2.2.2.2.2.2.2.1,d.2.2.1.2.2.2.2.2.2.2.2.2.2.2.2.1,d.2.2.1.2.2.2.2.2.2.2.2.2.2.2.2.2.1,(),()),d.2.2.2.1,()))⟩,
  ⟨⟨.rt,[4],[ni],[.c 60 [.B 1],iI,.m 3 4]⟩,Int,λ d r=>((r,()),(((),()),(d.2.2.1.1,d.2.2.1.2.1,d.2.2.1.2.2.1,d.2.2.1.2.2.2.1,d.2.2.1.2.2.2.2.1,d.2.2.1.2.2.2.2.2.1,d.2.2.1.2.2.2.2.2.2.1,d.2.2.1.2.2.2.2.2.2.2.1,d.2.2.1.2.2.2.2.2.2.2.2.1,d.2.2.1.2.2.2.2.2.2.2.2.2.1,d.2.2.1.2.2.2.2.2.2.2.2.2.2.1,d.2.2.1.2.2.2.2.2.2.2.2.2.2.2.1,d.2.2.1.2.2.2.2.2.2.2.2.2.2.2.2.1,d.2.2.1.2.2.2.2.2.2.2.2.2.2.2.2.2.1,(),()),d.2.2.2.1,()))⟩],
 λ k d=>Wd k d.1.1 (⟨(dZ d.2.2.1),(hr d.2.2.1.2.2.2.2.2.2.2),d.2.2.1.2.2.2.2.2.2.2.2.2.2.2.2.1,d.2.2.1.2.2.2.2.2.2.2.2.2.2.2.2.2.1,d.2.2.2.1⟩:I.bk) d.1.2.2.2.1 d.1.2.2.1⟩ (bP.bY (λ d=>dJ) λ k da db q h=>by
 obtain⟨(v0:List Int),⟨_,_⟩,(v1:Int),(f:Int),_⟩:=da
 obtain⟨⟨_,_⟩,⟨(v3:List Int),(v4:Int),(v5:Int),(g:Int),(i:Int),(j:List Int),(v9:Int),(a:List I.aq),(b:List Int),(c:List (List I.Field)),(l:List (List (List UInt8))),(m:List (List I.Target)),(n:List Int),(gP:List Int),_,_⟩,(e:List (Int×Bool)),_⟩:=db
 obtain⟨o,_⟩:=ei h
 dsimp only at o
 obtain⟨rfl,_⟩:=o
 conv=>rhs;change eh (α:=Unit⊕Int) _ (Wd (k+1) v0 (⟨(⟨v3,v4,v5,g,i,j,v9⟩:I.aV),(⟨(⟨a,b,c,l,m⟩:I.aP)⟩:I.b9),n,gP,e⟩:I.bk) f (v0.length:Int));rw[<-aam (k+1) v0 (⟨(⟨v3,v4,v5,g,i,j,v9⟩:I.aV),(⟨(⟨a,b,c,l,m⟩:I.aP)⟩:I.b9),n,gP,e⟩:I.bk) f];simp only[BE,bb,aam];simp only[bW]
 kernel_rfl)
def auz(F:Nat):aS aI:=(auw F).w6 106 ⟨[nj,.f 139 [.B 0]],[.c 60 [.B 1],iI,.m 3 4],[ni],[.c 60 [.B 1],iI,.m 3 4],Int,λ d=>Rq F d.1.1 (⟨(dZ d.2.2.1),(hr d.2.2.1.2.2.2.2.2.2.2),d.2.2.1.2.2.2.2.2.2.2.2.2.2.2.2.1,d.2.2.1.2.2.2.2.2.2.2.2.2.2.2.2.2.1,d.2.2.2.1⟩:I.bk),λ d r=>((r,()),(((),()),(d.2.2.1.1,d.2.2.1.2.1,d.2.2.1.2.2.1,d.2.2.1.2.2.2.1,d.2.2.1.2.2.2.2.1,d.2.2.1.2.2.2.2.2.1,d.2.2.1.2.2.2.2.2.2.1,d.2.2.1.2.2.2.2.2.2.2.1,d.2.2.1.2.2.2.2.2.2.2.2.1,d.2.2.1.2.2.2.2.2.2.2.2.2.1,d.2.2.1.2.2.2.2.2.2.2.2.2.2.1,d.2.2.1.2.2.2.2.2.2.2.2.2.2.2.1,d.2.2.1.2.2.2.2.2.2.2.2.2.2.2.2.1,d.2.2.1.2.2.2.2.2.2.2.2.2.2.2.2.2.1,(),()),d.2.2.2.1,()))⟩ λ da db=>by
 obtain⟨(v0:List Int),⟨_,_⟩,_⟩:=da;obtain⟨⟨_,_⟩,⟨(v1:List Int),(e:Int),(v3:Int),(v4:Int),(v5:Int),(f:List Int),(g:Int),(h:List I.aq),(v9:List Int),(a:List (List I.Field)),(b:List (List (List UInt8))),(c:List (List I.Target)),(i:List Int),(j:List Int),_,_⟩,(k:List (Int×Bool)),_⟩:=db;conv=>rhs;simp only[Rq,bb,aam]
 kernel_rfl
def Wg(k:Nat)(s_:List Int)(a:I.bk)(b:Int)(c:Int):=dt ((s_.length:Int)=c/\True) (bf (BG s_ a k b))
theorem aao(k:Nat)(s_:List Int)(a:I.bk)(b:Int):bf (BG s_ a k b)=Wg k s_ a b (s_.length:Int):=(dK ⟨rfl,trivial⟩).symm
def auA(F:Nat):aS aI:=(auz F).Lf 106 0 F ⟨[0,1,7,8],[nj,.f 67 [.B 0],ni,ni],[.c 60 [.B 1],iI,.m 3 4],
 [⟨⟨.nm,[],[],[.c 60 [.B 1],iI,.m 3 4]⟩,Unit,λ d r=>((),(((),()),(d.2.2.1.1,d.2.2.1.2.1,d.2.2.1.2.2.1,d.2.2.1.2.2.2.1,d.2.2.1.2.2.2.2.1,d.2.2.1.2.2.2.2.2.1,d.2.2.1.2.2.2.2.2.2.1,d.2.2.1.2.2.2.2.2.2.2.1,d.2.2.1.2.2.2.2.2.2.2.2.1,d.2.2.1.2.2.2.2.2.2.2.2.2.1,d.2.2.1.2.2.2.2.2.2.2.2.2.2.1,d.2.2.1.2.2.2.2.2.2.2.2.2.2.2.1,d.2.2.1.2.2.2.2.2.2.2.2.2.2.2.2.1,d.2.2.1.2.2.2.2.2.2.2.2.2.2.2.2.2.1,(),()),d.2.2.2.1,()))⟩,
  ⟨⟨.rt,[4],[ni],[.c 60 [.B 1],iI,.m 3 4]⟩,Int,λ d r=>((r,()),(((),()),(d.2.2.1.1,d.2.2.1.2.1,d.2.2.1.2.2.1,d.2.2.1.2.2.2.1,d.2.2.1.2.2.2.2.1,d.2.2.1.2.2.2.2.2.1,d.2.2.1.2.2.2.2.2.2.1,d.2.2.1.2.2.2.2.2.2.2.1,d.2.2.1.2.2.2.2.2.2.2.2.1,d.2.2.1.2.2.2.2.2.2.2.2.2.1,d.2.2.1.2.2.2.2.2.2.2.2.2.2.1,d.2.2.1.2.2.2.2.2.2.2.2.2.2.2.1,d.2.2.1.2.2.2.2.2.2.2.2.2.2.2.2.1,d.2.2.1.2.2.2.2.2.2.2.2.2.2.2.2.2.1,(),()),d.2.2.2.1,()))⟩],
 λ k d=>Wg k d.1.1 (⟨(dZ d.2.2.1),(hr d.2.2.1.2.2.2.2.2.2.2),d.2.2.1.2.2.2.2.2.2.2.2.2.2.2.2.1,d.2.2.1.2.2.2.2.2.2.2.2.2.2.2.2.2.1,d.2.2.2.1⟩:I.bk) d.1.2.2.2.1 d.1.2.2.1⟩ (bP.bY (λ d=>dJ) λ k da db q h=>by
 obtain⟨(v0:List Int),⟨_,_⟩,(v1:Int),(f:Int),_⟩:=da
 obtain⟨⟨_,_⟩,⟨(v3:List Int),(v4:Int),(v5:Int),(g:Int),(i:Int),(j:List Int),(v9:Int),(a:List I.aq),(b:List Int),(c:List (List I.Field)),(l:List (List (List UInt8))),(m:List (List I.Target)),(n:List Int),(gP:List Int),_,_⟩,(e:List (Int×Bool)),_⟩:=db
 obtain⟨o,_⟩:=ei h
 dsimp only at o
 obtain⟨rfl,_⟩:=o
 conv=>rhs;change eh (α:=Unit⊕Int) _ (Wg (k+1) v0 (⟨(⟨v3,v4,v5,g,i,j,v9⟩:I.aV),(⟨(⟨a,b,c,l,m⟩:I.aP)⟩:I.b9),n,gP,e⟩:I.bk) f (v0.length:Int));rw[<-aao (k+1) v0 (⟨(⟨v3,v4,v5,g,i,j,v9⟩:I.aV),(⟨(⟨a,b,c,l,m⟩:I.aP)⟩:I.b9),n,gP,e⟩:I.bk) f];simp only[BG,bb,aao];simp only[bW]
 kernel_rfl)
def auB(F:Nat):aS aI:=(auA F).w6 106 ⟨[nj,.f 67 [.B 0]],[.c 60 [.B 1],iI,.m 3 4],[ni],[.c 60 [.B 1],iI,.m 3 4],Int,λ d=>Rs F d.1.1 (⟨(dZ d.2.2.1),(hr d.2.2.1.2.2.2.2.2.2.2),d.2.2.1.2.2.2.2.2.2.2.2.2.2.2.2.1,d.2.2.1.2.2.2.2.2.2.2.2.2.2.2.2.2.1,d.2.2.2.1⟩:I.bk),λ d r=>((r,()),(((),()),(d.2.2.1.1,d.2.2.1.2.1,d.2.2.1.2.2.1,d.2.2.1.2.2.2.1,d.2.2.1.2.2.2.2.1,d.2.2.1.2.2.2.2.2.1,d.2.2.1.2.2.2.2.2.2.1,d.2.2.1.2.2.2.2.2.2.2.1,d.2.2.1.2.2.2.2.2.2.2.2.1,d.2.2.1.2.2.2.2.2.2.2.2.2.1,d.2.2.1.2.2.2.2.2.2.2.2.2.2.1,d.2.2.1.2.2.2.2.2.2.2.2.2.2.2.1,d.2.2.1.2.2.2.2.2.2.2.2.2.2.2.2.1,d.2.2.1.2.2.2.2.2.2.2.2.2.2.2.2.2.1,(),()),d.2.2.2.1,()))⟩ λ da db=>by
 obtain⟨(v0:List Int),⟨_,_⟩,_⟩:=da;obtain⟨⟨_,_⟩,⟨(v1:List Int),(e:Int),(v3:Int),(v4:Int),(v5:Int),(f:List Int),(g:Int),(h:List I.aq),(v9:List Int),(a:List (List I.Field)),(b:List (List (List UInt8))),(c:List (List I.Target)),(i:List Int),(j:List Int),_,_⟩,(k:List (Int×Bool)),_⟩:=db;conv=>rhs;simp only[Rs,bb,aao]
 kernel_rfl
def auC(F:Nat):aS aI:=(auB F).rt 66 ⟨[nj,.f 136 []],[],[nk],[],Bool,λ d=>Rn F d.1.1,λ d r=>((r,()),())⟩ λ da db=>by
 conv=>rhs;simp only[Rn,bb]
 kernel_rfl
def auD(F:Nat):aS aI:=(auC F).w6 66 ⟨[nj,.f 139 [.B 0]],[.c 60 [.B 1],iI,.m 3 4],[nk],[.c 60 [.B 1],iI,.m 3 4],Bool,λ d=>Rm F d.1.1 (⟨(dZ d.2.2.1),(hr d.2.2.1.2.2.2.2.2.2.2),d.2.2.1.2.2.2.2.2.2.2.2.2.2.2.2.1,d.2.2.1.2.2.2.2.2.2.2.2.2.2.2.2.2.1,d.2.2.2.1⟩:I.bk),λ d r=>((r,()),(((),()),(d.2.2.1.1,d.2.2.1.2.1,d.2.2.1.2.2.1,d.2.2.1.2.2.2.1,d.2.2.1.2.2.2.2.1,d.2.2.1.2.2.2.2.2.1,d.2.2.1.2.2.2.2.2.2.1,d.2.2.1.2.2.2.2.2.2.2.1,d.2.2.1.2.2.2.2.2.2.2.2.1,d.2.2.1.2.2.2.2.2.2.2.2.2.1,d.2.2.1.2.2.2.2.2.2.2.2.2.2.1,d.2.2.1.2.2.2.2.2.2.2.2.2.2.2.1,d.2.2.1.2.2.2.2.2.2.2.2.2.2.2.2.1,d.2.2.1.2.2.2.2.2.2.2.2.2.2.2.2.2.1,(),()),d.2.2.2.1,()))⟩ λ da db=>by
 conv=>rhs;simp only[Rm,bb]
 kernel_rfl
def auE(F:Nat):aS aI:=(auD F).w6 66 ⟨[nj,.f 67 [.B 0]],[.c 60 [.B 1],iI,.m 3 4],[nk],[.c 60 [.B 1],iI,.m 3 4],Bool,λ d=>Ro F d.1.1 (⟨(dZ d.2.2.1),(hr d.2.2.1.2.2.2.2.2.2.2),d.2.2.1.2.2.2.2.2.2.2.2.2.2.2.2.1,d.2.2.1.2.2.2.2.2.2.2.2.2.2.2.2.2.1,d.2.2.2.1⟩:I.bk),λ d r=>((r,()),(((),()),(d.2.2.1.1,d.2.2.1.2.1,d.2.2.1.2.2.1,d.2.2.1.2.2.2.1,d.2.2.1.2.2.2.2.1,d.2.2.1.2.2.2.2.2.1,d.2.2.1.2.2.2.2.2.2.1,d.2.2.1.2.2.2.2.2.2.2.1,d.2.2.1.2.2.2.2.2.2.2.2.1,d.2.2.1.2.2.2.2.2.2.2.2.2.1,d.2.2.1.2.2.2.2.2.2.2.2.2.2.1,d.2.2.1.2.2.2.2.2.2.2.2.2.2.2.1,d.2.2.1.2.2.2.2.2.2.2.2.2.2.2.2.1,d.2.2.1.2.2.2.2.2.2.2.2.2.2.2.2.2.1,(),()),d.2.2.2.1,()))⟩ λ da db=>by
 conv=>rhs;simp only[Ro,bb]
 kernel_rfl
def VF(k:Nat)(a:I.bk)(qp:List Int)(b:Int)(bR:Int):=dt ((qp.length:Int)=bR/\True) (bf (xt a qp k b))
theorem ZN(k:Nat)(a:I.bk)(qp:List Int)(b:Int):bf (xt a qp k b)=VF k a qp b (qp.length:Int):=(dK ⟨rfl,trivial⟩).symm
def auF(F:Nat):aS aI:=(auE F).b2 104 2 F ⟨[0,10,11,12,18,19,20],[.p (.B 0),nj,ni,ni,nj,ni,ni],[fW,.m 3 4],
 [⟨⟨.nm,[0,10,11,12],[.p (.B 0),nj,ni,ni],[fW,.m 3 4]⟩,Unit,λ d r=>(((),d.1.2.1,d.1.2.2.1,d.1.2.2.2.1,()),((d.2.1.1,d.2.1.2.1,d.2.1.2.2.1,d.2.1.2.2.2.1,d.2.1.2.2.2.2.1,d.2.1.2.2.2.2.2.1,d.2.1.2.2.2.2.2.2.1,d.2.1.2.2.2.2.2.2.2.1,d.2.1.2.2.2.2.2.2.2.2.1,d.2.1.2.2.2.2.2.2.2.2.2.1,d.2.1.2.2.2.2.2.2.2.2.2.2.1,d.2.1.2.2.2.2.2.2.2.2.2.2.2.1,d.2.1.2.2.2.2.2.2.2.2.2.2.2.2.1,d.2.1.2.2.2.2.2.2.2.2.2.2.2.2.2.1,(),()),d.2.2.1,()))⟩,
  ⟨⟨.rt,[2],[ni],[fW,.m 3 4]⟩,Int,λ d r=>((r,()),((d.2.1.1,d.2.1.2.1,d.2.1.2.2.1,d.2.1.2.2.2.1,d.2.1.2.2.2.2.1,d.2.1.2.2.2.2.2.1,d.2.1.2.2.2.2.2.2.1,d.2.1.2.2.2.2.2.2.2.1,d.2.1.2.2.2.2.2.2.2.2.1,d.2.1.2.2.2.2.2.2.2.2.2.1,d.2.1.2.2.2.2.2.2.2.2.2.2.1,d.2.1.2.2.2.2.2.2.2.2.2.2.2.1,d.2.1.2.2.2.2.2.2.2.2.2.2.2.2.1,d.2.1.2.2.2.2.2.2.2.2.2.2.2.2.2.1,(),()),d.2.2.1,()))⟩],
 λ k d=>VF k (⟨(dZ d.2.1),(hr d.2.1.2.2.2.2.2.2.2),d.2.1.2.2.2.2.2.2.2.2.2.2.2.2.1,d.2.1.2.2.2.2.2.2.2.2.2.2.2.2.2.1,d.2.2.1⟩:I.bk) d.1.2.2.2.2.1 d.1.2.2.2.2.2.2.1 d.1.2.2.2.2.2.1⟩ (bP.bY (λ d=>dJ) λ k da db q h=>by
 obtain⟨_,(v0:List Int),(v1:Int),(t:Int),(v3:List Int),(v4:Int),(v5:Int),_⟩:=da
 obtain⟨⟨(g:List Int),(i:Int),(j:Int),(v9:Int),(a:Int),(b:List Int),(c:Int),(l:List I.aq),(m:List Int),(n:List (List I.Field)),(gP:List (List (List UInt8))),(e:List (List I.Target)),(o:List Int),(p:List Int),_,_⟩,(f:List (Int×Bool)),_⟩:=db
 obtain⟨s,_⟩:=ei h
 dsimp only at s
 obtain⟨rfl,_⟩:=s
 conv=>rhs;change eh (α:=Unit⊕Int) _ (VF (k+1) (⟨(⟨g,i,j,v9,a,b,c⟩:I.aV),(⟨(⟨l,m,n,gP,e⟩:I.aP)⟩:I.b9),o,p,f⟩:I.bk) v3 v5 (v3.length:Int));rw[<-ZN (k+1) (⟨(⟨g,i,j,v9,a,b,c⟩:I.aV),(⟨(⟨l,m,n,gP,e⟩:I.aP)⟩:I.b9),o,p,f⟩:I.bk) v3 v5];simp only[xt,bb,ZN,aFs];simp only[bW]
 kernel_rfl)
def VE(F:Nat)(k:Nat)(b:I.bk)(a:List Int)(c:Int)(d:Int):=dt ((a.length:Int)=d/\True) (bf (Ao F b a k c))
theorem ZM(F:Nat)(k:Nat)(b:I.bk)(a:List Int)(c:Int):bf (Ao F b a k c)=VE F k b a c (a.length:Int):=(dK ⟨rfl,trivial⟩).symm
def auG(F:Nat):aS aI:=(auF F).b2 104 0 F ⟨[0,10,11,12],[.p (.B 0),nj,ni,ni],[fW,.m 3 4],
 [⟨⟨.nm,[0],[.p (.B 0)],[fW,.m 3 4]⟩,Unit,λ d r=>(((),()),((d.2.1.1,d.2.1.2.1,d.2.1.2.2.1,d.2.1.2.2.2.1,d.2.1.2.2.2.2.1,d.2.1.2.2.2.2.2.1,d.2.1.2.2.2.2.2.2.1,d.2.1.2.2.2.2.2.2.2.1,d.2.1.2.2.2.2.2.2.2.2.1,d.2.1.2.2.2.2.2.2.2.2.2.1,d.2.1.2.2.2.2.2.2.2.2.2.2.1,d.2.1.2.2.2.2.2.2.2.2.2.2.2.1,d.2.1.2.2.2.2.2.2.2.2.2.2.2.2.1,d.2.1.2.2.2.2.2.2.2.2.2.2.2.2.2.1,(),()),d.2.2.1,()))⟩,
  ⟨⟨.rt,[2],[ni],[fW,.m 3 4]⟩,Int,λ d r=>((r,()),((d.2.1.1,d.2.1.2.1,d.2.1.2.2.1,d.2.1.2.2.2.1,d.2.1.2.2.2.2.1,d.2.1.2.2.2.2.2.1,d.2.1.2.2.2.2.2.2.1,d.2.1.2.2.2.2.2.2.2.1,d.2.1.2.2.2.2.2.2.2.2.1,d.2.1.2.2.2.2.2.2.2.2.2.1,d.2.1.2.2.2.2.2.2.2.2.2.2.1,d.2.1.2.2.2.2.2.2.2.2.2.2.2.1,d.2.1.2.2.2.2.2.2.2.2.2.2.2.2.1,d.2.1.2.2.2.2.2.2.2.2.2.2.2.2.2.1,(),()),d.2.2.1,()))⟩],
 λ k d=>VE F k (⟨(dZ d.2.1),(hr d.2.1.2.2.2.2.2.2.2),d.2.1.2.2.2.2.2.2.2.2.2.2.2.2.1,d.2.1.2.2.2.2.2.2.2.2.2.2.2.2.2.1,d.2.2.1⟩:I.bk) d.1.2.1 d.1.2.2.2.1 d.1.2.2.1⟩ (bP.bY (λ d=>dJ) λ k da db q h=>by
 obtain⟨_,(v0:List Int),(v1:Int),(f:Int),_⟩:=da
 obtain⟨⟨(v3:List Int),(v4:Int),(v5:Int),(g:Int),(i:Int),(j:List Int),(v9:Int),(a:List I.aq),(b:List Int),(c:List (List I.Field)),(l:List (List (List UInt8))),(m:List (List I.Target)),(n:List Int),(gP:List Int),_,_⟩,(e:List (Int×Bool)),_⟩:=db
 obtain⟨o,_⟩:=ei h
 dsimp only at o
 obtain⟨rfl,_⟩:=o
 conv=>rhs;change eh (α:=Unit⊕Int) _ (VE F (k+1) (⟨(⟨v3,v4,v5,g,i,j,v9⟩:I.aV),(⟨(⟨a,b,c,l,m⟩:I.aP)⟩:I.b9),n,gP,e⟩:I.bk) v0 f (v0.length:Int));rw[<-ZM F (k+1) (⟨(⟨v3,v4,v5,g,i,j,v9⟩:I.aV),(⟨(⟨a,b,c,l,m⟩:I.aP)⟩:I.b9),n,gP,e⟩:I.bk) v0 f];simp only[Ao,bb,ZN,ZM];simp only[bW]
 kernel_rfl)
def auH(F:Nat):aS aI:=(auG F).rt 104 ⟨[.p (.B 0)],[fW,.m 3 4],[ni],[fW,.m 3 4],Int,λ d=>GZ F (⟨(dZ d.2.1),(hr d.2.1.2.2.2.2.2.2.2),d.2.1.2.2.2.2.2.2.2.2.2.2.2.2.1,d.2.1.2.2.2.2.2.2.2.2.2.2.2.2.2.1,d.2.2.1⟩:I.bk),λ d r=>((r,()),((d.2.1.1,d.2.1.2.1,d.2.1.2.2.1,d.2.1.2.2.2.1,d.2.1.2.2.2.2.1,d.2.1.2.2.2.2.2.1,d.2.1.2.2.2.2.2.2.1,d.2.1.2.2.2.2.2.2.2.1,d.2.1.2.2.2.2.2.2.2.2.1,d.2.1.2.2.2.2.2.2.2.2.2.1,d.2.1.2.2.2.2.2.2.2.2.2.2.1,d.2.1.2.2.2.2.2.2.2.2.2.2.2.1,d.2.1.2.2.2.2.2.2.2.2.2.2.2.2.1,d.2.1.2.2.2.2.2.2.2.2.2.2.2.2.2.1,(),()),d.2.2.1,()))⟩ λ da db=>by
 obtain⟨_,_⟩:=da;obtain⟨⟨(v0:List Int),(v1:Int),(e:Int),(v3:Int),(v4:Int),(v5:List Int),(f:Int),(g:List I.aq),(h:List Int),(v9:List (List I.Field)),(a:List (List (List UInt8))),(b:List (List I.Target)),(c:List Int),(i:List Int),_,_⟩,(j:List (Int×Bool)),_⟩:=db;conv=>rhs;simp only[GZ,bb,ZM]
 kernel_rfl
def auI(F:Nat):aS aI:=(auH F).rt 172 ⟨[ni],[],[nk],[],Bool,λ d=>cmp_isNaN_int d.1.1,λ d r=>((r,()),())⟩ λ da db=>by kernel_rfl
def aqH(F:Nat):aS aI:=(auI F).rt 160 ⟨[ni,ni],[],[nk],[],Bool,λ d=>cmp_Less_int d.1.1 d.1.2.1,λ d r=>((r,()),())⟩ λ da db=>by
 conv=>rhs;simp only[cmp_Less_int,bb]
 kernel_rfl
def aqI(F:Nat):aS aI:=(aqH F).rt 161 ⟨[ni],[],[nk],[],Bool,λ d=>Rt d.1.1,λ d r=>((r,()),())⟩ λ da db=>by kernel_rfl
def V4(k:Nat)(b:Int)(a:List Int)(c:Int)(d:Int)(ao:Int):=dt ((a.length:Int)=ao/\True) (vS b a k c d)
theorem aab(k:Nat)(b:Int)(a:List Int)(c:Int)(d:Int):vS b a k c d=V4 k b a c d (a.length:Int):=(dK ⟨rfl,trivial⟩).symm
def aqJ(F:Nat):aS aI:=(aqI F).b2 138 0 F ⟨[0,1,6,7,8],[nj,ni,ni,ni,ni],[],
 [⟨⟨.nm,[0,1,6,7],[nj,ni,ni,ni],[]⟩,Int,λ d r=>((d.1.1,d.1.2.1,d.1.2.2.1,r,()),())⟩],
 λ k d=>V4 k d.1.2.1 d.1.1 d.1.2.2.2.1 d.1.2.2.2.2.1 d.1.2.2.1⟩ (bP.bY (λ d=>dJ) λ k da db q h=>by
 obtain⟨(v0:List Int),(v1:Int),(b:Int),(v3:Int),(v4:Int),_⟩:=da
 obtain⟨a,_⟩:=ei h
 dsimp only at a
 obtain⟨rfl,_⟩:=a
 conv=>rhs;change eh (α:=Int) _ (V4 (k+1) v1 v0 v3 v4 (v0.length:Int));rw[<-aab (k+1) v1 v0 v3 v4];simp only[vS,bb,aab];simp only[bW]
 kernel_rfl)
def aqK(F:Nat):aS aI:=(aqJ F).rt 138 ⟨[nj,ni],[],[ni,nk],[],Int×Bool,λ d=>L9 F d.1.1 d.1.2.1,λ d r=>((r.1,r.2,()),())⟩ λ da db=>by
 obtain⟨(v0:List Int),(v1:Int),_⟩:=da;conv=>rhs;simp only[L9,bb,aab]
 kernel_rfl
def VB(F:Nat)(k:Nat)(a:I.bk)(b:Int)(c:List Int)(ao:Int)(Gy:List Int):=dt ((a.H.aU:List Int)=c/\(a.H.aU.length:Int)=ao/\(a.H.aU:List Int)=Gy/\True) (bf (u' F a k b))
theorem ZJ(F:Nat)(k:Nat)(a:I.bk)(b:Int):bf (u' F a k b)=VB F k a b a.H.aU (a.H.aU.length:Int) a.H.aU:=(dK ⟨rfl,rfl,rfl,trivial⟩).symm
def aqL(F:Nat):aS aI:=(aqK F).b2 105 0 F ⟨[1,3,16,17,18],[.p (.B 0),nj,nj,ni,ni],[.c 60 [.B 1],iI,.m 3 4],
 [⟨⟨.nm,[1,3],[.p (.B 0),nj],[.c 60 [.B 1],iI,.m 3 4]⟩,Unit,λ d r=>(((),d.1.2.1,()),(((),()),(d.2.2.1.1,d.2.2.1.2.1,d.2.2.1.2.2.1,d.2.2.1.2.2.2.1,d.2.2.1.2.2.2.2.1,d.2.2.1.2.2.2.2.2.1,d.2.2.1.2.2.2.2.2.2.1,d.2.2.1.2.2.2.2.2.2.2.1,d.2.2.1.2.2.2.2.2.2.2.2.1,d.2.2.1.2.2.2.2.2.2.2.2.2.1,d.2.2.1.2.2.2.2.2.2.2.2.2.2.1,d.2.2.1.2.2.2.2.2.2.2.2.2.2.2.1,d.2.2.1.2.2.2.2.2.2.2.2.2.2.2.2.1,d.2.2.1.2.2.2.2.2.2.2.2.2.2.2.2.2.1,(),()),d.2.2.2.1,()))⟩,
  ⟨⟨.rt,[2],[ni],[.c 60 [.B 1],iI,.m 3 4]⟩,Int,λ d r=>((r,()),(((),()),(d.2.2.1.1,d.2.2.1.2.1,d.2.2.1.2.2.1,d.2.2.1.2.2.2.1,d.2.2.1.2.2.2.2.1,d.2.2.1.2.2.2.2.2.1,d.2.2.1.2.2.2.2.2.2.1,d.2.2.1.2.2.2.2.2.2.2.1,d.2.2.1.2.2.2.2.2.2.2.2.1,d.2.2.1.2.2.2.2.2.2.2.2.2.1,d.2.2.1.2.2.2.2.2.2.2.2.2.2.1,d.2.2.1.2.2.2.2.2.2.2.2.2.2.2.1,d.2.2.1.2.2.2.2.2.2.2.2.2.2.2.2.1,d.2.2.1.2.2.2.2.2.2.2.2.2.2.2.2.2.1,(),()),d.2.2.2.1,()))⟩],
 λ k d=>VB F k (⟨(⟨d.2.2.1.1,d.2.2.1.2.1,d.2.2.1.2.2.1,d.2.2.1.2.2.2.1,d.2.2.1.2.2.2.2.1,d.1.2.1,d.2.2.1.2.2.2.2.2.2.1⟩:I.aV),(hr d.2.2.1.2.2.2.2.2.2.2),d.2.2.1.2.2.2.2.2.2.2.2.2.2.2.2.1,d.2.2.1.2.2.2.2.2.2.2.2.2.2.2.2.2.1,d.2.2.2.1⟩:I.bk) d.1.2.2.2.2.1 d.1.2.2.1 d.1.2.2.2.1 d.2.2.1.2.2.2.2.2.1⟩ (bP.bY (λ d=>dJ) λ k da db q h=>by
 obtain⟨_,(v0:List Int),(v1:List Int),(p:Int),(v3:Int),_⟩:=da
 obtain⟨⟨_,_⟩,⟨(v4:List Int),(v5:Int),(f:Int),(g:Int),(i:Int),(v9:List Int),(a:Int),(b:List I.aq),(c:List Int),(j:List (List I.Field)),(l:List (List (List UInt8))),(m:List (List I.Target)),(gP:List Int),(e:List Int),_,_⟩,(n:List (Int×Bool)),_⟩:=db
 obtain⟨o,_⟩:=ei h
 dsimp only at o
 obtain⟨rfl,rfl,rfl,_⟩:=o
 conv=>rhs;change eh (α:=Unit⊕Int) _ (VB F (k+1) (⟨(⟨v4,v5,f,g,i,v0,a⟩:I.aV),(⟨(⟨b,c,j,l,m⟩:I.aP)⟩:I.b9),gP,e,n⟩:I.bk) v3 (v0) (v0.length:Int) (v0));rw[<-ZJ F (k+1) (⟨(⟨v4,v5,f,g,i,v0,a⟩:I.aV),(⟨(⟨b,c,j,l,m⟩:I.aP)⟩:I.b9),gP,e,n⟩:I.bk) v3];simp only[u',bb,ZJ,Y2];simp only[bW]
 kernel_rfl)
def VC(F:Nat)(k:Nat)(a:I.bk)(c:Int)(ao:Int)(Gy:List Int)(b:List Int):=dt ((a.aK.length:Int)=ao/\(a.H.aU:List Int)=Gy/\(a.aK:List Int)=b/\True) (bf (xr F a k c))
theorem ZK(F:Nat)(k:Nat)(a:I.bk)(b:Int):bf (xr F a k b)=VC F k a b (a.aK.length:Int) a.H.aU a.aK:=(dK ⟨rfl,rfl,rfl,trivial⟩).symm
def aqM(F:Nat):aS aI:=(aqL F).b2 105 2 F ⟨[1,3,59,60,61],[.p (.B 0),nj,nj,ni,ni],[.c 60 [.B 1],iI,.m 3 4],
 [⟨⟨.nm,[],[],[.c 60 [.B 1],iI,.m 3 4]⟩,Unit,λ d r=>((),(((),()),(d.2.2.1.1,d.2.2.1.2.1,d.2.2.1.2.2.1,d.2.2.1.2.2.2.1,d.2.2.1.2.2.2.2.1,d.2.2.1.2.2.2.2.2.1,d.2.2.1.2.2.2.2.2.2.1,d.2.2.1.2.2.2.2.2.2.2.1,d.2.2.1.2.2.2.2.2.2.2.2.1,d.2.2.1.2.2.2.2.2.2.2.2.2.1,d.2.2.1.2.2.2.2.2.2.2.2.2.2.1,d.2.2.1.2.2.2.2.2.2.2.2.2.2.2.1,d.2.2.1.2.2.2.2.2.2.2.2.2.2.2.2.1,d.2.2.1.2.2.2.2.2.2.2.2.2.2.2.2.2.1,(),()),d.2.2.2.1,()))⟩,
  ⟨⟨.rt,[2],[ni],[.c 60 [.B 1],iI,.m 3 4]⟩,Int,λ d r=>((r,()),(((),()),(d.2.2.1.1,d.2.2.1.2.1,d.2.2.1.2.2.1,d.2.2.1.2.2.2.1,d.2.2.1.2.2.2.2.1,d.2.2.1.2.2.2.2.2.1,d.2.2.1.2.2.2.2.2.2.1,d.2.2.1.2.2.2.2.2.2.2.1,d.2.2.1.2.2.2.2.2.2.2.2.1,d.2.2.1.2.2.2.2.2.2.2.2.2.1,d.2.2.1.2.2.2.2.2.2.2.2.2.2.1,d.2.2.1.2.2.2.2.2.2.2.2.2.2.2.1,d.2.2.1.2.2.2.2.2.2.2.2.2.2.2.2.1,d.2.2.1.2.2.2.2.2.2.2.2.2.2.2.2.2.1,(),()),d.2.2.2.1,()))⟩],
 λ k d=>VC F k (⟨(⟨d.2.2.1.1,d.2.2.1.2.1,d.2.2.1.2.2.1,d.2.2.1.2.2.2.1,d.2.2.1.2.2.2.2.1,d.1.2.1,d.2.2.1.2.2.2.2.2.2.1⟩:I.aV),(hr d.2.2.1.2.2.2.2.2.2.2),d.2.2.1.2.2.2.2.2.2.2.2.2.2.2.2.1,d.1.2.2.1,d.2.2.2.1⟩:I.bk) d.1.2.2.2.2.1 d.1.2.2.2.1 d.2.2.1.2.2.2.2.2.1 d.2.2.1.2.2.2.2.2.2.2.2.2.2.2.2.2.1⟩ (bP.bY (λ d=>dJ) λ k da db q h=>by
 obtain⟨_,(v0:List Int),(v1:List Int),(p:Int),(v3:Int),_⟩:=da
 obtain⟨⟨_,_⟩,⟨(v4:List Int),(v5:Int),(e:Int),(f:Int),(g:Int),(v9:List Int),(a:Int),(b:List I.aq),(c:List Int),(i:List (List I.Field)),(j:List (List (List UInt8))),(l:List (List I.Target)),(gP:List Int),(o:List Int),_,_⟩,(m:List (Int×Bool)),_⟩:=db
 obtain⟨n,_⟩:=ei h
 dsimp only at n
 obtain⟨rfl,rfl,rfl,_⟩:=n
 conv=>rhs;change eh (α:=Unit⊕Int) _ (VC F (k+1) (⟨(⟨v4,v5,e,f,g,v0,a⟩:I.aV),(⟨(⟨b,c,i,j,l⟩:I.aP)⟩:I.b9),gP,v1,m⟩:I.bk) v3 (v1.length:Int) (v0) (v1));rw[<-ZK F (k+1) (⟨(⟨v4,v5,e,f,g,v0,a⟩:I.aV),(⟨(⟨b,c,i,j,l⟩:I.aP)⟩:I.b9),gP,v1,m⟩:I.bk) v3];simp only[xr,bb,ZK];simp only[bW]
 kernel_rfl)
def aqN(F:Nat):aS aI:=(aqM F).rt 105 ⟨[.p (.B 0)],[fW,.m 3 4],[ni],[fW,.m 3 4],Int,λ d=>GY F (⟨(dZ d.2.1),(hr d.2.1.2.2.2.2.2.2.2),d.2.1.2.2.2.2.2.2.2.2.2.2.2.2.1,d.2.1.2.2.2.2.2.2.2.2.2.2.2.2.2.1,d.2.2.1⟩:I.bk),λ d r=>((r,()),((d.2.1.1,d.2.1.2.1,d.2.1.2.2.1,d.2.1.2.2.2.1,d.2.1.2.2.2.2.1,d.2.1.2.2.2.2.2.1,d.2.1.2.2.2.2.2.2.1,d.2.1.2.2.2.2.2.2.2.1,d.2.1.2.2.2.2.2.2.2.2.1,d.2.1.2.2.2.2.2.2.2.2.2.1,d.2.1.2.2.2.2.2.2.2.2.2.2.1,d.2.1.2.2.2.2.2.2.2.2.2.2.2.1,d.2.1.2.2.2.2.2.2.2.2.2.2.2.2.1,d.2.1.2.2.2.2.2.2.2.2.2.2.2.2.2.1,(),()),d.2.2.1,()))⟩ λ da db=>by
 obtain⟨_,_⟩:=da;obtain⟨⟨(v0:List Int),(v1:Int),(e:Int),(v3:Int),(v4:Int),(v5:List Int),(f:Int),(g:List I.aq),(h:List Int),(v9:List (List I.Field)),(a:List (List (List UInt8))),(b:List (List I.Target)),(c:List Int),(i:List Int),_,_⟩,(j:List (Int×Bool)),_⟩:=db;conv=>rhs;simp only[GY,bb,ZJ,ZK]
 kernel_rfl
theorem aGU(F:Nat)(a:I.aV)(b:I.aP){ct:Type}(f:(Option I.bk)×Int->Option ct):(va F a b).bind f=cZ (kx (va F a b)) (λ p=>f (some p.1,p.2)) (λ e=>f (none,e)):=akq _ _
def aqO(F:Nat):aS aI:=(aqN F).Rb 65 ⟨[jQ,h2],[],[⟨⟨[.p (.B 0),ni],[fW,.m 3 4]⟩,I.bk×Int,λ d r=>(((),r.2,()),((r.1.H.Words,r.1.H.ak,r.1.H.aK,r.1.H.aO,r.1.H.aM,r.1.H.aU,r.1.H.Next,r.1.S.K.a1,r.1.S.K.aY,r.1.S.K.Fields,r.1.S.K.Names,r.1.S.K.aZ,r.1.ak,r.1.aK,(),()),r.1.dQ,()))⟩,
 ⟨⟨[.p (.gZ),ni],[]⟩,Int,λ d r=>(((),r,()),())⟩],λ d=>kx (va F (dZ d.1.1) (fu d.1.2.1))⟩ λ da db=>by
 conv=>rhs;simp only[va,bb,akr,aks,akt,aku,akv,akw];simp only[Gv]
 kernel_rfl
theorem alx(F:Nat)(a:I.aV)(b:I.aP){ct:Type}(f:(Option I.bk)×Int->Option ct):(kQ F a b).bind f=cZ (kx (kQ F a b)) (λ p=>f (some p.1,p.2)) (λ e=>f (none,e)):=akq _ _
def aqP(F:Nat):aS aI:=(aqO F).Rb 33 ⟨[jQ,h2],[],[⟨⟨[.p (.B 0),ni],[fW,.m 3 4]⟩,I.bk×Int,λ d r=>(((),r.2,()),((r.1.H.Words,r.1.H.ak,r.1.H.aK,r.1.H.aO,r.1.H.aM,r.1.H.aU,r.1.H.Next,r.1.S.K.a1,r.1.S.K.aY,r.1.S.K.Fields,r.1.S.K.Names,r.1.S.K.aZ,r.1.ak,r.1.aK,(),()),r.1.dQ,()))⟩,
 ⟨⟨[.p (.gZ),ni],[]⟩,Int,λ d r=>(((),r,()),())⟩],λ d=>kx (kQ F (dZ d.1.1) (fu d.1.2.1))⟩ λ da db=>by
 obtain⟨⟨(v0:List Int),(v1:Int),(c:Int),(v3:Int),(v4:Int),(v5:List Int),(e:Int),_⟩,⟨(f:List I.aq),(g:List Int),(v9:List (List I.Field)),(a:List (List (List UInt8))),(b:List (List I.Target)),_⟩,_⟩:=da
 conv=>rhs;simp only[kQ,bb,akr,aks,akt,aku,akv,akw,aGU];simp only[Gv]
 kernel_rfl
def aqQ(F:Nat):aS aI:=(aqP F).rt 35 ⟨[jQ],[],[ni],[],Int,λ d=>adw (dZ d.1.1),λ d r=>((r,()),())⟩ λ da db=>by
 conv=>rhs;simp only[adw,bb]
 kernel_rfl
def aqS(F:Nat):aS aI:=(aqQ F).rt 19 ⟨[jQ,h2],[],[ni,ni],[],Int×Int,λ d=>aqw F (dZ d.1.1) (fu d.1.2.1),λ d r=>((r.1,r.2,()),())⟩ λ da db=>by
 obtain⟨⟨(v0:List Int),(v1:Int),(c:Int),(v3:Int),(v4:Int),(v5:List Int),(e:Int),_⟩,⟨(f:List I.aq),(g:List Int),(v9:List (List I.Field)),(a:List (List (List UInt8))),(b:List (List I.Target)),_⟩,_⟩:=da;conv=>rhs;simp only[aqw,bb,alx]
 kernel_rfl
def aqT(F:Nat):aS aI:=(aqS F).rt 47 ⟨[],[],[.p (.l 134)],[],List I.aq,λ d=>adW,λ d r=>((r,()),())⟩ λ da db=>by
 conv=>rhs;simp only[adW,bb]
 kernel_rfl
def aqU(F:Nat):aS aI:=(aqT F).rt 48 ⟨[ni,ni],[],[jQ,ni],[],I.aV×Int,λ d=>ahX d.1.1 d.1.2.1,λ d r=>(((r.1.Words,r.1.ak,r.1.aK,r.1.aO,r.1.aM,r.1.aU,r.1.Next,()),r.2,()),())⟩ λ da db=>by
 conv=>rhs;simp only[ahX,bb]
 kernel_rfl
def aqV(F:Nat):aS aI:=(aqU F).rt 57 ⟨[h2,ni,ni],[],[ni],[],Int,λ d=>Am (hr d.1.1) d.1.2.1 d.1.2.2.1,λ d r=>((r,()),())⟩ λ da db=>by
 conv=>rhs;simp only[Am,bb]
 kernel_rfl
def aqW(F:Nat):aS aI:=(aqV F).rt 36 ⟨[jQ],[],[.a [.R 0,nl,nl,nl,nl,.l 3,nl]],[.r 3 false],I.aV,λ d=>nI (dZ d.1.1),λ d r=>((((),r.ak,r.aK,r.aO,r.aM,r.aU,r.Next,()),()),(r.Words,()))⟩ λ da db=>by
 obtain⟨⟨(v0:List Int),(v1:Int),(a:Int),(v3:Int),(v4:Int),(v5:List Int),(b:Int),_⟩,_⟩:=da;conv=>rhs;simp only[nI,bb,Rl]
 kernel_rfl
def aqX(F:Nat):aS aI:=(aqW F).rt 85 ⟨[.p (.B 0),ni,ni,nk],[akT,.r 3 true],[ni,nk],[akT,.r 3 true],Int×Bool×I.aV,λ d=>p3 (⟨d.2.2.1,d.2.1.2.1,d.2.1.2.2.1,d.2.1.2.2.2.1,d.2.1.2.2.2.2.1,d.2.1.2.2.2.2.2.1,d.2.1.2.2.2.2.2.2.1⟩:I.aV) d.1.2.1 d.1.2.2.1 d.1.2.2.2.1,λ d r=>((r.1,r.2.1,()),(((),d.2.1.2.1,d.2.1.2.2.1,r.2.2.aO,r.2.2.aM,d.2.1.2.2.2.2.2.1,r.2.2.Next,()),r.2.2.Words,()))⟩ λ da db=>by
 conv=>rhs;simp only[p3,bb]
 kernel_rfl
def aqY(F:Nat):aS aI:=(aqX F).rt 49 ⟨[jQ,h2,ni,ni,nk],[],[jQ,ni,ni],[],I.aV×Int×Int,λ d=>ahW F (dZ d.1.1) (fu d.1.2.1) d.1.2.2.1 d.1.2.2.2.1 d.1.2.2.2.2.1,λ d r=>(((r.1.Words,r.1.ak,r.1.aK,r.1.aO,r.1.aM,r.1.aU,r.1.Next,()),r.2.1,r.2.2,()),())⟩ λ da db=>by
 obtain⟨⟨(v0:List Int),(v1:Int),(e:Int),(v3:Int),(v4:Int),(v5:List Int),(f:Int),_⟩,⟨(g:List I.aq),(h:List Int),(v9:List (List I.Field)),(a:List (List (List UInt8))),(b:List (List I.Target)),_⟩,(c:Int),(i:Int),(j:Bool),_⟩:=da;conv=>rhs;simp only[ahW,bb,alx]
 kernel_rfl
def aqZ(F:Nat):aS aI:=(aqY F).rt 34 ⟨[.p (.B 0),nj],[fW,.m 3 4],[ni],[fW,.m 3 4],Int,λ d=>FQ F (⟨(dZ d.2.1),(hr d.2.1.2.2.2.2.2.2.2),d.2.1.2.2.2.2.2.2.2.2.2.2.2.2.1,d.2.1.2.2.2.2.2.2.2.2.2.2.2.2.2.1,d.2.2.1⟩:I.bk) d.1.2.1,λ d r=>((r,()),((d.2.1.1,d.2.1.2.1,d.2.1.2.2.1,d.2.1.2.2.2.1,d.2.1.2.2.2.2.1,d.2.1.2.2.2.2.2.1,d.2.1.2.2.2.2.2.2.1,d.2.1.2.2.2.2.2.2.2.1,d.2.1.2.2.2.2.2.2.2.2.1,d.2.1.2.2.2.2.2.2.2.2.2.1,d.2.1.2.2.2.2.2.2.2.2.2.2.1,d.2.1.2.2.2.2.2.2.2.2.2.2.2.1,d.2.1.2.2.2.2.2.2.2.2.2.2.2.2.1,d.2.1.2.2.2.2.2.2.2.2.2.2.2.2.2.1,(),()),d.2.2.1,()))⟩ λ da db=>by
 conv=>rhs;simp only[FQ,bb]
 kernel_rfl
def aq0(F:Nat):aS aI:=(aqZ F).b2 123 0 F ⟨[0,1,5],[.p (.l 136),.p (.l 136),ni],[],
 [⟨⟨.nm,[],[],[]⟩,Unit,λ d r=>((),())⟩,
  ⟨⟨.rt,[4],[nk],[]⟩,Bool,λ d r=>((r,()),())⟩],
 λ k d=>bf (C5 d.1.1 d.1.2.1 k d.1.2.2.1)⟩ (bP.bY (λ d=>rfl) λ k da db q h=>by
 conv=>rhs;simp only[C5,bb];simp only[bW]
 kernel_rfl)
def aq1(F:Nat):aS aI:=(aq0 F).rt 123 ⟨[.p (.l 136),.p (.l 136)],[],[nk],[],Bool,λ d=>Ga F d.1.1 d.1.2.1,λ d r=>((r,()),())⟩ λ da db=>by
 conv=>rhs;simp only[Ga,bb]
 kernel_rfl
def aq3(F:Nat):aS aI:=(aq1 F).b2 148 0 F ⟨[0,1,5],[.p (.l 128),.p (.l 128),ni],[],
 [⟨⟨.nm,[],[],[]⟩,Unit,λ d r=>((),())⟩,
  ⟨⟨.rt,[4],[nk],[]⟩,Bool,λ d r=>((r,()),())⟩],
 λ k d=>bf (q5 d.1.1 d.1.2.1 k d.1.2.2.1)⟩ (bP.bY (λ d=>rfl) λ k da db q h=>by
 conv=>rhs;simp only[q5,bb];simp only[bW]
 kernel_rfl)
def aq4(F:Nat):aS aI:=(aq3 F).rt 148 ⟨[.p (.l 128),.p (.l 128)],[],[nk],[],Bool,λ d=>wL F d.1.1 d.1.2.1,λ d r=>((r,()),())⟩ λ da db=>by
 conv=>rhs;simp only[wL,bb]
 kernel_rfl
def aq5(F:Nat):aS aI:=(aq4 F).b2 122 4 F ⟨[0,1,5,6,7,8,9,10,11],[.p (.l 134),.p (.l 134),ni,.p (.B 0),.p (.B 1),ni,.p (.B 2),.p (.B 3),ni],[iJ,iJ,mY,mY],
 [⟨⟨.nm,[0,1,5,6,7,8],[.p (.l 134),.p (.l 134),ni,.p (.B 0),.p (.B 1),ni],[iJ,iJ,mY,mY]⟩,Unit,λ d r=>((d.1.1,d.1.2.1,d.1.2.2.1,(),(),d.1.2.2.2.2.2.1,()),(d.2.1,d.2.2.1,d.2.2.2.1,d.2.2.2.2.1,()))⟩,
  ⟨⟨.rt,[4],[nk],[.d,.d,.d,.d]⟩,Bool,λ d r=>((r,()),((),(),(),(),()))⟩],
 λ k d=>bf (C4 (vV d.2.2.2.1) (vV d.2.2.2.2.1) k d.1.2.2.2.2.2.2.2.2.1)⟩ (bP.bY (λ d=>rfl) λ k da db q h=>by
 conv=>rhs;simp only[C4,bb];simp only[bW]
 kernel_rfl)
def aq6(F:Nat):aS aI:=(aq5 F).b2 122 2 F ⟨[0,1,5,6,7,8],[.p (.l 134),.p (.l 134),ni,.p (.B 0),.p (.B 1),ni],[iJ,iJ],
 [⟨⟨.nm,[0,1,5],[.p (.l 134),.p (.l 134),ni],[iJ,iJ]⟩,Unit,λ d r=>((d.1.1,d.1.2.1,d.1.2.2.1,()),(d.2.1,d.2.2.1,()))⟩,
  ⟨⟨.rt,[4],[nk],[.d,.d]⟩,Bool,λ d r=>((r,()),((),(),()))⟩],
 λ k d=>bf (C3 F (Ig d.2.1) (Ig d.2.2.1) k d.1.2.2.2.2.2.1)⟩ (bP.bY (λ d=>rfl) λ k da db q h=>by
 obtain⟨(v0:List I.aq),(v1:List I.aq),(c:Int),_,_,(v3:Int),_⟩:=da
 obtain⟨⟨(v4:List UInt8),(v5:List UInt8),(e:List I.Field),(f:List I.Method),_⟩,⟨(g:List UInt8),(v9:List UInt8),(a:List I.Field),(b:List I.Method),_⟩,_⟩:=db
 conv=>rhs;simp only[C3,bb,Y2,<-Bool.or_assoc];simp only[bW]
 kernel_rfl)
def aq7(F:Nat):aS aI:=(aq6 F).b2 122 0 F ⟨[0,1,5],[.p (.l 134),.p (.l 134),ni],[],
 [⟨⟨.nm,[],[],[]⟩,Unit,λ d r=>((),())⟩,
  ⟨⟨.rt,[4],[nk],[]⟩,Bool,λ d r=>((r,()),())⟩],
 λ k d=>bf (C2 F d.1.1 d.1.2.1 k d.1.2.2.1)⟩ (bP.bY (λ d=>rfl) λ k da db q h=>by
 conv=>rhs;simp only[C2,bb];simp only[bW]
 kernel_rfl)
def aq8(F:Nat):aS aI:=(aq7 F).rt 122 ⟨[.p (.l 134),.p (.l 134)],[],[nk],[],Bool,λ d=>F_ F d.1.1 d.1.2.1,λ d r=>((r,()),())⟩ λ da db=>by
 conv=>rhs;simp only[F_,bb]
 kernel_rfl
def Vy(k:Nat)(a:I.aP)(b:I.aP)(c:Int)(d:Int):=dt ((a.aY.length:Int)=d/\True) (bf (zy a b k c))
theorem ZG(k:Nat)(a:I.aP)(b:I.aP)(c:Int):bf (zy a b k c)=Vy k a b c (a.aY.length:Int):=(dK ⟨rfl,trivial⟩).symm
def aq9(F:Nat):aS aI:=(aq8 F).b2 87 0 F ⟨[2,3,5,6],[.p (.B 0),.p (.B 1),ni,ni],[dY,dY],
 [⟨⟨.nm,[2,3],[.p (.B 0),.p (.B 1)],[dY,dY]⟩,Unit,λ d r=>(((),(),()),(d.2.1,d.2.2.1,()))⟩,
  ⟨⟨.rt,[4],[nk],[.d,.d]⟩,Bool,λ d r=>((r,()),((),(),()))⟩],
 λ k d=>Vy k (fu d.2.1) (fu d.2.2.1) d.1.2.2.2.1 d.1.2.2.1⟩ (bP.bY (λ d=>dJ) λ k da db q h=>by
 obtain⟨_,_,(v0:Int),(v1:Int),_⟩:=da
 obtain⟨⟨(c:List I.aq),(v3:List Int),(v4:List (List I.Field)),(v5:List (List (List UInt8))),(e:List (List I.Target)),_⟩,⟨(f:List I.aq),(g:List Int),(v9:List (List I.Field)),(a:List (List (List UInt8))),(b:List (List I.Target)),_⟩,_⟩:=db
 obtain⟨i,_⟩:=ei h
 dsimp only at i
 obtain⟨rfl,_⟩:=i
 conv=>rhs;change eh (α:=Unit⊕Bool) _ (Vy (k+1) (⟨c,v3,v4,v5,e⟩:I.aP) (⟨f,g,v9,a,b⟩:I.aP) v1 (v3.length:Int));rw[<-ZG (k+1) (⟨c,v3,v4,v5,e⟩:I.aP) (⟨f,g,v9,a,b⟩:I.aP) v1];simp only[zy,bb,ZG];simp only[bW]
 kernel_rfl)
def aq_(F:Nat):aS aI:=(aq9 F).b2 87 2 F ⟨[2,3,7],[.p (.B 0),.p (.B 1),ni],[dY,dY],
 [⟨⟨.nm,[2,3],[.p (.B 0),.p (.B 1)],[dY,dY]⟩,Unit,λ d r=>(((),(),()),(d.2.1,d.2.2.1,()))⟩,
  ⟨⟨.rt,[4],[nk],[.d,.d]⟩,Bool,λ d r=>((r,()),((),(),()))⟩],
 λ k d=>bf (C6 F (fu d.2.1) (fu d.2.2.1) k d.1.2.2.1)⟩ (bP.bY (λ d=>rfl) λ k da db q h=>by
 conv=>rhs;simp only[C6,bb];simp only[bW]
 kernel_rfl)
def aq'(F:Nat):aS aI:=(aq_ F).b2 87 6 F ⟨[2,3,8,9],[.p (.B 0),.p (.B 1),ni,ni],[dY,dY],
 [⟨⟨.nm,[2,3,8],[.p (.B 0),.p (.B 1),ni],[dY,dY]⟩,Unit,λ d r=>(((),(),d.1.2.2.1,()),(d.2.1,d.2.2.1,()))⟩,
  ⟨⟨.rt,[4],[nk],[.d,.d]⟩,Bool,λ d r=>((r,()),((),(),()))⟩],
 λ k d=>bf (C8 (fu d.2.1) (fu d.2.2.1) d.1.2.2.1 k d.1.2.2.2.1)⟩ (bP.bY (λ d=>rfl) λ k da db q h=>by
 conv=>rhs;simp only[C8,bb];simp only[bW]
 kernel_rfl)
def ara(F:Nat):aS aI:=(aq' F).b2 87 4 F ⟨[2,3,8],[.p (.B 0),.p (.B 1),ni],[dY,dY],
 [⟨⟨.nm,[2,3],[.p (.B 0),.p (.B 1)],[dY,dY]⟩,Unit,λ d r=>(((),(),()),(d.2.1,d.2.2.1,()))⟩,
  ⟨⟨.rt,[4],[nk],[.d,.d]⟩,Bool,λ d r=>((r,()),((),(),()))⟩],
 λ k d=>bf (C7 F (fu d.2.1) (fu d.2.2.1) k d.1.2.2.1)⟩ (bP.bY (λ d=>rfl) λ k da db q h=>by
 conv=>rhs;simp only[C7,bb];simp only[bW]
 kernel_rfl)
def arc(F:Nat):aS aI:=(ara F).b2 87 10 F ⟨[2,3,10,11],[.p (.B 0),.p (.B 1),ni,ni],[dY,dY],
 [⟨⟨.nm,[2,3,10],[.p (.B 0),.p (.B 1),ni],[dY,dY]⟩,Unit,λ d r=>(((),(),d.1.2.2.1,()),(d.2.1,d.2.2.1,()))⟩,
  ⟨⟨.rt,[4],[nk],[.d,.d]⟩,Bool,λ d r=>((r,()),((),(),()))⟩],
 λ k d=>bf (C_ (fu d.2.1) (fu d.2.2.1) d.1.2.2.1 k d.1.2.2.2.1)⟩ (bP.bY (λ d=>rfl) λ k da db q h=>by
 conv=>rhs;simp only[C_,bb];simp only[bW]
 kernel_rfl)
def ard(F:Nat):aS aI:=(arc F).b2 87 8 F ⟨[2,3,10],[.p (.B 0),.p (.B 1),ni],[dY,dY],
 [⟨⟨.nm,[],[],[dY,dY]⟩,Unit,λ d r=>((),(d.2.1,d.2.2.1,()))⟩,
  ⟨⟨.rt,[4],[nk],[.d,.d]⟩,Bool,λ d r=>((r,()),((),(),()))⟩],
 λ k d=>bf (C9 F (fu d.2.1) (fu d.2.2.1) k d.1.2.2.1)⟩ (bP.bY (λ d=>rfl) λ k da db q h=>by
 conv=>rhs;simp only[C9,bb];simp only[bW]
 kernel_rfl)
def arf(F:Nat):aS aI:=(ard F).rt 87 ⟨[h2,h2],[],[nk],[],Bool,λ d=>Gb F (fu d.1.1) (fu d.1.2.1),λ d r=>((r,()),())⟩ λ da db=>by
 obtain⟨⟨(v0:List I.aq),(v1:List Int),(a:List (List I.Field)),(v3:List (List (List UInt8))),(v4:List (List I.Target)),_⟩,⟨(v5:List I.aq),(b:List Int),(c:List (List I.Field)),(e:List (List (List UInt8))),(v9:List (List I.Target)),_⟩,_⟩:=da;conv=>rhs;simp only[Gb,bb,ZG]
 kernel_rfl
def arh(F:Nat):aS aI:=(arf F).b2 164 0 F ⟨[0,3],[.p (.s),ni],[],
 [⟨⟨.nm,[0],[.p (.s)],[]⟩,Unit,λ d r=>((d.1.1,()),())⟩,
  ⟨⟨.rt,[2],[nk],[]⟩,Bool,λ d r=>((r,()),())⟩],
 λ k d=>bf (uJ d.1.1 k d.1.2.1)⟩ (bP.bY (λ d=>rfl) λ k da db q h=>by
 conv=>rhs;simp only[uJ,bb];simp only[bW]
 kernel_rfl)
def ari(F:Nat):aS aI:=(arh F).rt 164 ⟨[.p (.s)],[],[nk],[],Bool,λ d=>pP F d.1.1,λ d r=>((r,()),())⟩ λ da db=>by
 conv=>rhs;simp only[pP,bb]
 kernel_rfl
def arj(F:Nat):aS aI:=(ari F).rt 165 ⟨[.a [nl,.s]],[],[nk],[],Bool,λ d=>wJ F (Mq d.1.1),λ d r=>((r,()),())⟩ λ da db=>by
 conv=>rhs;simp only[wJ,bb]
 kernel_rfl
def ark(F:Nat):aS aI:=(arj F).rt 42 ⟨[ni,ni,ni],[],[nk],[],Bool,λ d=>gp d.1.1 d.1.2.1 d.1.2.2.1,λ d r=>((r,()),())⟩ λ da db=>by
 conv=>rhs;simp only[gp,bb]
 kernel_rfl
def arl(F:Nat):aS aI:=(ark F).b2 166 0 F ⟨[1,3],[.p (.B 0),ni],[mY],
 [⟨⟨.nm,[1],[.p (.B 0)],[mY]⟩,Unit,λ d r=>(((),()),(d.2.1,()))⟩,
  ⟨⟨.rt,[2],[ni],[.d]⟩,Int,λ d r=>((r,()),((),()))⟩],
 λ k d=>bf (CS F (vV d.2.1) k d.1.2.1)⟩ (bP.bY (λ d=>rfl) λ k da db q h=>by
 conv=>rhs;simp only[CS,bb];simp only[bW]
 kernel_rfl)
def arm(F:Nat):aS aI:=(arl F).b2 166 2 F ⟨[1,4],[.p (.B 0),ni],[mY],
 [⟨⟨.nm,[],[],[mY]⟩,Unit,λ d r=>((),(d.2.1,()))⟩,
  ⟨⟨.rt,[2],[ni],[.d]⟩,Int,λ d r=>((r,()),((),()))⟩],
 λ k d=>bf (CT F (vV d.2.1) k d.1.2.1)⟩ (bP.bY (λ d=>rfl) λ k da db q h=>by
 conv=>rhs;simp only[CT,bb];simp only[bW]
 kernel_rfl)
def arn(F:Nat):aS aI:=(arm F).rt 166 ⟨[QC],[],[ni],[],Int,λ d=>CR F (vV d.1.1),λ d r=>((r,()),())⟩ λ da db=>by
 conv=>rhs;simp only[CR,bb]
 kernel_rfl
theorem aGS(F:Nat)(k:Nat)(a:I.aq)(b:Int):bf (F5 F a k b)=bf (zn F a k b):=by kernel_rfl
def arp(F:Nat):aS aI:=(arn F).b2 145 2 F ⟨[0,3,4,5],[.p (.l 134),ni,.p (.B 0),ni],[iJ],
 [⟨⟨.nm,[0,3,4],[.p (.l 134),ni,.p (.B 0)],[iJ]⟩,Unit,λ d r=>((d.1.1,d.1.2.1,(),()),(d.2.1,()))⟩,
  ⟨⟨.rt,[2],[ni],[.d]⟩,Int,λ d r=>((r,()),((),()))⟩],
 λ k d=>bf (zn F (Ig d.2.1) k d.1.2.2.2.1)⟩ (bP.bY (λ d=>rfl) λ k da db q h=>by
 conv=>rhs;simp only[zn,bb];simp only[bW]
 kernel_rfl)
theorem aGT(F:Nat)(k:Nat)(a:I.aq)(b:Int):bf (F6 F a k b)=bf (zo F a k b):=by kernel_rfl
def arq(F:Nat):aS aI:=(arp F).b2 145 4 F ⟨[0,3,4,6],[.p (.l 134),ni,.p (.B 0),ni],[iJ],
 [⟨⟨.nm,[0,3],[.p (.l 134),ni],[iJ]⟩,Unit,λ d r=>((d.1.1,d.1.2.1,()),(d.2.1,()))⟩,
  ⟨⟨.rt,[2],[ni],[.d]⟩,Int,λ d r=>((r,()),((),()))⟩],
 λ k d=>bf (zo F (Ig d.2.1) k d.1.2.2.2.1)⟩ (bP.bY (λ d=>rfl) λ k da db q h=>by
 conv=>rhs;simp only[zo,bb];simp only[bW]
 kernel_rfl)
def arr(F:Nat):aS aI:=(arq F).b2 145 0 F ⟨[0,3],[.p (.l 134),ni],[],
 [⟨⟨.nm,[],[],[]⟩,Unit,λ d r=>((),())⟩,
  ⟨⟨.rt,[2],[ni],[]⟩,Int,λ d r=>((r,()),())⟩],
 λ k d=>bf (CC F d.1.1 k d.1.2.1)⟩ (bP.bY (λ d=>rfl) λ k da db q h=>by
 obtain⟨(v0:List I.aq),(v1:Int),_⟩:=da
 conv=>rhs;simp only[CC,bb,aGS,aGT];simp only[bW]
 kernel_rfl)
def ars(F:Nat):aS aI:=(arr F).rt 145 ⟨[.p (.l 134)],[],[ni],[],Int,λ d=>Jb F d.1.1,λ d r=>((r,()),())⟩ λ da db=>by
 conv=>rhs;simp only[Jb,bb]
 kernel_rfl
def art(F:Nat):aS aI:=(ars F).b2 121 0 F ⟨[0,1,5],[.p (.l 134),.p (.s),ni],[],
 [⟨⟨.nm,[],[],[]⟩,Unit,λ d r=>((),())⟩,
  ⟨⟨.rt,[4],[ni],[]⟩,Int,λ d r=>((r,()),())⟩],
 λ k d=>bf (CU d.1.1 d.1.2.1 k d.1.2.2.1)⟩ (bP.bY (λ d=>rfl) λ k da db q h=>by
 conv=>rhs;simp only[CU,bb];simp only[bW]
 kernel_rfl)
def aru(F:Nat):aS aI:=(art F).rt 121 ⟨[.p (.l 134),.p (.s)],[],[ni],[],Int,λ d=>pO F d.1.1 d.1.2.1,λ d r=>((r,()),())⟩ λ da db=>by
 conv=>rhs;simp only[pO,bb]
 kernel_rfl
def arv(F:Nat):aS aI:=(aru F).b2 146 0 F ⟨[0,1,5],[.p (.l 134),ni,nj],[],
 [⟨⟨.nm,[5],[nj],[]⟩,List Int,λ d r=>((r,()),())⟩,
  ⟨⟨.rt,[4],[nj],[]⟩,List Int,λ d r=>((r,()),())⟩],
 λ k d=>bf (Dc F d.1.1 k d.1.2.1 d.1.2.2.1)⟩ (bP.bY (λ d=>rfl) λ k da db q h=>by
 conv=>rhs;simp only[Dc,bb];simp only[bW]
 kernel_rfl)
def arw(F:Nat):aS aI:=(arv F).rt 146 ⟨[.p (.l 134),ni],[],[nj],[],List Int,λ d=>zB F d.1.1 d.1.2.1,λ d r=>((r,()),())⟩ λ da db=>by
 conv=>rhs;simp only[zB,bb]
 kernel_rfl
def arx(F:Nat):aS aI:=(arw F).b2 119 0 F ⟨[0,5,6,7],[.p (.l 134),.p (.R 0),nj,ni],[.r 136 false],
 [⟨⟨.nm,[5],[.p (.R 0)],[.r 136 false]⟩,List I.Field,λ d r=>(((),()),(r,()))⟩],
 λ k d=>uE d.1.1 d.1.2.2.1 k d.2.1 d.1.2.2.2.1⟩ (bP.bY (λ d=>rfl) λ k da db q h=>by
 conv=>rhs;simp only[uE,bb];simp only[bW]
 kernel_rfl)
def ary(F:Nat):aS aI:=(arx F).rt 119 ⟨[.p (.l 134),ni],[],[.p (.l 136)],[],List I.Field,λ d=>CB F d.1.1 d.1.2.1,λ d r=>((r,()),())⟩ λ da db=>by
 conv=>rhs;simp only[CB,bb]
 kernel_rfl
def arA(F:Nat):aS aI:=(ary F).b2 147 0 F ⟨[0,1,5],[.p (.l 134),.p (.l 128),ni],[],
 [⟨⟨.nm,[],[],[]⟩,Unit,λ d r=>((),())⟩,
  ⟨⟨.rt,[4],[nk],[]⟩,Bool,λ d r=>((r,()),())⟩],
 λ k d=>bf (zA F d.1.2.1 d.1.1 k d.1.2.2.1)⟩ (bP.bY (λ d=>rfl) λ k da db q h=>by
 conv=>rhs;simp only[zA,bb];simp only[bW]
 kernel_rfl)
def arB(F:Nat):aS aI:=(arA F).rt 147 ⟨[.p (.l 134),.p (.l 128)],[],[nk],[],Bool,λ d=>Db F d.1.1 d.1.2.1,λ d r=>((r,()),())⟩ λ da db=>by
 conv=>rhs;simp only[Db,bb]
 kernel_rfl
def arC(F:Nat):aS aI:=(arB F).b2 118 0 F ⟨[0,4],[.p (.l 134),ni],[],
 [⟨⟨.nm,[0],[.p (.l 134)],[]⟩,Unit,λ d r=>((d.1.1,()),())⟩,
  ⟨⟨.rt,[2],[ni],[]⟩,Int,λ d r=>((r,()),())⟩],
 λ k d=>bf (wH F d.1.1 k d.1.2.1)⟩ (bP.bY (λ d=>rfl) λ k da db q h=>by
 conv=>rhs;simp only[wH,bb];simp only[bW]
 kernel_rfl)
def arD(F:Nat):aS aI:=(arC F).b2 118 2 F ⟨[0,5],[.p (.l 134),ni],[],
 [⟨⟨.nm,[0],[.p (.l 134)],[]⟩,Unit,λ d r=>((d.1.1,()),())⟩,
  ⟨⟨.rt,[2],[ni],[]⟩,Int,λ d r=>((r,()),())⟩],
 λ k d=>bf (CL d.1.1 k d.1.2.1)⟩ (bP.bY (λ d=>rfl) λ k da db q h=>by
 conv=>rhs;simp only[CL,bb];simp only[bW]
 kernel_rfl)
def arE(F:Nat):aS aI:=(arD F).b2 118 4 F ⟨[0,6],[.p (.l 134),ni],[],
 [⟨⟨.nm,[0],[.p (.l 134)],[]⟩,Unit,λ d r=>((d.1.1,()),())⟩,
  ⟨⟨.rt,[2],[ni],[]⟩,Int,λ d r=>((r,()),())⟩],
 λ k d=>bf (zs F d.1.1 k d.1.2.1)⟩ (bP.bY (λ d=>rfl) λ k da db q h=>by
 conv=>rhs;simp only[zs,bb];simp only[bW]
 kernel_rfl)
def arF(F:Nat):aS aI:=(arE F).b2 118 6 F ⟨[0,7],[.p (.l 134),ni],[],
 [⟨⟨.nm,[0],[.p (.l 134)],[]⟩,Unit,λ d r=>((d.1.1,()),())⟩,
  ⟨⟨.rt,[2],[ni],[]⟩,Int,λ d r=>((r,()),())⟩],
 λ k d=>bf (CM F d.1.1 k d.1.2.1)⟩ (bP.bY (λ d=>rfl) λ k da db q h=>by
 conv=>rhs;simp only[CM,bb];simp only[bW]
 kernel_rfl)
def arG(F:Nat):aS aI:=(arF F).b2 118 10 F ⟨[0,10,11],[.p (.l 134),ni,ni],[],
 [⟨⟨.nm,[0,10],[.p (.l 134),ni],[]⟩,Unit,λ d r=>((d.1.1,d.1.2.1,()),())⟩,
  ⟨⟨.rt,[2],[ni],[]⟩,Int,λ d r=>((r,()),())⟩],
 λ k d=>bf (CN F d.1.1 d.1.2.1 k d.1.2.2.1)⟩ (bP.bY (λ d=>rfl) λ k da db q h=>by
 conv=>rhs;simp only[CN,bb];simp only[bW]
 kernel_rfl)
def arH(F:Nat):aS aI:=(arG F).b2 118 14 F ⟨[0,10,12,13,14],[.p (.l 134),ni,ni,.p (.B 0),ni],[mY],
 [⟨⟨.nm,[0,10,12],[.p (.l 134),ni,ni],[mY]⟩,Unit,λ d r=>((d.1.1,d.1.2.1,d.1.2.2.1,()),(d.2.1,()))⟩,
  ⟨⟨.rt,[2],[ni],[.d]⟩,Int,λ d r=>((r,()),((),()))⟩],
 λ k d=>bf (CP F d.1.1 (vV d.2.1) k d.1.2.2.2.2.1)⟩ (bP.bY (λ d=>rfl) λ k da db q h=>by
 conv=>rhs;simp only[CP,bb];simp only[bW]
 kernel_rfl)
def arI(F:Nat):aS aI:=(arH F).b2 118 12 F ⟨[0,10,12],[.p (.l 134),ni,ni],[],
 [⟨⟨.nm,[0,10],[.p (.l 134),ni],[]⟩,Unit,λ d r=>((d.1.1,d.1.2.1,()),())⟩,
  ⟨⟨.rt,[2],[ni],[]⟩,Int,λ d r=>((r,()),())⟩],
 λ k d=>bf (CO F d.1.1 d.1.2.1 k d.1.2.2.1)⟩ (bP.bY (λ d=>rfl) λ k da db q h=>by
 conv=>rhs;simp only[CO,bb];simp only[bW]
 kernel_rfl)
def arJ(F:Nat):aS aI:=(arI F).b2 118 8 F ⟨[0,10],[.p (.l 134),ni],[],
 [⟨⟨.nm,[0],[.p (.l 134)],[]⟩,Unit,λ d r=>((d.1.1,()),())⟩,
  ⟨⟨.rt,[2],[ni],[]⟩,Int,λ d r=>((r,()),())⟩],
 λ k d=>bf (zt F d.1.1 k d.1.2.1)⟩ (bP.bY (λ d=>rfl) λ k da db q h=>by
 conv=>rhs;simp only[zt,bb];simp only[bW]
 kernel_rfl)
def arL(F:Nat):aS aI:=(arJ F).b2 118 20 F ⟨[0,15,16,17,18],[.p (.l 134),ni,.p (.l 136),ni,ni],[],
 [⟨⟨.nm,[0,15,16,17],[.p (.l 134),ni,.p (.l 136),ni],[]⟩,Unit,λ d r=>((d.1.1,d.1.2.1,d.1.2.2.1,d.1.2.2.2.1,()),())⟩,
  ⟨⟨.rt,[2],[ni],[]⟩,Int,λ d r=>((r,()),())⟩],
 λ k d=>bf (CH d.1.2.2.1 d.1.2.2.2.1 k d.1.2.2.2.2.1)⟩ (bP.bY (λ d=>rfl) λ k da db q h=>by
 conv=>rhs;simp only[CH,bb];simp only[bW]
 kernel_rfl)
def arM(F:Nat):aS aI:=(arL F).b2 118 18 F ⟨[0,15,16,17],[.p (.l 134),ni,.p (.l 136),ni],[],
 [⟨⟨.nm,[0,15],[.p (.l 134),ni],[]⟩,Unit,λ d r=>((d.1.1,d.1.2.1,()),())⟩,
  ⟨⟨.rt,[2],[ni],[]⟩,Int,λ d r=>((r,()),())⟩],
 λ k d=>bf (CG F d.1.2.2.1 k d.1.2.2.2.1)⟩ (bP.bY (λ d=>rfl) λ k da db q h=>by
 conv=>rhs;simp only[CG,bb];simp only[bW]
 kernel_rfl)
def Vv(k:Nat)(a:I.aq)(b:Int)(c:Int):=dt (True) (bf (uH a b k c))
theorem ZD(k:Nat)(a:I.aq)(b:Int)(c:Int):bf (uH a b k c)=Vv k (⟨[],[],[],a.bp⟩:I.aq) b c:=(show bf (uH a b k c)=bf (uH (⟨[],[],[],a.bp⟩:I.aq) b k c) by kernel_rfl).trans (dK trivial).symm
def arN(F:Nat):aS aI:=(arM F).b2 118 24 F ⟨[0,15,19,20,21],[.p (.l 134),ni,.p (.l 131),ni,ni],[],
 [⟨⟨.nm,[0,15,19,20],[.p (.l 134),ni,.p (.l 131),ni],[]⟩,Unit,λ d r=>((d.1.1,d.1.2.1,d.1.2.2.1,d.1.2.2.2.1,()),())⟩,
  ⟨⟨.rt,[2],[ni],[]⟩,Int,λ d r=>((r,()),())⟩],
 λ k d=>Vv k (⟨[],[],[],d.1.2.2.1⟩:I.aq) d.1.2.2.2.1 d.1.2.2.2.2.1⟩ (bP.bY (λ d=>dJ) λ k da db q h=>by
 obtain⟨(v0:List I.aq),(v1:Int),(a:List I.Method),(v3:Int),(v4:Int),_⟩:=da
 conv=>rhs;change eh (α:=Unit⊕Int) _ (Vv (k+1) (⟨[],[],[],a⟩:I.aq) v3 v4);rw[<-ZD (k+1) (⟨[],[],[],a⟩:I.aq) v3 v4];simp only[uH,bb,ZD];simp only[bW]
 kernel_rfl)
def Vu(F:Nat)(k:Nat)(a:I.aq)(b:Int):=dt (True) (bf (uG F a k b))
theorem ZC(F:Nat)(k:Nat)(a:I.aq)(b:Int):bf (uG F a k b)=Vu F k (⟨[],[],[],a.bp⟩:I.aq) b:=(show bf (uG F a k b)=bf (uG F (⟨[],[],[],a.bp⟩:I.aq) k b) by kernel_rfl).trans (dK trivial).symm
def arO(F:Nat):aS aI:=(arN F).b2 118 22 F ⟨[0,15,19,20],[.p (.l 134),ni,.p (.l 131),ni],[],
 [⟨⟨.nm,[0,15],[.p (.l 134),ni],[]⟩,Unit,λ d r=>((d.1.1,d.1.2.1,()),())⟩,
  ⟨⟨.rt,[2],[ni],[]⟩,Int,λ d r=>((r,()),())⟩],
 λ k d=>Vu F k (⟨[],[],[],d.1.2.2.1⟩:I.aq) d.1.2.2.2.1⟩ (bP.bY (λ d=>dJ) λ k da db q h=>by
 obtain⟨(v0:List I.aq),(v1:Int),(a:List I.Method),(v3:Int),_⟩:=da
 conv=>rhs;change eh (α:=Unit⊕Int) _ (Vu F (k+1) (⟨[],[],[],a⟩:I.aq) v3);rw[<-ZC F (k+1) (⟨[],[],[],a⟩:I.aq) v3];simp only[uG,bb,ZD,ZC];simp only[bW]
 kernel_rfl)
def arP(F:Nat):aS aI:=(arO F).b2 118 16 F ⟨[0,15],[.p (.l 134),ni],[],
 [⟨⟨.nm,[0],[.p (.l 134)],[]⟩,Unit,λ d r=>((d.1.1,()),())⟩,
  ⟨⟨.rt,[2],[ni],[]⟩,Int,λ d r=>((r,()),())⟩],
 λ k d=>bf (CQ F d.1.1 k d.1.2.1)⟩ (bP.bY (λ d=>rfl) λ k da db q h=>by
 obtain⟨(v0:List I.aq),(v1:Int),_⟩:=da
 conv=>rhs;simp only[CQ,bb,ZC];simp only[bW]
 kernel_rfl)
def arQ(F:Nat):aS aI:=(arP F).b2 118 32 F ⟨[0,22,23,24,25,26],[.p (.l 134),ni,nj,ni,ni,ni],[],
 [⟨⟨.nm,[0,22,23,24,25],[.p (.l 134),ni,nj,ni,ni],[]⟩,Unit,λ d r=>((d.1.1,d.1.2.1,d.1.2.2.1,d.1.2.2.2.1,d.1.2.2.2.2.1,()),())⟩,
  ⟨⟨.rt,[2],[ni],[]⟩,Int,λ d r=>((r,()),())⟩],
 λ k d=>bf (zr F d.1.1 d.1.2.1 d.1.2.2.1 d.1.2.2.2.1 d.1.2.2.2.2.1 k d.1.2.2.2.2.2.1)⟩ (bP.bY (λ d=>rfl) λ k da db q h=>by
 obtain⟨(v0:List I.aq),(v1:Int),(a:List Int),(v3:Int),(v4:Int),(v5:Int),_⟩:=da
 conv=>rhs;simp only[zr,bb,Y2];simp only[bW]
 kernel_rfl)
def arR(F:Nat):aS aI:=(arQ F).b2 118 30 F ⟨[0,22,23,24,25],[.p (.l 134),ni,nj,ni,ni],[],
 [⟨⟨.nm,[0,22,23,24],[.p (.l 134),ni,nj,ni],[]⟩,Unit,λ d r=>((d.1.1,d.1.2.1,d.1.2.2.1,d.1.2.2.2.1,()),())⟩,
  ⟨⟨.rt,[2],[ni],[]⟩,Int,λ d r=>((r,()),())⟩],
 λ k d=>bf (CK F d.1.1 d.1.2.1 d.1.2.2.1 d.1.2.2.2.1 k d.1.2.2.2.2.1)⟩ (bP.bY (λ d=>rfl) λ k da db q h=>by
 conv=>rhs;simp only[CK,bb];simp only[bW]
 kernel_rfl)
def arS(F:Nat):aS aI:=(arR F).b2 118 28 F ⟨[0,22,23,24],[.p (.l 134),ni,nj,ni],[],
 [⟨⟨.nm,[0,22],[.p (.l 134),ni],[]⟩,Unit,λ d r=>((d.1.1,d.1.2.1,()),())⟩,
  ⟨⟨.rt,[2],[ni],[]⟩,Int,λ d r=>((r,()),())⟩],
 λ k d=>bf (CJ F d.1.1 d.1.2.1 d.1.2.2.1 k d.1.2.2.2.1)⟩ (bP.bY (λ d=>rfl) λ k da db q h=>by
 conv=>rhs;simp only[CJ,bb];simp only[bW]
 kernel_rfl)
def arT(F:Nat):aS aI:=(arS F).b2 118 26 F ⟨[0,22],[.p (.l 134),ni],[],
 [⟨⟨.nm,[],[],[]⟩,Unit,λ d r=>((),())⟩,
  ⟨⟨.rt,[2],[ni],[]⟩,Int,λ d r=>((r,()),())⟩],
 λ k d=>bf (CI F d.1.1 k d.1.2.1)⟩ (bP.bY (λ d=>rfl) λ k da db q h=>by
 conv=>rhs;simp only[CI,bb];simp only[bW]
 kernel_rfl)
def arU(F:Nat):aS aI:=(arT F).rt 118 ⟨[.p (.l 134)],[],[ni],[],Int,λ d=>Jc F d.1.1,λ d r=>((r,()),())⟩ λ da db=>by
 conv=>rhs;simp only[Jc,bb]
 kernel_rfl
def Vz(k:Nat)(a:List (List UInt8))(b:I.Method)(c:Int):=dt (True) (sA a b k c)
theorem ZH(k:Nat)(a:List (List UInt8))(b:I.Method)(c:Int):sA a b k c=Vz k a (⟨b.Name,false,[],(⟨0,[]⟩:I.Kind),0,0,[],[]⟩:I.Method) c:=(show sA a b k c=sA a (⟨b.Name,false,[],(⟨0,[]⟩:I.Kind),0,0,[],[]⟩:I.Method) k c by kernel_rfl).trans (dK trivial).symm
def arW(F:Nat):aS aI:=(arU F).b2 120 4 F ⟨[0,6,7,8,9,10,11,12],[.p (.l 134),.p (.R 0),.p (.R 1),nj,ni,ni,.p (.s),ni],[.r 9 false,.r 166 false],
 [⟨⟨.nm,[0,6,7,8,9,10,11,12],[.p (.l 134),.p (.R 0),.p (.R 1),nj,ni,ni,.p (.s),ni],[.r 9 false,.r 166 false]⟩,Int,λ d r=>((d.1.1,(),(),d.1.2.2.2.1,d.1.2.2.2.2.1,d.1.2.2.2.2.2.1,d.1.2.2.2.2.2.2.1,r,()),(d.2.1,d.2.2.1,()))⟩],
 λ k d=>Vz k d.2.1 (⟨d.1.2.2.2.2.2.2.1,false,[],(⟨0,[]⟩:I.Kind),0,0,[],[]⟩:I.Method) d.1.2.2.2.2.2.2.2.1⟩ (bP.bY (λ d=>dJ) λ k da db q h=>by
 obtain⟨(v0:List I.aq),_,_,(v1:List Int),(b:Int),(v3:Int),(v4:List UInt8),(v5:Int),_⟩:=da
 obtain⟨(a:List (List UInt8)),(c:List I.Target),_⟩:=db
 conv=>rhs;change eh (α:=Int) _ (Vz (k+1) a (⟨v4,false,[],(⟨0,[]⟩:I.Kind),0,0,[],[]⟩:I.Method) v5);rw[<-ZH (k+1) a (⟨v4,false,[],(⟨0,[]⟩:I.Kind),0,0,[],[]⟩:I.Method) v5];simp only[sA,bb,ZH];simp only[bW]
 kernel_rfl)
def arX(F:Nat):aS aI:=(arW F).b2 120 2 F ⟨[0,6,7,8,9,10],[.p (.l 134),.p (.R 0),.p (.R 1),nj,ni,ni],[.r 9 false,.r 166 false],
 [⟨⟨.nm,[0,6,7,8,9],[.p (.l 134),.p (.R 0),.p (.R 1),nj,ni],[.r 9 false,.r 166 false]⟩,(List I.Target)×(List (List UInt8)),λ d r=>((d.1.1,(),(),d.1.2.2.2.1,d.1.2.2.2.2.1,()),(r.2,r.1,()))⟩],
 λ k d=>Da F d.1.1 d.1.2.2.2.1 d.1.2.2.2.2.1 k d.2.2.1 d.2.1 d.1.2.2.2.2.2.1⟩ (bP.bY (λ d=>rfl) λ k da db q h=>by
 obtain⟨(v0:List I.aq),_,_,(v1:List Int),(a:Int),(v3:Int),_⟩:=da
 obtain⟨(v4:List (List UInt8)),(v5:List I.Target),_⟩:=db
 conv=>rhs;simp only[Da,bb,ZH];simp only[bW]
 kernel_rfl)
def arY(F:Nat):aS aI:=(arX F).b2 120 0 F ⟨[0,6,7,8,9],[.p (.l 134),.p (.R 0),.p (.R 1),nj,ni],[.r 9 false,.r 166 false],
 [⟨⟨.nm,[6,7],[.p (.R 0),.p (.R 1)],[.r 9 false,.r 166 false]⟩,(List I.Target)×(List (List UInt8)),λ d r=>(((),(),()),(r.2,r.1,()))⟩],
 λ k d=>C' F d.1.1 d.1.2.2.2.1 k d.2.2.1 d.2.1 d.1.2.2.2.2.1⟩ (bP.bY (λ d=>rfl) λ k da db q h=>by
 conv=>rhs;simp only[C',bb];simp only[bW]
 kernel_rfl)
def arZ(F:Nat):aS aI:=(arY F).rt 120 ⟨[.p (.l 134),ni],[],[.p (.l 9),.p (.l 166)],[],(List (List UInt8))×(List I.Target),λ d=>Ji F d.1.1 d.1.2.1,λ d r=>((r.1,r.2,()),())⟩ λ da db=>by
 conv=>rhs;simp only[Ji,bb]
 kernel_rfl
def Vx(F:Nat)(k:Nat)(a:List I.aq)(b:List (List I.Target))(Eo:List (List (List UInt8)))(c:List (List I.Field))(d:List Int)(e:Int)(ao:List I.aq)(aW:List Int)(bR:List (List I.Field))(dx:List (List (List UInt8)))(eV:List (List I.Target))(kP:List I.aq):=dt (([]:List I.aq)=ao/\([]:List Int)=aW/\([]:List (List I.Field))=bR/\([]:List (List (List UInt8)))=dx/\([]:List (List I.Target))=eV/\(a:List I.aq)=kP/\True) (bf (sy F a k b Eo c d e))
theorem ZF(F:Nat)(k:Nat)(a:List I.aq)(b:List (List I.Target))(Eo:List (List (List UInt8)))(c:List (List I.Field))(d:List Int)(e:Int):bf (sy F a k b Eo c d e)=Vx F k a b Eo c d e [] [] [] [] [] a:=(dK ⟨rfl,rfl,rfl,rfl,rfl,rfl,trivial⟩).symm
def ar0(F:Nat):aS aI:=(arZ F).b2 86 0 F ⟨[0,2,5,6],[.p (.l 134),.p (.B 0),.p (.B 1),ni],[dY,akQ,.r 3 false,.r 124 false,.r 120 false,.r 121 false],
 [⟨⟨.nm,[2,5],[.p (.B 0),.p (.B 1)],[dY,akQ,.r 3 false,.r 124 false,.r 120 false,.r 121 false]⟩,(List (List I.Target))×(List (List (List UInt8)))×(List (List I.Field))×(List Int),λ d r=>(((),(),()),(d.2.1,(d.2.2.1.1,(),(),(),(),()),r.2.2.2,r.2.2.1,r.2.1,r.1,()))⟩,
  ⟨⟨.rt,[2,3],[.p (.B 0),ni],[dY,.d,.d,.d,.d,.d]⟩,I.aP×Int,λ d r=>(((),r.2,()),((r.1.a1,r.1.aY,r.1.Fields,r.1.Names,r.1.aZ,()),(),(),(),(),(),()))⟩],
 λ k d=>Vx F k d.1.1 d.2.2.2.2.2.2.1 d.2.2.2.2.2.1 d.2.2.2.2.1 d.2.2.2.1 d.1.2.2.2.1 d.2.1.1 d.2.1.2.1 d.2.1.2.2.1 d.2.1.2.2.2.1 d.2.1.2.2.2.2.1 d.2.2.1.1⟩ (bP.bY (λ d=>dJ) λ k da db q h=>by
 obtain⟨(v0:List I.aq),_,_,(v1:Int),_⟩:=da
 obtain⟨⟨(f:List I.aq),(v3:List Int),(v4:List (List I.Field)),(v5:List (List (List UInt8))),(g:List (List I.Target)),_⟩,⟨(i:List I.aq),_,_,_,_,_⟩,(c:List Int),(v9:List (List I.Field)),(a:List (List (List UInt8))),(b:List (List I.Target)),_⟩:=db
 obtain⟨e,_⟩:=ei h
 dsimp only at e
 obtain⟨rfl,rfl,rfl,rfl,rfl,rfl,_⟩:=e
 conv=>rhs;change eh (α:=((List (List I.Target))×(List (List (List UInt8)))×(List (List I.Field))×(List Int))⊕(I.aP×Int)) _ (Vx F (k+1) v0 b a v9 c v1 ([]) ([]) ([]) ([]) ([]) (v0));rw[<-ZF F (k+1) v0 b a v9 c v1];simp only[sy,bb,ZF];simp only[bW]
 kernel_rfl)
def ar1(F:Nat):aS aI:=(ar0 F).rt 86 ⟨[.p (.l 134)],[],[h2,ni],[],I.aP×Int,λ d=>Jg F d.1.1,λ d r=>(((r.1.a1,r.1.aY,r.1.Fields,r.1.Names,r.1.aZ,()),r.2,()),())⟩ λ da db=>by
 obtain⟨(v0:List I.aq),_⟩:=da;conv=>rhs;simp only[Jg,bb,ZF]
 kernel_rfl
def ar2(F:Nat):aS aI:=(ar1 F).rt 50 ⟨[h2],[],[ni],[],Int,λ d=>uI F (fu d.1.1),λ d r=>((r,()),())⟩ λ da db=>by
 conv=>rhs;simp only[uI,bb]
 kernel_rfl
def ar3(F:Nat):aS aI:=(ar2 F).rt 59 ⟨[h2,ni],[],[nk],[],Bool,λ d=>F9 (fu d.1.1) d.1.2.1,λ d r=>((r,()),())⟩ λ da db=>by
 conv=>rhs;simp only[F9,bb]
 kernel_rfl
def ar4(F:Nat):aS aI:=(ar3 F).rt 60 ⟨[h2,ni,ni],[],[nk],[],Bool,λ d=>F8 (fu d.1.1) d.1.2.1 d.1.2.2.1,λ d r=>((r,()),())⟩ λ da db=>by
 conv=>rhs;simp only[F8,bb]
 kernel_rfl
def ar5(F:Nat):aS aI:=(ar4 F).b2 95 0 F ⟨[2,3,4,5,10],[ni,ni,.p (.B 0),.p (.B 1),.p (.R 2)],[jp,dY,.r 3 false],
 [⟨⟨.nm,[2,3,10],[ni,ni,.p (.R 2)],[jp,dY,.r 3 false]⟩,(List Int)×Int,λ d r=>((r.2,d.1.2.1,(),()),(d.2.1,d.2.2.1,r.1,()))⟩,
  ⟨⟨.rt,[8,9],[nj,nk],[.d,.d,.d]⟩,(List Int)×Bool,λ d r=>((r.1,r.2,()),((),(),(),()))⟩],
 λ k d=>bf (zz (dZ d.2.1) (fu d.2.2.1) d.1.2.1 k d.2.2.2.1 d.1.1)⟩ (bP.bY (λ d=>rfl) λ k da db q h=>by
 conv=>rhs;simp only[zz,bb];simp only[bW]
 kernel_rfl)
def ar7(F:Nat):aS aI:=(ar5 F).rt 95 ⟨[jQ,h2,ni,ni],[],[nj,nk],[],(List Int)×Bool,λ d=>sB F (dZ d.1.1) (fu d.1.2.1) d.1.2.2.1 d.1.2.2.2.1,λ d r=>((r.1,r.2,()),())⟩ λ da db=>by
 conv=>rhs;simp only[sB,bb]
 kernel_rfl
def ar8(F:Nat):aS aI:=(ar7 F).rt 62 ⟨[jQ,h2],[],[nj,nj,nk],[],(List Int)×(List Int)×Bool,λ d=>oH F (dZ d.1.1) (fu d.1.2.1),λ d r=>((r.1,r.2.1,r.2.2,()),())⟩ λ da db=>by
 conv=>rhs;simp only[oH,bb]
 kernel_rfl
def ar9(F:Nat):aS aI:=(ar8 F).rt 71 ⟨[h2,ni,ni],[],[nk],[],Bool,λ d=>uK (fu d.1.1) d.1.2.1 d.1.2.2.1,λ d r=>((r,()),())⟩ λ da db=>by
 conv=>rhs;simp only[uK,bb]
 kernel_rfl
def ar_(F:Nat):aS aI:=(ar9 F).b2 44 0 F ⟨[2,3,4,7,8],[ni,.p (.B 0),.p (.B 1),.p (.R 2),ni],[jp,dY,.r 3 false],
 [⟨⟨.nm,[7],[.p (.R 2)],[jp,dY,.r 3 false]⟩,List Int,λ d r=>(((),()),(d.2.1,d.2.2.1,r,()))⟩],
 λ k d=>wI d.1.1 (dZ d.2.1) (fu d.2.2.1) k d.2.2.2.1 d.1.2.2.2.2.1⟩ (bP.bY (λ d=>rfl) λ k da db q h=>by
 conv=>rhs;simp only[wI,bb];simp only[bW]
 kernel_rfl)
def ar'(F:Nat):aS aI:=(ar_ F).rt 44 ⟨[jQ,h2,ni],[],[nj],[],List Int,λ d=>pQ F (dZ d.1.1) (fu d.1.2.1) d.1.2.2.1,λ d r=>((r,()),())⟩ λ da db=>by
 conv=>rhs;simp only[pQ,bb]
 kernel_rfl
def asa(F:Nat):aS aI:=(ar' F).b2 43 0 F ⟨[0,1,5],[nj,ni,ni],[],
 [⟨⟨.nm,[],[],[]⟩,Unit,λ d r=>((),())⟩,
  ⟨⟨.rt,[4],[nk],[]⟩,Bool,λ d r=>((r,()),())⟩],
 λ k d=>bf (CV d.1.1 d.1.2.1 k d.1.2.2.1)⟩ (bP.bY (λ d=>rfl) λ k da db q h=>by
 conv=>rhs;simp only[CV,bb];simp only[bW]
 kernel_rfl)
def asb(F:Nat):aS aI:=(asa F).rt 43 ⟨[nj,ni],[],[nk],[],Bool,λ d=>iL F d.1.1 d.1.2.1,λ d r=>((r,()),())⟩ λ da db=>by
 conv=>rhs;simp only[iL,bb]
 kernel_rfl
def asc(F:Nat):aS aI:=(asb F).b2 51 0 F ⟨[2,3,6,8,9],[.p (.B 0),.p (.B 1),nj,.p (.R 2),ni],[jp,dY,.r 3 true],
 [⟨⟨.nm,[2,3,6,8],[.p (.B 0),.p (.B 1),nj,.p (.R 2)],[jp,dY,.r 3 true]⟩,Unit,λ d r=>(((),(),d.1.2.2.1,(),()),(d.2.1,d.2.2.1,d.2.2.2.1,()))⟩,
  ⟨⟨.rt,[4],[ni],[.d,.d,.d]⟩,Int,λ d r=>((r,()),((),(),(),()))⟩],
 λ k d=>bf (CD (dZ d.2.1) d.2.2.2.1 k d.1.2.2.2.2.1)⟩ (bP.bY (λ d=>rfl) λ k da db q h=>by
 conv=>rhs;simp only[CD,bb];simp only[bW]
 kernel_rfl)
def asd(F:Nat):aS aI:=(asc F).b2 51 4 F ⟨[2,3,6,8,10,11],[.p (.B 0),.p (.B 1),nj,.p (.R 2),ni,ni],[jp,dY,.r 3 true],
 [⟨⟨.nm,[2,3,6,8,10],[.p (.B 0),.p (.B 1),nj,.p (.R 2),ni],[jp,dY,.r 3 true]⟩,Unit,λ d r=>(((),(),d.1.2.2.1,(),d.1.2.2.2.2.1,()),(d.2.1,d.2.2.1,d.2.2.2.1,()))⟩,
  ⟨⟨.rt,[4],[ni],[.d,.d,.d]⟩,Int,λ d r=>((r,()),((),(),(),()))⟩],
 λ k d=>bf (CE (dZ d.2.1) d.2.2.2.1 d.1.2.2.2.2.1 k d.1.2.2.2.2.2.1)⟩ (bP.bY (λ d=>rfl) λ k da db q h=>by
 conv=>rhs;simp only[CE,bb];simp only[bW]
 kernel_rfl)
def ase(F:Nat):aS aI:=(asd F).b2 51 2 F ⟨[2,3,6,8,10],[.p (.B 0),.p (.B 1),nj,.p (.R 2),ni],[jp,dY,.r 3 true],
 [⟨⟨.nm,[2,3,6,8],[.p (.B 0),.p (.B 1),nj,.p (.R 2)],[jp,dY,.r 3 true]⟩,Unit,λ d r=>(((),(),d.1.2.2.1,(),()),(d.2.1,d.2.2.1,d.2.2.2.1,()))⟩,
  ⟨⟨.rt,[4],[ni],[.d,.d,.d]⟩,Int,λ d r=>((r,()),((),(),(),()))⟩],
 λ k d=>bf (zp F (dZ d.2.1) d.2.2.2.1 k d.1.2.2.2.2.1)⟩ (bP.bY (λ d=>rfl) λ k da db q h=>by
 conv=>rhs;simp only[zp,bb];simp only[bW]
 kernel_rfl)
def asg(F:Nat):aS aI:=(ase F).b2 51 8 F ⟨[2,3,6,8,12,13,14],[.p (.B 0),.p (.B 1),nj,nj,ni,nj,ni],[jp,dY],
 [⟨⟨.nm,[2,3,6,8,12],[.p (.B 0),.p (.B 1),nj,nj,ni],[jp,dY]⟩,Unit,λ d r=>(((),(),d.1.2.2.1,d.1.2.2.2.1,d.1.2.2.2.2.1,()),(d.2.1,d.2.2.1,()))⟩,
  ⟨⟨.rt,[4],[ni],[.d,.d]⟩,Int,λ d r=>((r,()),((),(),()))⟩],
 λ k d=>bf (zq F (dZ d.2.1) d.1.2.2.2.1 d.1.2.2.2.2.2.1 k d.1.2.2.2.2.2.2.1)⟩ (bP.bY (λ d=>rfl) λ k da db q h=>by
 conv=>rhs;simp only[zq,bb];simp only[bW]
 kernel_rfl)
def ash(F:Nat):aS aI:=(asg F).b2 51 6 F ⟨[2,3,6,8,12],[.p (.B 0),.p (.B 1),nj,nj,ni],[jp,dY],
 [⟨⟨.nm,[2,3,6],[.p (.B 0),.p (.B 1),nj],[jp,dY]⟩,Unit,λ d r=>(((),(),d.1.2.2.1,()),(d.2.1,d.2.2.1,()))⟩,
  ⟨⟨.rt,[4],[ni],[.d,.d]⟩,Int,λ d r=>((r,()),((),(),()))⟩],
 λ k d=>bf (CF F (dZ d.2.1) (fu d.2.2.1) d.1.2.2.2.1 k d.1.2.2.2.2.1)⟩ (bP.bY (λ d=>rfl) λ k da db q h=>by
 conv=>rhs;simp only[CF,bb];simp only[bW]
 kernel_rfl)
def asi(F:Nat):aS aI:=(ash F).b2 51 10 F ⟨[2,3,6,15],[.p (.B 0),.p (.B 1),nj,ni],[jp,dY],
 [⟨⟨.nm,[2,3,6],[.p (.B 0),.p (.B 1),nj],[jp,dY]⟩,Unit,λ d r=>(((),(),d.1.2.2.1,()),(d.2.1,d.2.2.1,()))⟩,
  ⟨⟨.rt,[4],[ni],[.d,.d]⟩,Int,λ d r=>((r,()),((),(),()))⟩],
 λ k d=>bf (wG (dZ d.2.1) k d.1.2.2.2.1)⟩ (bP.bY (λ d=>rfl) λ k da db q h=>by
 conv=>rhs;simp only[wG,bb];simp only[bW]
 kernel_rfl)
def Vr(F:Nat)(k:Nat)(a:I.aV)(b:I.aP)(c:(List Int)×(List Int)×Bool)(d:Int):=dt (True) (bf (q3 F a b c k d))
theorem Zz(F:Nat)(k:Nat)(a:I.aV)(b:I.aP)(c:(List Int)×(List Int)×Bool)(d:Int):bf (q3 F a b c k d)=Vr F k a b ([],c.2.1,false) d:=(show bf (q3 F a b c k d)=bf (q3 F a b ([],c.2.1,false) k d) by kernel_rfl).trans (dK trivial).symm
def asj(F:Nat):aS aI:=(asi F).b2 51 12 F ⟨[2,3,6,16],[.p (.B 0),.p (.B 1),nj,ni],[jp,dY],
 [⟨⟨.nm,[2,3,6],[.p (.B 0),.p (.B 1),nj],[jp,dY]⟩,Unit,λ d r=>(((),(),d.1.2.2.1,()),(d.2.1,d.2.2.1,()))⟩,
  ⟨⟨.rt,[4],[ni],[.d,.d]⟩,Int,λ d r=>((r,()),((),(),()))⟩],
 λ k d=>Vr F k (dZ d.2.1) (fu d.2.2.1) ([],d.1.2.2.1,false) d.1.2.2.2.1⟩ (bP.bY (λ d=>dJ) λ k da db q h=>by
 obtain⟨_,_,(v0:List Int),(v1:Int),_⟩:=da
 obtain⟨⟨(e:List Int),(v3:Int),(v4:Int),(v5:Int),(f:Int),(g:List Int),(i:Int),_⟩,⟨(v9:List I.aq),(a:List Int),(b:List (List I.Field)),(c:List (List (List UInt8))),(j:List (List I.Target)),_⟩,_⟩:=db
 conv=>rhs;change eh (α:=Unit⊕Int) _ (Vr F (k+1) (⟨e,v3,v4,v5,f,g,i⟩:I.aV) (⟨v9,a,b,c,j⟩:I.aP) ([],v0,false) v1);rw[<-Zz F (k+1) (⟨e,v3,v4,v5,f,g,i⟩:I.aV) (⟨v9,a,b,c,j⟩:I.aP) ([],v0,false) v1];simp only[q3,bb,Zz];simp only[bW]
 kernel_rfl)
def Vt(F:Nat)(k:Nat)(a:I.aV)(b:(List Int)×(List Int)×Bool)(c:Int)(d:List Int)(e:Int):=dt (True) (bf (sx F a b c d k e))
theorem ZB(F:Nat)(k:Nat)(a:I.aV)(b:(List Int)×(List Int)×Bool)(c:Int)(d:List Int)(e:Int):bf (sx F a b c d k e)=Vt F k a ([],b.2.1,false) c d e:=(show bf (sx F a b c d k e)=bf (sx F a ([],b.2.1,false) c d k e) by kernel_rfl).trans (dK trivial).symm
def asl(F:Nat):aS aI:=(asj F).b2 51 16 F ⟨[2,3,6,17,18,19],[.p (.B 0),.p (.B 1),nj,ni,nj,ni],[jp,dY],
 [⟨⟨.nm,[2,3,6,17],[.p (.B 0),.p (.B 1),nj,ni],[jp,dY]⟩,Unit,λ d r=>(((),(),d.1.2.2.1,d.1.2.2.2.1,()),(d.2.1,d.2.2.1,()))⟩,
  ⟨⟨.rt,[4],[ni],[.d,.d]⟩,Int,λ d r=>((r,()),((),(),()))⟩],
 λ k d=>Vt F k (dZ d.2.1) ([],d.1.2.2.1,false) d.1.2.2.2.1 d.1.2.2.2.2.1 d.1.2.2.2.2.2.1⟩ (bP.bY (λ d=>dJ) λ k da db q h=>by
 obtain⟨_,_,(v0:List Int),(v1:Int),(b:List Int),(v3:Int),_⟩:=da
 obtain⟨⟨(v4:List Int),(v5:Int),(c:Int),(e:Int),(f:Int),(v9:List Int),(a:Int),_⟩,⟨(g:List I.aq),(i:List Int),(j:List (List I.Field)),(l:List (List (List UInt8))),(m:List (List I.Target)),_⟩,_⟩:=db
 conv=>rhs;change eh (α:=Unit⊕Int) _ (Vt F (k+1) (⟨v4,v5,c,e,f,v9,a⟩:I.aV) ([],v0,false) v1 b v3);rw[<-ZB F (k+1) (⟨v4,v5,c,e,f,v9,a⟩:I.aV) ([],v0,false) v1 b v3];simp only[sx,bb,ZB];simp only[bW]
 kernel_rfl)
def Vs(F:Nat)(k:Nat)(a:I.aV)(b:I.aP)(c:(List Int)×(List Int)×Bool)(d:Int):=dt (True) (bf (uF F a b c k d))
theorem ZA(F:Nat)(k:Nat)(a:I.aV)(b:I.aP)(c:(List Int)×(List Int)×Bool)(d:Int):bf (uF F a b c k d)=Vs F k a b ([],c.2.1,false) d:=(show bf (uF F a b c k d)=bf (uF F a b ([],c.2.1,false) k d) by kernel_rfl).trans (dK trivial).symm
def asm(F:Nat):aS aI:=(asl F).b2 51 14 F ⟨[2,3,6,17],[.p (.B 0),.p (.B 1),nj,ni],[jp,dY],
 [⟨⟨.nm,[],[],[jp,dY]⟩,Unit,λ d r=>((),(d.2.1,d.2.2.1,()))⟩,
  ⟨⟨.rt,[4],[ni],[.d,.d]⟩,Int,λ d r=>((r,()),((),(),()))⟩],
 λ k d=>Vs F k (dZ d.2.1) (fu d.2.2.1) ([],d.1.2.2.1,false) d.1.2.2.2.1⟩ (bP.bY (λ d=>dJ) λ k da db q h=>by
 obtain⟨_,_,(v0:List Int),(v1:Int),_⟩:=da
 obtain⟨⟨(e:List Int),(v3:Int),(v4:Int),(v5:Int),(f:Int),(g:List Int),(i:Int),_⟩,⟨(v9:List I.aq),(a:List Int),(b:List (List I.Field)),(c:List (List (List UInt8))),(j:List (List I.Target)),_⟩,_⟩:=db
 conv=>rhs;change eh (α:=Unit⊕Int) _ (Vs F (k+1) (⟨e,v3,v4,v5,f,g,i⟩:I.aV) (⟨v9,a,b,c,j⟩:I.aP) ([],v0,false) v1);rw[<-ZA F (k+1) (⟨e,v3,v4,v5,f,g,i⟩:I.aV) (⟨v9,a,b,c,j⟩:I.aP) ([],v0,false) v1];simp only[uF,bb,ZB,ZA];simp only[bW]
 kernel_rfl)
def asn(F:Nat):aS aI:=(asm F).rt 51 ⟨[jQ,h2],[],[ni],[],Int,λ d=>F7 F (dZ d.1.1) (fu d.1.2.1),λ d r=>((r,()),())⟩ λ da db=>by
 obtain⟨⟨(v0:List Int),(v1:Int),(c:Int),(v3:Int),(v4:Int),(v5:List Int),(e:Int),_⟩,⟨(f:List I.aq),(g:List Int),(v9:List (List I.Field)),(a:List (List (List UInt8))),(b:List (List I.Target)),_⟩,_⟩:=da;conv=>rhs;simp only[F7,bb,Zz,ZA]
 kernel_rfl
def aso(F:Nat):aS aI:=(asn F).rt 20 ⟨[jQ,h2],[],[ni],[],Int,λ d=>zw F (dZ d.1.1) (fu d.1.2.1),λ d r=>((r,()),())⟩ λ da db=>by
 conv=>rhs;simp only[zw,bb]
 kernel_rfl
def asp(F:Nat):aS aI:=(aso F).rt 14 ⟨[jQ],[],[ni],[],Int,λ d=>ad3 (dZ d.1.1),λ d r=>((r,()),())⟩ λ da db=>by
 conv=>rhs;simp only[ad3,bb]
 kernel_rfl
def asq(F:Nat):aS aI:=(asp F).b2 18 0 F ⟨[0,1,5],[nj,nj,ni],[],
 [⟨⟨.nm,[],[],[]⟩,Unit,λ d r=>((),())⟩,
  ⟨⟨.rt,[4],[nk],[]⟩,Bool,λ d r=>((r,()),())⟩],
 λ k d=>bf (wK d.1.1 d.1.2.1 k d.1.2.2.1)⟩ (bP.bY (λ d=>rfl) λ k da db q h=>by
 conv=>rhs;simp only[wK,bb];simp only[bW]
 kernel_rfl)
def ass(F:Nat):aS aI:=(asq F).rt 18 ⟨[nj,nj],[],[nk],[],Bool,λ d=>pR F d.1.1 d.1.2.1,λ d r=>((r,()),())⟩ λ da db=>by
 conv=>rhs;simp only[pR,bb]
 kernel_rfl
def ast(F:Nat):aS aI:=(ass F).rt 32 ⟨[jQ,jQ],[],[nk],[],Bool,λ d=>TK F (dZ d.1.1) (dZ d.1.2.1),λ d r=>((r,()),())⟩ λ da db=>by
 conv=>rhs;simp only[TK,bb]
 kernel_rfl
def asu(F:Nat):aS aI:=(ast F).rt 17 ⟨[jQ,ni,ni,jQ],[],[nk],[],Bool,λ d=>Cy F (dZ d.1.1) d.1.2.1 d.1.2.2.1 (dZ d.1.2.2.2.1),λ d r=>((r,()),())⟩ λ da db=>by
 conv=>rhs;simp only[Cy,bb]
 kernel_rfl
def Vw(F:Nat)(k:Nat)(a:List Int)(b:(List Int)×(List Int)×Bool)(c:Int):=dt (True) (bf (q4 F a b k c))
theorem ZE(F:Nat)(k:Nat)(b:List Int)(a:(List Int)×(List Int)×Bool)(c:Int):bf (q4 F b a k c)=Vw F k b (a.1,a.2.1,false) c:=(show bf (q4 F b a k c)=bf (q4 F b (a.1,a.2.1,false) k c) by kernel_rfl).trans (dK trivial).symm
def asv(F:Nat):aS aI:=(asu F).b2 40 0 F ⟨[2,7,8,10],[nj,nj,nj,ni],[],
 [⟨⟨.nm,[],[],[]⟩,Unit,λ d r=>((),())⟩,
  ⟨⟨.rt,[6],[ni],[]⟩,Int,λ d r=>((r,()),())⟩],
 λ k d=>Vw F k d.1.1 (d.1.2.1,d.1.2.2.1,false) d.1.2.2.2.1⟩ (bP.bY (λ d=>dJ) λ k da db q h=>by
 obtain⟨(v0:List Int),(v1:List Int),(a:List Int),(v3:Int),_⟩:=da
 conv=>rhs;change eh (α:=Unit⊕Int) _ (Vw F (k+1) v0 (v1,a,false) v3);rw[<-ZE F (k+1) v0 (v1,a,false) v3];simp only[q4,bb,ZE];simp only[bW]
 kernel_rfl)
def asw(F:Nat):aS aI:=(asv F).rt 40 ⟨[jQ,h2,nj],[],[ni],[],Int,λ d=>zu F (dZ d.1.1) (fu d.1.2.1) d.1.2.2.1,λ d r=>((r,()),())⟩ λ da db=>by
 obtain⟨⟨(v0:List Int),(v1:Int),(e:Int),(v3:Int),(v4:Int),(v5:List Int),(f:Int),_⟩,⟨(g:List I.aq),(h:List Int),(v9:List (List I.Field)),(a:List (List (List UInt8))),(b:List (List I.Target)),_⟩,(c:List Int),_⟩:=da;conv=>rhs;simp only[zu,bb,ZE]
 kernel_rfl
def Na(F:Nat):aS aI:=(asw F).rt 13 ⟨[jQ,h2,nj],[],[ni],[],Int,λ d=>Tz F (dZ d.1.1) (fu d.1.2.1) d.1.2.2.1,λ d r=>((r,()),())⟩ λ da db=>by
 conv=>rhs;simp only[Tz,bb]
 kernel_rfl
end Go.Proofs.YteeliipnilghaaaGreat
namespace I
def uv(n:Int):Nat->List Int->Int->Option (List Int)
 |0,_,_=>none
 |k+1,l,i=>cond (decide (i<n)) ((bI 8 l [i]).bind λ l'=>uv n k l' (aw (i+1))) (some l)
def sp(F:Nat)(n:Int):Option (List Int):=uv n F [] 0
end I
namespace Go.Proofs.YteeliipnilghaaaGreat
open Go Go.RowKit ay I ba
set_option maxHeartbeats 4000000
set_option maxRecDepth 20000
def BK(a:Nat):dm Int where
 size:=1
 rd _ _ cs q:=cs=[.pointer (some ⟨a,q.toNat,none⟩)]
 len h:=by subst h;rfl
 one h v b:=by subst h;simp at b;subst b;rfl
 law _ h:=h
theorem aGz{F:Nat->Prop}{w:World}{g:Nat}{i:Int}:(BK g).rd F w [.pointer (some ⟨g,0+i.toNat*1,none⟩)] i:=by
 show[_]=[_]
 rw[jO,jR]
theorem aCh:(Tryz.prog.info? 109).map (λ i=>(i.zero,i.size,i.bytes))=some (some (.pointer none),1,8):=by kernel_rfl
theorem avH{W:World}{X:List Nat}{F:Nat}{A:jc}{n c:Nat}{r:List Int}{M0:List Nat}(C:n<=9223372036854775807)(p:0<n->A=some ⟨dC A,0,none⟩)(b:bz W M0 X W [] [])(h:I.sp F (n:Int)=some r) :
 Calls Tryz.prog 39 [.slice A n c].toArray W (λ e w'=>∃cu:Option Addr,∃m:Nat,∃xs:List Value,e= .returned (.q cu m r)/\bz W M0 X w' [bc.row 109 1 (.q cu m r) r xs] [bG.rows (BK (dC A)) xs r]):=by
 refine enter Tryz.func39 rfl Tryz.ntmps39 rfl λ a ad=>?_;rw[I.sp]at h
 refine rj [] [(0,.slice A n c)] ad λ a ad=>rj [] [(3,.slice none 0 0)] ad λ a ad=>?_
 have b:=b.Lq (α:=Int) 109 1;have b:=b.more (y:=bG.rows (BK (dC A)) [] []) rfl
 refine wp_seq_k λ K q=>rj [] [(6,.i n),(7,.i 0)] ad λ a ad=>?_
 refine NH (λ a w=>∃(d:jc)(c1:Nat)(f:pM),Fr ⟨18,[]⟩ [(3,.q d c1 r)] a/\bz W M0 X w [bc.row 109 1 (.q d c1 r) r f] [bG.rows (BK (dC A)) f r]) (λ K s=>?_) ?_
 ·refine Ua (λ(o:Nat) a w=>∃(d:jc)(c1:Nat)(l1:F2)(f:pM)(i:Int),Fr ⟨18,[]⟩ [(0,.slice A n c),(3,.q d c1 l1),(6,.i n),(7,.i i)] a/\bz W M0 X w [bc.row 109 1 (.q d c1 l1) l1 f] [bG.rows (BK (dC A)) f l1]/\0<=i/\I.uv n o l1 i=some r) F ⟨none,0,[],[],0,ad.cut,b,k7 _,h⟩ ?_ ?_;rintro a w ⟨d,c1,l1,f,i,ad,b,hi,h⟩;exact absurd h (by simp[I.uv]);rintro o a w ⟨d,c1,l1,f,i,ad,b,hi,h⟩ K t;rw[I.uv]at h;refine rj [] [(8,.bool (decide (i<n)))] ad λ a ad=>?_;refine wp_seq_k λ K u=>NJ (ad.g rfl) h (λ ag h=>?_) (λ ag h=>?_)
  ·refine wp_skip<|u _ _<|wp_seq_k λ K v=>?_;have x:i<(n:Int):=of_decide_eq_true ag;obtain⟨g,rfl⟩:∃g,A=some ⟨g,0,none⟩:=⟨_,p (by omega)⟩
   obtain⟨k,z,h⟩:=I.gr h;refine NH (λ a w=>∃(j:jc)(c2:Nat)(l:pM),Fr ⟨18,[]⟩ [(0,.slice (some ⟨g,0,none⟩) n c),(3,.q j c2 k),(6,.i n),(7,.i i)] a/\bz W M0 X w [bc.row 109 1 (.q j c2 k) k l] [bG.rows (BK g) l k]) (λ K B=>?_) ?_;refine rj [] [(4,.i i)] ad λ a ad=>?_;refine pU<|lU 3 [] [(10,.q d c1 l1),(11,.slice (some ⟨g,0,none⟩) n c),(12,.i i)] ad λ a ad=>gi wn (qV Tryz.underlying22 Tryz.sizeOf3 rfl (ad.g rfl) (ad.g rfl) rfl ⟨hi,x⟩) ad rfl rfl λ a ad=>?_;refine akp (cs:=[.pointer (some ⟨g,0+i.toNat*1,none⟩)]) wn (FN (vs:=[(0,.pointer (some ⟨g,0+i.toNat*1,none⟩))]) Tryz.underlying73 Tryz.sizeOf109 Tryz.zeroValue109 rfl rfl rfl ⟨⟨(ad.g rfl),rfl⟩,trivial⟩ (by kernel_rfl)) ad b rfl rfl λ a D w _ ad b=>?_;refine L3 (T:=BK g) (ml:=[i]) 1 0 0 b rfl rfl rfl Tryz.underlying73 aCh rfl rfl z rfl rfl ⟨_,_,rfl,aGz,rfl⟩ wn rfl (ad.g rfl) (ad.g rfl) ad rfl rfl λ a j c2 l w ad b=>?_;refine lU 1 [] [(3,.q j c2 k)] ad λ a ad=>wpList_nil ?_;exact B _ _ ⟨j,c2,l,ad.cut,b.im [0]⟩;rintro a w ⟨j,c2,l,ad,b⟩;refine v _ _<|afn [] [(7,.i (I.aw (i+1)))] ad λ a ad=>?_;exact t _ _ ⟨j,c2,k,l,I.aw (i+1),ad.cut,b,by rw[show I.aw (i+1)=i+1 by unfold I.aw;omega];omega,h⟩
  ·refine wp_exit<|uu (uu (IK ?_));obtain rfl:=oi h;exact s _ _ ⟨d,c1,f,ad.cut,b⟩
 rintro a w ⟨d,c1,f,ad,b⟩
 refine q _ _<|Mk [] [(2,.q d c1 r)] ad λ a ad=>wp_ret ?_;refine Br Tryz.results39 ad rfl ?_;exact⟨d,c1,f,rfl,b⟩
theorem ak7{n:Int}:∀ {k:Nat}{l r:List Int}{i:Int},I.uv n k l i=some r->n<=9223372036854775807->0<=i->(∀q∈l,0<=q/\q<n)->∀q∈r,0<=q/\q<n
 |0,l,r,i,h,_,_,_=>by simp[I.uv]at h
 |k+1,l,r,i,h,b,hi,a=>by
  rw[I.uv]at h;cases ag:decide (i<n)with
  |false=>rw[ag]at h;obtain rfl:=oi h;exact a
  |true=>
   rw[ag]at h;have c:=of_decide_eq_true ag;obtain⟨d,J,h⟩:=I.gr h;have e:I.aw (i+1)=i+1:=by unfold I.aw;omega
   rw[e]at h;refine ak7 h b (by omega) λ q aQ=>?_;have:d=l++[i]:=by unfold bI at J;split at J;exact(oi J).symm;cases J
   rw[this]at aQ;rcases cf.1 aQ with aQ |aQ;exact a q aQ;cases dV.1 aQ;exact⟨hi,c⟩
theorem alh{ρ:List Value}{bl:List (aH bs.El)}{F:Nat->Prop}{w:World}{g n c:Nat}(b:ρ[0]? =some (.slice (some ⟨g,0,none⟩) n c))(e:b5 bl[0]? =0):∀ {r:List Int}{xs:List Value},(∀q∈r,0<=q/\q<(n:Int))->dN (BK g) F w xs r->uD ρ bl 0 0 1 r xs
 |[],xs,_,h=>h
 |q::r,xs,d,h=>by obtain⟨cs,ys,rfl,a,J⟩:=h;have a:cs=[.pointer (some ⟨g,q.toNat,none⟩)]:=a;subst a;have:=d q (by simp);exact⟨_,_,rfl,⟨trivial,_,b,gY _,λ _=>⟨_,_,_,rfl,this.1,this.2,by simp[dC]⟩⟩,alh b e (λ q f=>d q (by simp[f])) J⟩
@[reducible] def PF(F:Nat):iB bs:=⟨[.p (.R 0)],[.r 3 true],[.p (.P 0 1)],[.r 3 true],List Int,λ d=>sp F d.2.1.length,λ d r=>((r,()),(d.2.1,()))⟩
theorem awk(F:Nat):(PF F).ic.Cu aI 39:=by
 intro da db fa h W M0 X ρ w vs a b;obtain⟨⟨⟩,⟨⟩⟩:=da;obtain⟨l,⟨⟩⟩:=db;have h:eh _ (I.sp F (l:List Int).length)=some fa:=h;obtain⟨r,p,rfl⟩:=cA.1 h;have a:Mem bs W M0 X [.r 3 0 0 l] ρ w:=a;have b:a_ bs (bj X [.r 3 0 0 l] ρ w) w ρ [.r 3 0 0 l] [.r 0 0] vs:=b;obtain⟨P,f⟩:=a.tm (i:=0) rfl;obtain⟨A,c,xs,rfl,E,_⟩:=a.ok 0 _ _ rfl f;simp only[a_,ax]at b;obtain⟨v,_,rfl,⟨_,u,s,_,b⟩,rfl⟩:=b;rw[f]at s;cases s;obtain rfl:=b rfl;have j:=E.cap;have Q:h8 (α:=Int) l<=c:=j.1;have t:h8 (α:=Int) l<=9223372036854775807:=by have:=j.2.1;simp only[maxLen]at this;omega
 have x:0<h8 (α:=Int) l->A=some ⟨dC A,0,none⟩:=λ R=>by obtain⟨g,rfl⟩:=j.2.2.2 (by omega);rfl
 refine⟨⟨.ret (.pp 0 0 1 r),[.r 3 0 0 l],[]⟩,by kernel_rfl,?_⟩;refine(avH (X:=[]) (M0:=[]) t x (bz.start [] [] w [] [] (by simp) (by simp[b1]) (by simp) (by simp[b1]) (by simp)) p).mono λ e w' ⟨cu,m,ys,G,aj⟩=>?_;refine⟨ρ,a.fi aj.bZ,Mem.tZ aj.bZ,λ k H _=>aj.bZ.block k H (by simp),?_⟩;subst G;show ax _ _ _ _ _ (.pp 0 0 1 r) _
 simp only[ax];have d:(bc.row 109 1 (.slice cu r.length m) r ys).ok w':=aj.e 0 rfl;obtain⟨_,_,y,ao,aW,bR,dx⟩:=LY d;simp only[Value.slice.injEq,true_and]at y;obtain⟨rfl,rfl⟩:=y;refine⟨cu,m,rfl,ao,bR,λ z=>?_⟩;have J:0<r.length:=lY.2 z;have K:cu≠none:=λ e=>by have:=bR e;omega
 have n:=dx K;have B:∀q∈r,0<=q/\q<((h8 (α:=Int) l:Nat):Int):=ak7 p (Int.ofNat_le.2 t) (k7 _) (by simp);have kT:0<h8 (α:=Int) l:=by obtain⟨q,L⟩:=List.exists_mem_of_ne_nil r z;have:=B q L;omega
 have o:=x kT;obtain⟨g,rfl⟩:∃g,A=some ⟨g,0,none⟩:=⟨_,o⟩
 obtain⟨g',rfl⟩:∃g',cu=some ⟨g',0,none⟩:=⟨_,n⟩
 have C:=aj.lt g' (by simp[b1,bc.row,Value.ownBlock]);have S:w.heap.size<=g':=C.2.resolve_left (by simp);have T:W.heap.size<=w.heap.size:=a.bZ.size;refine⟨rfl,⟨λ M=>?_,λ d=>?_,C.1⟩,ys,alh f rfl B (aj.d 0 rfl),?_⟩;have:g'<W.heap.size:=(a.ij _ M).1;omega;have:g'<w.heap.size:=(a.lt _ d).1;omega;have N:w'.ownsRow 0 109 1 (.slice (some ⟨g',0,none⟩) r.length m) r.length ys:=d;have:=vP J (Or.inl N);obtain⟨U,D,V,O,_⟩:=this;simp only[aF,Addr.mk.injEq,and_true]at D;subst D;exact O
theorem aeM(F:Nat):kH aI 39 ((PF F).run aI):=λ ys bl r a=>NR (awk F) ys bl r (Bu a)
@[reducible] def Ho:iB bs:=⟨[],[],[.p .b],[],Bool,λ _=>some true,λ _ r=>((r,()),())⟩
theorem axi:Ho.Eq mz (GG mz (Na 2000).t.la (λ _ _=>none) 100) (λ _ _=>none) 16:=λ da db=>by kernel_rfl
theorem NP(g:Nat)(h:List (aL bs.El)->List (aH bs.El)->D (fE bs.El)):kH aI g h=kH mz g h:=by kernel_rfl
theorem avA:kH mz 16 (Ho.run mz):=
 have a:wD mz (λ _ _=>none):=λ g fn c _ _ _=>vq (λ _=>rfl) c
 have hc:=((Na 2000).ok kg).ce
 have b:Nc mz (Na 2000).t.la:=⟨hc.cm,λ g h d=>(NP g h)▸hc.ok g h d⟩
 λ ys bl r e=>Gt NZ (lV NZ b a 100) a rfl (c:=Ho.ic) (eA.Eq.v axi) ys bl r (Bu e)
theorem aJs:Ho.run aI=Ho.run mz:=by kernel_rfl
def asx(F:Nat):aS aI:=(Na F).add 16 (Ho.run aI) (aJs▸(NP 16 _)▸avA)
def asy(F:Nat):aS aI:=(asx F).add 39 ((PF F).run aI) (aeM F)
set_option maxRecDepth 100000
@[reducible] def HL:bK:=.c 24 [.R 2,nl,nl,nl,nl,.l 3,nl]
@[reducible] def Bl:bK:=.c 24 [.R 1,nl,nl,nl,nl,.l 3,nl]
@[reducible] def akW:cM:=.a [.l 3,nl,nl,nl,nl,.l 3,nl]
@[reducible] def HM:bK:=.c 108 [.B 1,.l 134,.l 3,.l 124,.l 120,.l 121,.M 3]
@[reducible] def HN:bK:=.c 108 [.B 0,.l 134,.l 3,.l 124,.l 120,.l 121,.M 3]
@[reducible] def akX:cM:=.a [.l 134,.l 3,.l 124,.l 120,.l 121]
abbrev aqo:=(Unit×(Unit×List aq×List Int×List (List I.Field)×List (List (List UInt8))×List (List I.Target)×Unit×Unit)×(Unit×Int×Int×Int×Int×List Int×Int×Unit)×List Int×List (Int×Int)×Unit)
abbrev SZ:=(Unit×List aq×List Int×List (List I.Field)×List (List (List UInt8))×List (List I.Target)×Unit×Unit)
abbrev MY:=(Unit×Int×Int×Int×Int×List Int×Int×Unit)
def wv(F:Nat)(a:Int)(f:List aq)(g:List Int)(h:List (List I.Field))(i:List (List (List UInt8)))(j:List (List I.Target))(d:Int)(k:Int)(l:Int)(c:Int)(m:List Int)(n:Int)(b:List Int)(dg:List (Int×Int)):Option ((Int×Unit)×SZ×MY×List Int×List (Int×Int)×Unit):=cond (decide (a=0)||decide (d<a)) (some ((a,()),((),f,g,h,i,j,(),()),((),d,k,l,c,m,n,()),b,dg,())) (
cond ((cE dg a).isSome) (some ((((cE dg a).getD 0),()),((),f,g,h,i,j,(),()),((),d,k,l,c,m,n,()),b,dg,())) (
(idx b (aw (a+1))).bind λ e=>
(if(0 :Int)<=c/\c<=(↑b.length:Int)/\(↑b.length:Int)<=(↑b.length:Int)then some ()else none).bind λ o=>
(if(0 :Int)<=a/\a<=aw (a+aw (3+e))/\aw (a+aw (3+e))<=(↑b.length:Int)then some ()else none).bind λ p=>
(yk (decide (0<b.length))).bind λ q=>
some ((c,()),((),f,g,h,i,j,(),()),((),d,k,l,(aw (c+aw (3+e))),m,n,()),(gf b c.toNat (mB ((↑b.length:Int)-c).toNat (List.drop a.toNat (mB (aw (a+aw (3+e))).toNat b)))),(gy dg a c),())))
def asz(F:Nat):aS aI:=(asy F).fn 69 ⟨[.p (.B 0),ni],[HM,HL,.r 3 true,.m 3 3],[ni],[HM,HL,.r 3 true,.m 3 3],λ d=>wv F d.1.2.1 d.2.1.2.1 d.2.1.2.2.1 d.2.1.2.2.2.1 d.2.1.2.2.2.2.1 d.2.1.2.2.2.2.2.1 d.2.2.1.2.1 d.2.2.1.2.2.1 d.2.2.1.2.2.2.1 d.2.2.1.2.2.2.2.1 d.2.2.1.2.2.2.2.2.1 d.2.2.1.2.2.2.2.2.2.1 d.2.2.2.1 d.2.2.2.2.1⟩ λ da db=>by kernel_rfl
def Cp(F:Nat):Nat->(Int)->(Int)->(Int)->(List aq)->(List Int)->(List (List I.Field))->(List (List (List UInt8)))->(List (List I.Target))->(Int)->(Int)->(Int)->(Int)->(List Int)->(Int)->(List Int)->(List (Int×Int))->Option aqo
 |0,_,_,_,_,_,_,_,_,_,_,_,_,_,_,_,_=>none
 |aT+1,c,i,b,e,f,g,h,nn,j,k,l,wi,m,n,d,o=>cond (decide (b<i)) ((idx d c).bind λ p=>
(rr (b9.mk (aP.mk e f g h nn)) p b).bind λ q=>
cond q ((idx d (aw (aw (c+3)+b))).bind λ r=>
(wv F r e f g h nn j k l wi m n d o).bind λ a=>
(idx a.2.2.2.1 (aw (aw (c+3)+b))).bind λ s=>
Cp F aT c i (aw (b+1)) a.2.1.2.1 a.2.1.2.2.1 a.2.1.2.2.2.1 a.2.1.2.2.2.2.1 a.2.1.2.2.2.2.2.1 a.2.2.1.2.1 a.2.2.1.2.2.1 a.2.2.1.2.2.2.1 a.2.2.1.2.2.2.2.1 a.2.2.1.2.2.2.2.2.1 a.2.2.1.2.2.2.2.2.2.1 (List.set a.2.2.2.1 (aw (aw (c+3)+b)).toNat a.1.1) a.2.2.2.2.1) (
Cp F aT c i (aw (b+1)) e f g h nn j k l wi m n d o)) (
some ((),((),e,f,g,h,nn,(),()),((),j,k,l,wi,m,n,()),d,o,()))
def asA(F:Nat):aS aI:=(asz F).gx 70 0 F ⟨[0,1,16,17],[.p (.B 0),ni,ni,ni],[HM,HL,.r 3 true,.m 3 3],[⟨.nm,[],[],[HM,HL,.r 3 true,.m 3 3]⟩],λ k d=>Cp F k d.1.2.1 d.1.2.2.1 d.1.2.2.2.1 d.2.1.2.1 d.2.1.2.2.1 d.2.1.2.2.2.1 d.2.1.2.2.2.2.1 d.2.1.2.2.2.2.2.1 d.2.2.1.2.1 d.2.2.1.2.2.1 d.2.2.1.2.2.2.1 d.2.2.1.2.2.2.2.1 d.2.2.1.2.2.2.2.2.1 d.2.2.1.2.2.2.2.2.2.1 d.2.2.2.1 d.2.2.2.2.1⟩ ⟨λ d=>by kernel_rfl,λ k da db=>by kernel_rfl⟩
def MZ(F:Nat)(b:Int)(d:List aq)(e:List Int)(f:List (List I.Field))(g:List (List (List UInt8)))(h:List (List I.Target))(wl:Int)(i:Int)(j:Int)(k:Int)(sl:List Int)(l:Int)(c:List Int)(m:List (Int×Int)):Option aqo:=(idx c (aw (b+1))).bind λ wm=>
(Cp F F b wm 0 d e f g h wl i j k sl l c m).bind λ a=>
some ((),((),a.2.1.2.1,a.2.1.2.2.1,a.2.1.2.2.2.1,a.2.1.2.2.2.2.1,a.2.1.2.2.2.2.2.1,(),()),((),a.2.2.1.2.1,a.2.2.1.2.2.1,a.2.2.1.2.2.2.1,a.2.2.1.2.2.2.2.1,a.2.2.1.2.2.2.2.2.1,a.2.2.1.2.2.2.2.2.2.1,()),a.2.2.2.1,a.2.2.2.2.1,())
def asC(F:Nat):aS aI:=(asA F).fn 70 ⟨[.p (.B 0),ni],[HM,HL,.r 3 true,.m 3 3],[],[HM,HL,.r 3 true,.m 3 3],λ d=>MZ F d.1.2.1 d.2.1.2.1 d.2.1.2.2.1 d.2.1.2.2.2.1 d.2.1.2.2.2.2.1 d.2.1.2.2.2.2.2.1 d.2.2.1.2.1 d.2.2.1.2.2.1 d.2.2.1.2.2.2.1 d.2.2.1.2.2.2.2.1 d.2.2.1.2.2.2.2.2.1 d.2.2.1.2.2.2.2.2.2.1 d.2.2.2.1 d.2.2.2.2.1⟩ λ da db=>by kernel_rfl
def FR(F:Nat):Nat->(Int)->(List Int)->(Int)->(Int)->(Int)->(Int)->(Int)->(Int)->(List Int)->(Int)->(List Int)->(List aq)->(List Int)->(List (List I.Field))->(List (List (List UInt8)))->(List (List I.Target))->(List (Int×Int))->(List Int)->Option ((Unit×Unit×Int×Unit)×
 MY×List Int×SZ×List (Int×Int)×List Int×Unit)
 |0,_,_,_,_,_,_,_,_,_,_,_,_,_,_,_,_,_,_=>none
 |aT+1,d,e,f,b,g,h,i,j,k,l,m,n,o,p,q,r,s,c=>cond (decide (b<f)) ((idx e b).bind λ t=>
(idx c t).bind λ u=>
(wv F u n o p q r g h i j k l m s).bind λ a=>
FR F aT d e f (aw (b+1)) a.2.2.1.2.1 a.2.2.1.2.2.1 a.2.2.1.2.2.2.1 a.2.2.1.2.2.2.2.1 a.2.2.1.2.2.2.2.2.1 a.2.2.1.2.2.2.2.2.2.1 a.2.2.2.1 a.2.1.2.1 a.2.1.2.2.1 a.2.1.2.2.2.1 a.2.1.2.2.2.2.1 a.2.1.2.2.2.2.2.1 a.2.2.2.2.1 (c.set t.toNat a.1.1)) (
some (((),(),d,()),((),g,h,i,j,k,l,()),m,((),n,o,p,q,r,(),()),s,c,()))
def asD(F:Nat):aS aI:=(asC F).gx 38 0 F ⟨[0,6,7,22,23,24],[.p (.B 0),.p (.B 2),ni,.p (.P 4 1),ni,ni],[Bl,.r 3 true,HN,.m 3 3,.r 3 true],[⟨.nm,[0,6,7],[.p (.B 0),.p (.B 2),ni],[Bl,.r 3 true,HN,.m 3 3,.r 3 true]⟩],λ k d=>FR F k d.1.2.2.1 d.1.2.2.2.1 d.1.2.2.2.2.1 d.1.2.2.2.2.2.1 d.2.1.2.1 d.2.1.2.2.1 d.2.1.2.2.2.1 d.2.1.2.2.2.2.1 d.2.1.2.2.2.2.2.1 d.2.1.2.2.2.2.2.2.1 d.2.2.1 d.2.2.2.1.2.1 d.2.2.2.1.2.2.1 d.2.2.2.1.2.2.2.1 d.2.2.2.1.2.2.2.2.1 d.2.2.2.1.2.2.2.2.2.1 d.2.2.2.2.1 d.2.2.2.2.2.1⟩ ⟨λ d=>by kernel_rfl,λ k da db=>by kernel_rfl⟩
def FT(F:Nat):Nat->(Int)->(List Int)->(Int)->(Int)->(Int)->(Int)->(Int)->(Int)->(List Int)->(Int)->(List Int)->(List aq)->(List Int)->(List (List I.Field))->(List (List (List UInt8)))->(List (List I.Target))->(List (Int×Int))->Option ((Unit×Unit×Int×Unit)×
 MY×List Int×SZ×List (Int×Int)×Unit)
 |0,_,_,_,_,_,_,_,_,_,_,_,_,_,_,_,_,_=>none
 |aT+1,h,i,j,f,k,l,m,n,mn,o,p,q,r,b,c,d,e=>cond (decide (f<j)) ((idx i f).bind λ g=>
(MZ F g q r b c d k l m n mn o p e).bind λ a=>
FT F aT h i j (aw (f+1)) a.2.2.1.2.1 a.2.2.1.2.2.1 a.2.2.1.2.2.2.1 a.2.2.1.2.2.2.2.1 a.2.2.1.2.2.2.2.2.1 a.2.2.1.2.2.2.2.2.2.1 a.2.2.2.1 a.2.1.2.1 a.2.1.2.2.1 a.2.1.2.2.2.1 a.2.1.2.2.2.2.1 a.2.1.2.2.2.2.2.1 a.2.2.2.2.1) (
some (((),(),h,()),((),k,l,m,n,mn,o,()),p,((),q,r,b,c,d,(),()),e,()))
def asE(F:Nat):aS aI:=(asD F).gx 38 2 F ⟨[0,6,7,39,40,41],[.p (.B 0),.p (.B 2),ni,nj,ni,ni],[Bl,.r 3 true,HN,.m 3 3],[⟨.nm,[0,6,7],[.p (.B 0),.p (.B 2),ni],[Bl,.r 3 true,HN,.m 3 3]⟩],λ k d=>FT F k d.1.2.2.1 d.1.2.2.2.1 d.1.2.2.2.2.1 d.1.2.2.2.2.2.1 d.2.1.2.1 d.2.1.2.2.1 d.2.1.2.2.2.1 d.2.1.2.2.2.2.1 d.2.1.2.2.2.2.2.1 d.2.1.2.2.2.2.2.2.1 d.2.2.1 d.2.2.2.1.2.1 d.2.2.2.1.2.2.1 d.2.2.2.1.2.2.2.1 d.2.2.2.1.2.2.2.2.1 d.2.2.2.1.2.2.2.2.2.1 d.2.2.2.2.1⟩ ⟨λ d=>by kernel_rfl,λ k da db=>by kernel_rfl⟩
def FU(F:Nat):Nat->(Int)->(Int)->(Int)->(Int)->(Int)->(List Int)->(Int)->(List Int)->(List aq)->(List Int)->(List (List I.Field))->(List (List (List UInt8)))->(List (List I.Target))->(List (Int×Int))->Option ((Unit×Unit)×MY×List Int×SZ×List (Int×Int)×Unit)
 |0,_,_,_,_,_,_,_,_,_,_,_,_,_,_=>none
 |aT+1,b,c,Fo,d,B0,e,f,g,B1,h,i,j,k,l=>cond (decide (b<B0)) ((MZ F b B1 h i j k c Fo d B0 e f g l).bind λ a=>
(idx a.2.2.2.1 (aw (b+1))).bind λ m=>
FU F aT (aw (b+aw (3+m))) a.2.2.1.2.1 a.2.2.1.2.2.1 a.2.2.1.2.2.2.1 a.2.2.1.2.2.2.2.1 a.2.2.1.2.2.2.2.2.1 a.2.2.1.2.2.2.2.2.2.1 a.2.2.2.1 a.2.1.2.1 a.2.1.2.2.1 a.2.1.2.2.2.1 a.2.1.2.2.2.2.1 a.2.1.2.2.2.2.2.1 a.2.2.2.2.1) (
some (((),()),((),c,Fo,d,B0,e,f,()),g,((),B1,h,i,j,k,(),()),l,()))
def asF(F:Nat):aS aI:=(asE F).gx 38 4 F ⟨[0,6,12],[.p (.B 0),.p (.B 2),ni],[Bl,.r 3 true,HN,.m 3 3],[⟨.nm,[0],[.p (.B 0)],[Bl,.r 3 true,HN,.m 3 3]⟩],λ k d=>FU F k d.1.2.2.1 d.2.1.2.1 d.2.1.2.2.1 d.2.1.2.2.2.1 d.2.1.2.2.2.2.1 d.2.1.2.2.2.2.2.1 d.2.1.2.2.2.2.2.2.1 d.2.2.1 d.2.2.2.1.2.1 d.2.2.2.1.2.2.1 d.2.2.2.1.2.2.2.1 d.2.2.2.1.2.2.2.2.1 d.2.2.2.1.2.2.2.2.2.1 d.2.2.2.2.1⟩ ⟨λ d=>by kernel_rfl,λ k da db=>by kernel_rfl⟩
def y5(F:Nat)(B2:List aq)(d:List Int)(Fs:List (List I.Field))(e:List (List (List UInt8)))(f:List (List I.Target))(B3:List Int)(g:Int)(h:Int)(i:Int)(B4:Int)(j:List Int)(Fz:Int)(k:List Int)(l:List Int):Option (Unit×MY×List Int×List Int×Unit):=(FR F F B4 B3 (↑B3.length:Int) 0 g h i B4 j Fz k B2 d Fs e f [] l).bind λ a=>
(FT F F a.1.2.2.1 a.2.1.2.2.2.2.2.1 (↑(h8 a.2.1.2.2.2.2.2.1):Int) 0 a.2.1.2.1 a.2.1.2.2.1 a.2.1.2.2.2.1
 a.2.1.2.2.2.2.1 a.2.1.2.2.2.2.2.1 a.2.1.2.2.2.2.2.2.1 a.2.2.1 a.2.2.2.1.2.1 a.2.2.2.1.2.2.1 a.2.2.2.1.2.2.2.1
 a.2.2.2.1.2.2.2.2.1 a.2.2.2.1.2.2.2.2.2.1 a.2.2.2.2.1).bind λ b=>
(FU F F b.1.2.2.1 b.2.1.2.1 b.2.1.2.2.1 b.2.1.2.2.2.1 b.2.1.2.2.2.2.1 b.2.1.2.2.2.2.2.1 b.2.1.2.2.2.2.2.2.1 b.2.2.1
 b.2.2.2.1.2.1 b.2.2.2.1.2.2.1 b.2.2.2.1.2.2.2.1 b.2.2.2.1.2.2.2.2.1 b.2.2.2.1.2.2.2.2.2.1 b.2.2.2.2.1).bind λ c=>
(if(0 :Int)<=1/\1<=aw (c.2.1.2.1+1)/\aw (c.2.1.2.1+1)<=(↑(h8 c.2.2.1):Int)then some ()else none).bind λ m=>
(yk (decide (1<aw (c.2.1.2.1+1)))).bind λ n=>
some ((),((),c.2.1.2.1,c.2.1.2.2.1,1,c.2.1.2.2.2.2.1,([]),c.2.1.2.2.2.2.2.2.1,()),(gf c.2.2.1 (Int.toNat 1) (gk (aw (c.2.1.2.1+1)-1).toNat 0)),a.2.2.2.2.2.1,())
def asG(F:Nat):aS aI:=(asF F).fn 38 ⟨[.p (.B 0),akX,.p (.P 2 1)],[Bl,.r 3 true,.r 3 true],[],[Bl,.r 3 true,.r 3 true],λ d=>y5 F d.1.2.1.1 d.1.2.1.2.1 d.1.2.1.2.2.1 d.1.2.1.2.2.2.1 d.1.2.1.2.2.2.2.1 d.1.2.2.1 d.2.1.2.1 d.2.1.2.2.1 d.2.1.2.2.2.1 d.2.1.2.2.2.2.1 d.2.1.2.2.2.2.2.1 d.2.1.2.2.2.2.2.2.1 d.2.2.1 d.2.2.2.1⟩ λ da db=>by kernel_rfl
def adv(F:Nat)(j:List Int)(b:Int)(c:Int)(d:Int)(e:Int)(k:List Int)(l:Int)(x:List aq)(y:List Int)(z:List (List I.Field))(A:List (List (List UInt8)))(B:List (List I.Target))(m:List Int):Option (((List Int×Int×Int×Int×Int×List Int×Int×Unit)×List Int×Int×Unit)×Unit):=cZ (kx (kQ F (aV.mk j b c d e k l) (aP.mk x y z A B))) (λ a=>
cond (decide (a.2=0)) ((FQ F
 (bk.mk (aV.mk a.1.H.Words a.1.H.ak a.1.H.aK a.1.H.aO a.1.H.aM a.1.H.aU a.1.H.Next)
  (b9.mk (aP.mk a.1.S.K.a1 a.1.S.K.aY a.1.S.K.Fields a.1.S.K.Names a.1.S.K.aZ)) a.1.ak a.1.aK a.1.dQ)
 m).bind λ s=>
cond (decide (s=0)) (cond (decide (aw (aw (aw (aw (b+c)+1)-e)-aw (d-1))<0)) (some (((([]),0,0,0,0,([]),0,()),([]),8,()),())) (
cond (!decide (s=0)) (some (((([]),0,0,0,0,([]),0,()),([]),s,()),())) (
(nI (aV.mk j b c d e k l)).bind λ n=>
(bI 8 [] m).bind λ t=>
(sp F (↑t.length:Int)).bind λ C=>
(y5 F a.1.S.K.a1 a.1.S.K.aY a.1.S.K.Fields a.1.S.K.Names a.1.S.K.aZ C n.ak n.aK n.aO n.aM n.aU n.Next n.Words t).bind λ f=>
some (((f.2.2.1,f.2.1.2.1,f.2.1.2.2.1,f.2.1.2.2.2.1,f.2.1.2.2.2.2.1,f.2.1.2.2.2.2.2.1,f.2.1.2.2.2.2.2.2.1,()),f.2.2.2.1,0,()),())))) (
cond (!decide (s=0)) (some (((([]),0,0,0,0,([]),0,()),([]),s,()),())) (
(nI (aV.mk j b c d e k l)).bind λ o=>
(bI 8 [] m).bind λ u=>
(sp F (↑u.length:Int)).bind λ B5=>
(y5 F a.1.S.K.a1 a.1.S.K.aY a.1.S.K.Fields a.1.S.K.Names a.1.S.K.aZ B5 o.ak o.aK o.aO o.aM o.aU o.Next o.Words u).bind λ g=>
some (((g.2.2.1,g.2.1.2.1,g.2.1.2.2.1,g.2.1.2.2.2.1,g.2.1.2.2.2.2.1,g.2.1.2.2.2.2.2.1,g.2.1.2.2.2.2.2.2.1,()),g.2.2.2.1,0,()),())))) (
cond (decide (a.2=0)) (cond (decide (aw (aw (aw (aw (b+c)+1)-e)-aw (d-1))<0)) (some (((([]),0,0,0,0,([]),0,()),([]),8,()),())) (
cond (!decide (a.2=0)) (some (((([]),0,0,0,0,([]),0,()),([]),a.2,()),())) (
(nI (aV.mk j b c d e k l)).bind λ p=>
(bI 8 [] m).bind λ v=>
(sp F (↑v.length:Int)).bind λ sc=>
(y5 F a.1.S.K.a1 a.1.S.K.aY a.1.S.K.Fields a.1.S.K.Names a.1.S.K.aZ sc p.ak p.aK p.aO p.aM p.aU p.Next p.Words v).bind λ h=>
some (((h.2.2.1,h.2.1.2.1,h.2.1.2.2.1,h.2.1.2.2.2.1,h.2.1.2.2.2.2.1,h.2.1.2.2.2.2.2.1,h.2.1.2.2.2.2.2.2.1,()),h.2.2.2.1,0,()),())))) (
cond (!decide (a.2=0)) (some (((([]),0,0,0,0,([]),0,()),([]),a.2,()),())) (
(nI (aV.mk j b c d e k l)).bind λ q=>
(bI 8 [] m).bind λ w=>
(sp F (↑w.length:Int)).bind λ D=>
(y5 F a.1.S.K.a1 a.1.S.K.aY a.1.S.K.Fields a.1.S.K.Names a.1.S.K.aZ D q.ak q.aK q.aO q.aM q.aU q.Next q.Words w).bind λ i=>
some (((i.2.2.1,i.2.1.2.1,i.2.1.2.2.1,i.2.1.2.2.2.1,i.2.1.2.2.2.2.1,i.2.1.2.2.2.2.2.1,i.2.1.2.2.2.2.2.2.1,()),i.2.2.2.1,0,()),()))))) (λ r=>
cond (decide (r=0)) none (
cond (decide (r=0)) (cond (decide (aw (aw (aw (aw (b+c)+1)-e)-aw (d-1))<0)) (some (((([]),0,0,0,0,([]),0,()),([]),8,()),())) (
cond (!decide (r=0)) (some (((([]),0,0,0,0,([]),0,()),([]),r,()),())) (
(nI (aV.mk j b c d e k l)).bind λ E=>
(bI 8 [] m).bind λ FD=>
none))) (
cond (!decide (r=0)) (some (((([]),0,0,0,0,([]),0,()),([]),r,()),())) (
(nI (aV.mk j b c d e k l)).bind λ G=>
(bI 8 [] m).bind λ H=>
none))))
def asH(F:Nat):aS aI:=(asG F).fn 12 ⟨[akW,akX,nj],[],[akW,nj,ni],[],λ d=>adv F d.1.1.1 d.1.1.2.1 d.1.1.2.2.1 d.1.1.2.2.2.1 d.1.1.2.2.2.2.1 d.1.1.2.2.2.2.2.1 d.1.1.2.2.2.2.2.2.1 d.1.2.1.1 d.1.2.1.2.1 d.1.2.1.2.2.1 d.1.2.1.2.2.2.1 d.1.2.1.2.2.2.2.1 d.1.2.2.1⟩ λ da db=>by kernel_rfl
def CY(F:Nat):Nat->(List Int)->(Int)->(Int)->Option ((Int×Unit)×Unit⊕Unit×Unit)
 |0,_,_,_=>none
 |aT+1,b,c,a=>cond (decide (a<(↑b.length:Int))) ((idx b a).bind λ d=>
cond (decide (d=c)) (some (.inl ((a,()),()))) (
CY F aT b c (aw (a+1)))) (
some (.inr ((),())))
def asI(F:Nat):aS aI:=(asH F).gx 29 0 F ⟨[0,1,5],[nj,ni,ni],[],[⟨.rt,[4],[ni],[]⟩,⟨.nm,[],[],[]⟩],λ k d=>CY F k d.1.1 d.1.2.1 d.1.2.2.1⟩ ⟨λ d=>by kernel_rfl,λ k da db=>by kernel_rfl⟩
def zx(F:Nat)(a:List Int)(b:Int):Option ((Int×Unit)×Unit):=cZ (CY F F a b 0) (λ c=>
some ((c.1.1,()),())) (λ dg=>
some (((-1),()),()))
def asJ(F:Nat):aS aI:=(asI F).fn 29 ⟨[nj,ni],[],[ni],[],λ d=>zx F d.1.1 d.1.2.1⟩ λ da db=>by kernel_rfl
def asK(F:Nat):aS aI:=(asJ F).sP 43
def asL(F:Nat):aS aI:=(asK F).sP 29
set_option maxRecDepth 100000
@[reducible] def eZ:bK:=.c 24 [.l 3,nl,nl,nl,nl,.l 3,nl]
@[reducible] def HP:bK:=.c 24 [.R 7,nl,nl,nl,nl,.l 3,nl]
@[reducible] def QD:bK:=.c 24 [.R 6,nl,nl,nl,nl,.l 3,nl]
@[reducible] def LA:cM:=.a [.l 3,nl,nl,nl,nl,.l 3,nl]
@[reducible] def ku:bK:=.c 30 [.l 134,.l 3,.l 124,.l 120,.l 121]
@[reducible] def Zm:cM:=.a [.l 134,.l 3,.l 124,.l 120,.l 121]
abbrev aqp:=(Unit×
 (List Int×Int×Int×Int×Int×List Int×Int×Unit)×
  (List aq×List Int×List (List I.Field)×List (List (List UInt8))×List (List I.Target)×Unit)×
   (Unit×Unit)×(List Int×Unit)×(Unit×Unit)×List Int×(Unit×Int×Int×Int×Int×List Int×Int×Unit)×List Int×Unit)
abbrev Cn:=(List aq×List Int×List (List I.Field)×List (List (List UInt8))×List (List I.Target)×Unit)
abbrev aqq:=(List Int×Unit×Unit×Unit×Unit×(Unit×Unit×Unit)×Int×Unit)
abbrev aqr:=(List Int×Unit×Unit×Unit×Unit×(Unit×Unit×Unit)×Unit)
abbrev kG:=(List Int×Int×Int×Int×Int×List Int×Int×Unit)
abbrev adt:=(Unit×Int×Int×Int×Int×List Int×Int×Unit)
def TL(F:Nat)(a:Int)(b:List Int)(c:List Int):Option ((Int×Unit)×(List Int×Unit)×(Unit×Unit)×List Int×Unit):=(zx F b a).bind λ d=>
cond (decide (a=0)||decide (d.1.1<0)) (some ((a,()),(b,()),((),()),c,())) (
(idx c d.1.1).bind λ e=>
some ((e,()),(b,()),((),()),c,()))
def asN(F:Nat):aS aI:=(asL F).fn 72 ⟨[ni,.p (.B 0),.p (.B 1)],[.c 22 [.l 3],.c 22 [.R 2],.r 3 true],[ni],[.c 22 [.l 3],.c 22 [.R 2],.r 3 true],λ d=>TL F d.1.1 d.2.1.1 d.2.2.2.1⟩ λ da db=>by kernel_rfl
def Jj(F:Nat):Nat->(Int)->(Int)->(Int)->(List Int)->(Int)->(Int)->(Int)->(Int)->(List Int)->(Int)->(List aq)->(List Int)->(List (List I.Field))->(List (List (List UInt8)))->(List (List I.Target))->(List Int)->(List Int)->(Int)->(Int)->(Int)->(Int)->(List Int)->(Int)->(List Int)->Option aqp
 |0,_,_,_,_,_,_,_,_,_,_,_,_,_,_,_,_,_,_,_,_,_,_,_,_=>none
 |aT+1,d,nn,a,b,j,wi,k,l,m,n,e,f,g,h,i,o,p,q,r,s,t,wl,u,c=>(idx b (aw (d+1))).bind λ w=>
cond (decide (a<aw (3+w))) ((idx b (aw (d+a))).bind λ sl=>
cond (decide (3<=a)) ((idx b d).bind λ x=>
(uK (aP.mk e f g h i) x (aw (a-3))).bind λ y=>
cond y ((TL F sl o p).bind λ v=>
(idx c (aw (nn+a))).bind λ wm=>
Jj F aT d nn (aw (a+1)) b j wi k l m n e f g h i v.2.1.1 v.2.2.2.1 q r s t wl u (c.set (aw (nn+a)).toNat v.1.1)) (
(idx c (aw (nn+a))).bind λ z=>
Jj F aT d nn (aw (a+1)) b j wi k l m n e f g h i o p q r s t wl u (c.set (aw (nn+a)).toNat sl))) (
(idx c (aw (nn+a))).bind λ A=>
Jj F aT d nn (aw (a+1)) b j wi k l m n e f g h i o p q r s t wl u (c.set (aw (nn+a)).toNat sl))) (
some ((),(b,j,wi,k,l,m,n,()),(e,f,g,h,i,()),((),()),(o,()),((),()),p,((),q,r,s,t,wl,u,()),c,()))
def asO(F:Nat):aS aI:=(asN F).gx 73 0 F ⟨[0,1,2,3,4,5,8],[ni,ni,.p (.B 0),.p (.B 1),.p (.B 2),.p (.B 6),ni],[eZ,ku,.c 110 [.F 72 [3,4]],.c 22 [.l 3],.c 22 [.R 5],.r 3 true,HP,.r 3 true],[⟨.nm,[],[],[eZ,ku,.c 110 [.F 72 [3,4]],.c 22 [.l 3],.c 22 [.R 5],.r 3 true,HP,.r 3 true]⟩],λ k d=>Jj F k d.1.1 d.1.2.1 d.1.2.2.2.2.2.2.1 d.2.1.1 d.2.1.2.1 d.2.1.2.2.1 d.2.1.2.2.2.1 d.2.1.2.2.2.2.1 d.2.1.2.2.2.2.2.1 d.2.1.2.2.2.2.2.2.1 d.2.2.1.1 d.2.2.1.2.1 d.2.2.1.2.2.1 d.2.2.1.2.2.2.1 d.2.2.1.2.2.2.2.1 d.2.2.2.2.1.1 d.2.2.2.2.2.2.1 d.2.2.2.2.2.2.2.1.2.1 d.2.2.2.2.2.2.2.1.2.2.1 d.2.2.2.2.2.2.2.1.2.2.2.1 d.2.2.2.2.2.2.2.1.2.2.2.2.1 d.2.2.2.2.2.2.2.1.2.2.2.2.2.1 d.2.2.2.2.2.2.2.1.2.2.2.2.2.2.1 d.2.2.2.2.2.2.2.2.1⟩ ⟨λ d=>by kernel_rfl,λ k da db=>by kernel_rfl⟩
def TM(F:Nat)(wo:Int)(p:Int)(q:List Int)(r:Int)(s:Int)(t:Int)(u:Int)(v:List Int)(w:Int)(b:List aq)(c:List Int)(d:List (List I.Field))(e:List (List (List UInt8)))(f:List (List I.Target))(g:List Int)(h:List Int)(i:Int)(j:Int)(k:Int)(l:Int)(m:List Int)(n:Int)(o:List Int):Option aqp:=(Jj F F wo p 0 q r s t u v w b c d e f g h i j k l m n o).bind λ a=>
some ((),(a.2.1.1,a.2.1.2.1,a.2.1.2.2.1,a.2.1.2.2.2.1,a.2.1.2.2.2.2.1,a.2.1.2.2.2.2.2.1,a.2.1.2.2.2.2.2.2.1,()),(a.2.2.1.1,a.2.2.1.2.1,a.2.2.1.2.2.1,a.2.2.1.2.2.2.1,a.2.2.1.2.2.2.2.1,()),((),()),(a.2.2.2.2.1.1,()),((),()),a.2.2.2.2.2.2.1,((),a.2.2.2.2.2.2.2.1.2.1,a.2.2.2.2.2.2.2.1.2.2.1,a.2.2.2.2.2.2.2.1.2.2.2.1,a.2.2.2.2.2.2.2.1.2.2.2.2.1,a.2.2.2.2.2.2.2.1.2.2.2.2.2.1,a.2.2.2.2.2.2.2.1.2.2.2.2.2.2.1,()),a.2.2.2.2.2.2.2.2.1,())
def asP(F:Nat):aS aI:=(asO F).fn 73 ⟨[ni,ni,.p (.B 0),.p (.B 1),.p (.B 2),.p (.B 6)],[eZ,ku,.c 110 [.F 72 [3,4]],.c 22 [.l 3],.c 22 [.R 5],.r 3 true,HP,.r 3 true],[],[eZ,ku,.c 110 [.F 72 [3,4]],.c 22 [.l 3],.c 22 [.R 5],.r 3 true,HP,.r 3 true],λ d=>TM F d.1.1 d.1.2.1 d.2.1.1 d.2.1.2.1 d.2.1.2.2.1 d.2.1.2.2.2.1 d.2.1.2.2.2.2.1 d.2.1.2.2.2.2.2.1 d.2.1.2.2.2.2.2.2.1 d.2.2.1.1 d.2.2.1.2.1 d.2.2.1.2.2.1 d.2.2.1.2.2.2.1 d.2.2.1.2.2.2.2.1 d.2.2.2.2.1.1 d.2.2.2.2.2.2.1 d.2.2.2.2.2.2.2.1.2.1 d.2.2.2.2.2.2.2.1.2.2.1 d.2.2.2.2.2.2.2.1.2.2.2.1 d.2.2.2.2.2.2.2.1.2.2.2.2.1 d.2.2.2.2.2.2.2.1.2.2.2.2.2.1 d.2.2.2.2.2.2.2.1.2.2.2.2.2.2.1 d.2.2.2.2.2.2.2.2.1⟩ λ da db=>by kernel_rfl
def TN(F:Nat):Nat->(Int)->(List Int)->(Int)->(Int)->(List Int)->(Int)->(Int)->(Int)->(Int)->(List Int)->(Int)->(List aq)->(List Int)->(List (List I.Field))->(List (List (List UInt8)))->(List (List I.Target))->(List Int)->(List Int)->(Int)->(Int)->(Int)->(Int)->(List Int)->(Int)->(List Int)->Option ((Int×List Int×Unit×Unit×Unit×Unit×Unit×Int×Unit)×
 kG×
  Cn×(List Int×Unit)×kG×(Unit×Unit)×List Int×Unit)
 |0,_,_,_,_,_,_,_,_,_,_,_,_,_,_,_,_,_,_,_,_,_,_,_,_,_=>none
 |aT+1,e,f,b,c,d,g,h,i,j,k,l,m,n,o,p,q,a,r,s,t,u,v,w,x,y=>cond (decide (c<(↑a.length:Int))) ((bI 8 y [b]).bind λ z=>
(idx a c).bind λ A=>
(idx d (aw (A+1))).bind λ B=>
TN F aT e f (aw (b+aw (3+B))) (aw (c+1)) d g h i j k l m n o p q a r s t u v w x z) (
some ((e,f,(),(),(),(),(),b,()),(d,g,h,i,j,k,l,()),(m,n,o,p,q,()),(a,()),(r,s,t,u,v,w,x,()),((),()),y,()))
def asQ(F:Nat):aS aI:=(asP F).gx 45 0 F ⟨[3,4,5,6,7,10,12,13,14],[ni,nj,.p (.B 0),.p (.B 1),.p (.B 2),.p (.B 3),.p (.B 4),ni,ni],[eZ,ku,.c 22 [.l 3],eZ,.c 22 [.R 5],.r 3 false],[⟨.nm,[3,4,5,6,7,10,12,13],[ni,nj,.p (.B 0),.p (.B 1),.p (.B 2),.p (.B 3),.p (.B 4),ni],[eZ,ku,.c 22 [.l 3],eZ,.c 22 [.R 5],.r 3 false]⟩],λ k d=>TN F k d.1.1 d.1.2.1 d.1.2.2.2.2.2.2.2.1 d.1.2.2.2.2.2.2.2.2.1 d.2.1.1 d.2.1.2.1 d.2.1.2.2.1 d.2.1.2.2.2.1 d.2.1.2.2.2.2.1 d.2.1.2.2.2.2.2.1 d.2.1.2.2.2.2.2.2.1 d.2.2.1.1 d.2.2.1.2.1 d.2.2.1.2.2.1 d.2.2.1.2.2.2.1 d.2.2.1.2.2.2.2.1 d.2.2.2.1.1 d.2.2.2.2.1.1 d.2.2.2.2.1.2.1 d.2.2.2.2.1.2.2.1 d.2.2.2.2.1.2.2.2.1 d.2.2.2.2.1.2.2.2.2.1 d.2.2.2.2.1.2.2.2.2.2.1 d.2.2.2.2.1.2.2.2.2.2.2.1 d.2.2.2.2.2.2.1⟩ ⟨λ d=>by kernel_rfl,λ k da db=>by kernel_rfl⟩
def TP(F:Nat):Nat->(Int)->(List Int)->(Int)->(List Int)->(Int)->(Int)->(Int)->(Int)->(List Int)->(Int)->(List Int)->(List Int)->(Int)->(Int)->(Int)->(Int)->(List Int)->(Int)->(List Int)->(Int)->(Int)->(Int)->(Int)->(List Int)->(Int)->(List Int)->(List aq)->(List Int)->(List (List I.Field))->(List (List (List UInt8)))->(List (List I.Target))->Option ((List Int×Unit×Unit×Unit×Unit×Unit×(Unit×Unit×Unit×Unit×Unit)×Unit)×
 kG×
  (List Int×Unit)×
   kG×
    (Unit×Unit)×List Int×(Unit×Unit)×adt×List Int×Cn×Unit)
 |0,_,_,_,_,_,_,_,_,_,_,_,_,_,_,_,_,_,_,_,_,_,_,_,_,_,_,_,_,_,_,_=>none
 |aT+1,c,d,b,B1,e,f,g,h,i,j,k,B2,l,Fs,m,n,B3,o,p,q,B4,r,Fz,s,t,u,v,w,x,y,z=>cond (decide (b<c)) ((TM F b b B1 e f g h i j v w x y z k p q B4 r Fz s t u).bind λ a=>
(idx a.2.1.1 (aw (b+1))).bind λ A=>
TP F aT c d (aw (b+aw (3+A))) a.2.1.1 a.2.1.2.1 a.2.1.2.2.1 a.2.1.2.2.2.1 a.2.1.2.2.2.2.1 a.2.1.2.2.2.2.2.1 a.2.1.2.2.2.2.2.2.1 a.2.2.2.2.1.1 B2 l Fs m n B3 o a.2.2.2.2.2.2.1 a.2.2.2.2.2.2.2.1.2.1 a.2.2.2.2.2.2.2.1.2.2.1 a.2.2.2.2.2.2.2.1.2.2.2.1 a.2.2.2.2.2.2.2.1.2.2.2.2.1 a.2.2.2.2.2.2.2.1.2.2.2.2.2.1 a.2.2.2.2.2.2.2.1.2.2.2.2.2.2.1 a.2.2.2.2.2.2.2.2.1 a.2.2.1.1 a.2.2.1.2.1 a.2.2.1.2.2.1 a.2.2.1.2.2.2.1 a.2.2.1.2.2.2.2.1) (
some ((d,(),(),(),(),(),((),(),(),(),()),()),(B1,e,f,g,h,i,j,()),(k,()),(B2,l,Fs,m,n,B3,o,()),((),()),p,((),()),((),q,B4,r,Fz,s,t,()),u,(v,w,x,y,z,()),()))
def asR(F:Nat):aS aI:=(asQ F).gx 45 2 F ⟨[3,4,5,7,10,12,15,16,17,18],[ni,nj,.p (.B 0),.p (.B 1),.p (.B 2),.p (.B 3),.p (.B 5),.p (.B 6),.f 73 [.B 0,.B 8,.B 5,.B 6],ni],[eZ,.c 22 [.l 3],eZ,.c 22 [.R 4],.r 3 true,.c 110 [.F 72 [1,3]],HP,.r 3 true,ku],[⟨.nm,[4,7,10,12,15,16,17],[nj,.p (.B 1),.p (.B 2),.p (.B 3),.p (.B 5),.p (.B 6),.f 73 [.B 0,.B 8,.B 5,.B 6]],[eZ,.c 22 [.l 3],eZ,.c 22 [.R 4],.r 3 true,.c 110 [.F 72 [1,3]],HP,.r 3 true,ku]⟩],λ k d=>TP F k d.1.1 d.1.2.1 d.1.2.2.2.2.2.2.2.2.2.1 d.2.1.1 d.2.1.2.1 d.2.1.2.2.1 d.2.1.2.2.2.1 d.2.1.2.2.2.2.1 d.2.1.2.2.2.2.2.1 d.2.1.2.2.2.2.2.2.1 d.2.2.1.1 d.2.2.2.1.1 d.2.2.2.1.2.1 d.2.2.2.1.2.2.1 d.2.2.2.1.2.2.2.1 d.2.2.2.1.2.2.2.2.1 d.2.2.2.1.2.2.2.2.2.1 d.2.2.2.1.2.2.2.2.2.2.1 d.2.2.2.2.2.1 d.2.2.2.2.2.2.2.1.2.1 d.2.2.2.2.2.2.2.1.2.2.1 d.2.2.2.2.2.2.2.1.2.2.2.1 d.2.2.2.2.2.2.2.1.2.2.2.2.1 d.2.2.2.2.2.2.2.1.2.2.2.2.2.1 d.2.2.2.2.2.2.2.1.2.2.2.2.2.2.1 d.2.2.2.2.2.2.2.2.1 d.2.2.2.2.2.2.2.2.2.1.1 d.2.2.2.2.2.2.2.2.2.1.2.1 d.2.2.2.2.2.2.2.2.2.1.2.2.1 d.2.2.2.2.2.2.2.2.2.1.2.2.2.1 d.2.2.2.2.2.2.2.2.2.1.2.2.2.2.1⟩ ⟨λ d=>by kernel_rfl,λ k da db=>by kernel_rfl⟩
def TQ(F:Nat):Nat->(List Int)->(Int)->(List Int)->(List Int)->(Int)->(Int)->(Int)->(Int)->(List Int)->(Int)->(List Int)->(Int)->(Int)->(Int)->(Int)->(List Int)->(Int)->(List Int)->(List Int)->(Int)->(Int)->(Int)->(Int)->(List Int)->(Int)->(List aq)->(List Int)->(List (List I.Field))->(List (List (List UInt8)))->(List (List I.Target))->Option ((List Int×Unit×Unit×Unit×Unit)×
 (List Int×Unit)×
  kG×
   (Unit×Unit)×
    List Int×
     (Unit×Unit)×
      adt×
       List Int×kG×Cn×Unit)
 |0,_,_,_,_,_,_,_,_,_,_,_,_,_,_,_,_,_,_,_,_,_,_,_,_,_,_,_,_,_,_=>none
 |aT+1,G,B,C,H,c,d,e,f,g,h,b,i,j,k,l,m,n,o,p,q,r,s,t,u,v,w,x,y,z,A=>cond (decide (B<(↑C.length:Int))) ((idx C B).bind λ D=>
(idx b B).bind λ E=>
(TM F D E p q r s t u v w x y z A C b i j k l m n o).bind λ a=>
TQ F aT G (aw (B+1)) a.2.2.2.2.1.1 H c d e f g h a.2.2.2.2.2.2.1 a.2.2.2.2.2.2.2.1.2.1 a.2.2.2.2.2.2.2.1.2.2.1 a.2.2.2.2.2.2.2.1.2.2.2.1 a.2.2.2.2.2.2.2.1.2.2.2.2.1 a.2.2.2.2.2.2.2.1.2.2.2.2.2.1 a.2.2.2.2.2.2.2.1.2.2.2.2.2.2.1 a.2.2.2.2.2.2.2.2.1 a.2.1.1 a.2.1.2.1 a.2.1.2.2.1 a.2.1.2.2.2.1 a.2.1.2.2.2.2.1 a.2.1.2.2.2.2.2.1 a.2.1.2.2.2.2.2.2.1 a.2.2.1.1 a.2.2.1.2.1 a.2.2.1.2.2.1 a.2.2.1.2.2.2.1 a.2.2.1.2.2.2.2.1) (
some ((G,(),(),(),()),(C,()),(H,c,d,e,f,g,h,()),((),()),b,((),()),((),i,j,k,l,m,n,()),o,(p,q,r,s,t,u,v,()),(w,x,y,z,A,()),()))
def asS(F:Nat):aS aI:=(asR F).gx 45 4 F ⟨[4,7,10,12,15,16,17,19],[nj,.p (.B 0),.p (.B 1),.p (.B 2),.p (.B 4),.p (.B 5),.f 73 [.B 7,.B 8,.B 4,.B 5],ni],[.c 22 [.l 3],eZ,.c 22 [.R 3],.r 3 true,.c 110 [.F 72 [0,2]],QD,.r 3 true,eZ,ku],[⟨.nm,[4,10,15,16],[nj,.p (.B 1),.p (.B 4),.p (.B 5)],[.c 22 [.l 3],eZ,.c 22 [.R 3],.r 3 true,.c 110 [.F 72 [0,2]],QD,.r 3 true,eZ,ku]⟩],λ k d=>TQ F k d.1.1 d.1.2.2.2.2.2.2.2.1 d.2.1.1 d.2.2.1.1 d.2.2.1.2.1 d.2.2.1.2.2.1 d.2.2.1.2.2.2.1 d.2.2.1.2.2.2.2.1 d.2.2.1.2.2.2.2.2.1 d.2.2.1.2.2.2.2.2.2.1 d.2.2.2.2.1 d.2.2.2.2.2.2.1.2.1 d.2.2.2.2.2.2.1.2.2.1 d.2.2.2.2.2.2.1.2.2.2.1 d.2.2.2.2.2.2.1.2.2.2.2.1 d.2.2.2.2.2.2.1.2.2.2.2.2.1 d.2.2.2.2.2.2.1.2.2.2.2.2.2.1 d.2.2.2.2.2.2.2.1 d.2.2.2.2.2.2.2.2.1.1 d.2.2.2.2.2.2.2.2.1.2.1 d.2.2.2.2.2.2.2.2.1.2.2.1 d.2.2.2.2.2.2.2.2.1.2.2.2.1 d.2.2.2.2.2.2.2.2.1.2.2.2.2.1 d.2.2.2.2.2.2.2.2.1.2.2.2.2.2.1 d.2.2.2.2.2.2.2.2.1.2.2.2.2.2.2.1 d.2.2.2.2.2.2.2.2.2.1.1 d.2.2.2.2.2.2.2.2.2.1.2.1 d.2.2.2.2.2.2.2.2.2.1.2.2.1 d.2.2.2.2.2.2.2.2.2.1.2.2.2.1 d.2.2.2.2.2.2.2.2.2.1.2.2.2.2.1⟩ ⟨λ d=>by kernel_rfl,λ k da db=>by kernel_rfl⟩
def TR(F:Nat):Nat->(List Int)->(Int)->(List Int)->(Int)->(Int)->(Int)->(Int)->(List Int)->(Int)->(List Int)->(List Int)->(Int)->(Int)->(Int)->(Int)->(List Int)->(Int)->(List Int)->(List Int)->Option ((Unit×Unit×Unit×Unit)×kG×(Unit×Unit)×(List Int×Unit)×(Unit×Unit)×List Int×adt×List Int×List Int×Unit)
 |0,_,_,_,_,_,_,_,_,_,_,_,_,_,_,_,_,_,_,_=>none
 |aT+1,a,b,d,e,f,g,h,i,j,k,l,m,n,o,p,q,r,s,t=>cond (decide (b<(↑a.length:Int))) ((idx a b).bind λ u=>
(TL F u k l).bind λ c=>
(bI 8 t [c.1.1]).bind λ v=>
TR F aT a (aw (b+1)) d e f g h i j c.2.1.1 c.2.2.2.1 m n o p q r s v) (
some (((),(),(),()),(d,e,f,g,h,i,j,()),((),()),(k,()),((),()),l,((),m,n,o,p,q,r,()),s,t,()))
def asT(F:Nat):aS aI:=(asS F).gx 45 6 F ⟨[4,10,15,16,20,21],[nj,.p (.B 0),.p (.B 1),.p (.B 5),.p (.R 7),ni],[eZ,.c 110 [.F 72 [2,3]],.c 22 [.l 3],.c 22 [.R 4],.r 3 true,QD,.r 3 true,.r 3 false],[⟨.nm,[10,16,20],[.p (.B 0),.p (.B 5),.p (.R 7)],[eZ,.c 110 [.F 72 [2,3]],.c 22 [.l 3],.c 22 [.R 4],.r 3 true,QD,.r 3 true,.r 3 false]⟩],λ k d=>TR F k d.1.1 d.1.2.2.2.2.2.1 d.2.1.1 d.2.1.2.1 d.2.1.2.2.1 d.2.1.2.2.2.1 d.2.1.2.2.2.2.1 d.2.1.2.2.2.2.2.1 d.2.1.2.2.2.2.2.2.1 d.2.2.2.1.1 d.2.2.2.2.2.1 d.2.2.2.2.2.2.1.2.1 d.2.2.2.2.2.2.1.2.2.1 d.2.2.2.2.2.2.1.2.2.2.1 d.2.2.2.2.2.2.1.2.2.2.2.1 d.2.2.2.2.2.2.1.2.2.2.2.2.1 d.2.2.2.2.2.2.1.2.2.2.2.2.2.1 d.2.2.2.2.2.2.2.1 d.2.2.2.2.2.2.2.2.1⟩ ⟨λ d=>by kernel_rfl,λ k da db=>by kernel_rfl⟩
def ad5(F:Nat)(e:List Int)(f:Int)(g:Int)(h:Int)(i:Int)(j:List Int)(k:Int)(l:List aq)(m:List Int)(n:List (List I.Field))(o:List (List (List UInt8)))(p:List (List I.Target))(q:List Int)(d:Int)(r:List Int):Option ((kG×List Int×Unit)×Unit):=(TN F F d r d 0 e f g h i j k l m n o p q [] 0 0 0 0 [] 0 []).bind λ a=>
(x' 0 8 (↑(h8 a.2.1.1):Int)).bind λ s=>
(TP F F a.1.1 a.1.2.1 (aw (a.2.1.2.1+1)) a.2.1.1 a.2.1.2.1 a.2.1.2.2.1 a.2.1.2.2.2.1 a.2.1.2.2.2.2.1
 a.2.1.2.2.2.2.2.1 a.2.1.2.2.2.2.2.2.1 a.2.2.2.1.1 a.2.2.2.2.1.1 a.2.2.2.2.1.2.1 a.2.2.2.2.1.2.2.1
 a.2.2.2.2.1.2.2.2.1 a.2.2.2.2.1.2.2.2.2.1 a.2.2.2.2.1.2.2.2.2.2.1 a.2.2.2.2.1.2.2.2.2.2.2.1 a.2.2.2.2.2.2.1
 a.2.1.2.1 a.2.1.2.2.1 1 a.1.2.2.2.2.2.2.2.1 [] a.2.1.2.2.2.2.2.2.1 s a.2.2.1.1 a.2.2.1.2.1 a.2.2.1.2.2.1
 a.2.2.1.2.2.2.1 a.2.2.1.2.2.2.2.1).bind λ b=>
(TQ F F b.1.1 0 b.2.2.1.1 b.2.2.2.1.1 b.2.2.2.1.2.1 b.2.2.2.1.2.2.1 b.2.2.2.1.2.2.2.1 b.2.2.2.1.2.2.2.2.1
 b.2.2.2.1.2.2.2.2.2.1 b.2.2.2.1.2.2.2.2.2.2.1 b.2.2.2.2.2.1 b.2.2.2.2.2.2.2.1.2.1 b.2.2.2.2.2.2.2.1.2.2.1
 b.2.2.2.2.2.2.2.1.2.2.2.1 b.2.2.2.2.2.2.2.1.2.2.2.2.1 b.2.2.2.2.2.2.2.1.2.2.2.2.2.1 b.2.2.2.2.2.2.2.1.2.2.2.2.2.2.1
 b.2.2.2.2.2.2.2.2.1 b.2.1.1 b.2.1.2.1 b.2.1.2.2.1 b.2.1.2.2.2.1 b.2.1.2.2.2.2.1 b.2.1.2.2.2.2.2.1
 b.2.1.2.2.2.2.2.2.1 b.2.2.2.2.2.2.2.2.2.1.1 b.2.2.2.2.2.2.2.2.2.1.2.1 b.2.2.2.2.2.2.2.2.2.1.2.2.1
 b.2.2.2.2.2.2.2.2.2.1.2.2.2.1 b.2.2.2.2.2.2.2.2.2.1.2.2.2.2.1).bind λ mu=>
(TR F F mu.1.1 0 mu.2.2.1.1 mu.2.2.1.2.1 mu.2.2.1.2.2.1 mu.2.2.1.2.2.2.1 mu.2.2.1.2.2.2.2.1 mu.2.2.1.2.2.2.2.2.1
 mu.2.2.1.2.2.2.2.2.2.1 mu.2.1.1 mu.2.2.2.2.1 mu.2.2.2.2.2.2.1.2.1 mu.2.2.2.2.2.2.1.2.2.1 mu.2.2.2.2.2.2.1.2.2.2.1
 mu.2.2.2.2.2.2.1.2.2.2.2.1 mu.2.2.2.2.2.2.1.2.2.2.2.2.1 mu.2.2.2.2.2.2.1.2.2.2.2.2.2.1 mu.2.2.2.2.2.2.2.1 []).bind λ c=>
some (((c.2.2.2.2.2.2.2.1,c.2.2.2.2.2.2.1.2.1,c.2.2.2.2.2.2.1.2.2.1,c.2.2.2.2.2.2.1.2.2.2.1,c.2.2.2.2.2.2.1.2.2.2.2.1,c.2.2.2.2.2.2.1.2.2.2.2.2.1,c.2.2.2.2.2.2.1.2.2.2.2.2.2.1,()),c.2.2.2.2.2.2.2.2.1,()),())
def asU(F:Nat):aS aI:=(asT F).fn 45 ⟨[LA,Zm,nj,ni,nj],[],[LA,nj],[],λ d=>ad5 F d.1.1.1 d.1.1.2.1 d.1.1.2.2.1 d.1.1.2.2.2.1 d.1.1.2.2.2.2.1 d.1.1.2.2.2.2.2.1 d.1.1.2.2.2.2.2.2.1 d.1.2.1.1 d.1.2.1.2.1 d.1.2.1.2.2.1 d.1.2.1.2.2.2.1 d.1.2.1.2.2.2.2.1 d.1.2.2.1 d.1.2.2.2.1 d.1.2.2.2.2.1⟩ λ da db=>by kernel_rfl
def Jd(F:Nat)(g:Int)(a:List Int)(h:Int)(b:Int)(c:Int)(d:Int)(e:List Int)(f:Int)(Sx:List Int):Option (Unit×kG×(Unit×Unit)×List Int×Unit):=cond (decide (1<=g)&&decide (g<=h)) ((iL F Sx g).bind λ i=>
cond (!i) ((bI 8 Sx [g]).bind λ j=>
some ((),(a,h,b,c,d,e,f,()),((),()),j,())) (
some ((),(a,h,b,c,d,e,f,()),((),()),Sx,()))) (
some ((),(a,h,b,c,d,e,f,()),((),()),Sx,()))
def asV(F:Nat):aS aI:=(asU F).fn 41 ⟨[ni,.p (.B 0),.p (.B 1)],[eZ,.c 22 [.R 2],.r 3 false],[],[eZ,.c 22 [.R 2],.r 3 false],λ d=>Jd F d.1.1 d.2.1.1 d.2.1.2.1 d.2.1.2.2.1 d.2.1.2.2.2.1 d.2.1.2.2.2.2.1 d.2.1.2.2.2.2.2.1 d.2.1.2.2.2.2.2.2.1 d.2.2.2.1⟩ λ da db=>by kernel_rfl
def TE(F:Nat):Nat->(List Int)->(Int)->(List Int)->(Int)->(Int)->(Int)->(Int)->(List Int)->(Int)->(List aq)->(List Int)->(List (List I.Field))->(List (List (List UInt8)))->(List (List I.Target))->(List Int)->(Int)->(Int)->(Int)->(Int)->(List Int)->(Int)->(List Int)->Option (aqr×
 kG×
  Cn×kG×(Unit×Unit)×List Int×Unit)
 |0,_,_,_,_,_,_,_,_,_,_,_,_,_,_,_,_,_,_,_,_,_,_=>none
 |aT+1,w,b,c,d,e,f,g,h,i,j,k,l,m,n,o,p,q,r,s,t,u,v=>cond (decide (b<(↑w.length:Int))) ((idx w b).bind λ x=>
(Jd F x c d e f g h i v).bind λ a=>
TE F aT w (aw (b+1)) a.2.1.1 a.2.1.2.1 a.2.1.2.2.1 a.2.1.2.2.2.1 a.2.1.2.2.2.2.1 a.2.1.2.2.2.2.2.1 a.2.1.2.2.2.2.2.2.1 j k l m n o p q r s t u a.2.2.2.1) (
some ((w,(),(),(),(),((),(),()),()),(c,d,e,f,g,h,i,()),(j,k,l,m,n,()),(o,p,q,r,s,t,u,()),((),()),v,()))
def asW(F:Nat):aS aI:=(asV F).gx 15 0 F ⟨[2,3,4,6,8,9,10],[nj,.p (.B 0),.p (.B 1),.p (.B 2),.p (.B 3),.f 41 [.B 0,.B 3],ni],[eZ,ku,eZ,.c 22 [.R 4],.r 3 false],[⟨.nm,[2,3,4,6,8,9],[nj,.p (.B 0),.p (.B 1),.p (.B 2),.p (.B 3),.f 41 [.B 0,.B 3]],[eZ,ku,eZ,.c 22 [.R 4],.r 3 false]⟩],λ k d=>TE F k d.1.1 d.1.2.2.2.2.2.2.1 d.2.1.1 d.2.1.2.1 d.2.1.2.2.1 d.2.1.2.2.2.1 d.2.1.2.2.2.2.1 d.2.1.2.2.2.2.2.1 d.2.1.2.2.2.2.2.2.1 d.2.2.1.1 d.2.2.1.2.1 d.2.2.1.2.2.1 d.2.2.1.2.2.2.1 d.2.2.1.2.2.2.2.1 d.2.2.2.1.1 d.2.2.2.1.2.1 d.2.2.2.1.2.2.1 d.2.2.2.1.2.2.2.1 d.2.2.2.1.2.2.2.2.1 d.2.2.2.1.2.2.2.2.2.1 d.2.2.2.1.2.2.2.2.2.2.1 d.2.2.2.2.2.1⟩ ⟨λ d=>by kernel_rfl,λ k da db=>by kernel_rfl⟩
def TG(F:Nat):Nat->(List Int)->(Int)->(List Int)->(Int)->(List Int)->(Int)->(Int)->(Int)->(Int)->(List Int)->(Int)->(List aq)->(List Int)->(List (List I.Field))->(List (List (List UInt8)))->(List (List I.Target))->(List Int)->(Int)->(Int)->(Int)->(Int)->(List Int)->(Int)->(List Int)->Option (aqq×
 kG×
  Cn×kG×(Unit×Unit)×List Int×Unit)
 |0,_,_,_,_,_,_,_,_,_,_,_,_,_,_,_,_,_,_,_,_,_,_,_,_=>none
 |aT+1,e,f,b,c,d,g,h,i,j,k,l,m,n,o,p,q,r,s,t,u,v,w,x,y=>cond (decide (c<(↑b.length:Int))) ((idx b c).bind λ z=>
(idx d z).bind λ A=>
(Jd F A d g h i j k l y).bind λ a=>
TG F aT e f b (aw (c+1)) a.2.1.1 a.2.1.2.1 a.2.1.2.2.1 a.2.1.2.2.2.1 a.2.1.2.2.2.2.1 a.2.1.2.2.2.2.2.1 a.2.1.2.2.2.2.2.2.1 m n o p q r s t u v w x a.2.2.2.1) (
some ((e,(),(),(),(),((),(),()),f,()),(d,g,h,i,j,k,l,()),(m,n,o,p,q,()),(r,s,t,u,v,w,x,()),((),()),y,()))
def asY(F:Nat):aS aI:=(asW F).gx 15 4 F ⟨[2,3,4,6,8,9,11,12,13],[nj,.p (.B 0),.p (.B 1),.p (.B 2),.p (.B 3),.f 41 [.B 0,.B 3],ni,nj,ni],[eZ,ku,eZ,.c 22 [.R 4],.r 3 false],[⟨.nm,[2,3,4,6,8,9,11],[nj,.p (.B 0),.p (.B 1),.p (.B 2),.p (.B 3),.f 41 [.B 0,.B 3],ni],[eZ,ku,eZ,.c 22 [.R 4],.r 3 false]⟩],λ k d=>TG F k d.1.1 d.1.2.2.2.2.2.2.1 d.1.2.2.2.2.2.2.2.1 d.1.2.2.2.2.2.2.2.2.1 d.2.1.1 d.2.1.2.1 d.2.1.2.2.1 d.2.1.2.2.2.1 d.2.1.2.2.2.2.1 d.2.1.2.2.2.2.2.1 d.2.1.2.2.2.2.2.2.1 d.2.2.1.1 d.2.2.1.2.1 d.2.2.1.2.2.1 d.2.2.1.2.2.2.1 d.2.2.1.2.2.2.2.1 d.2.2.2.1.1 d.2.2.2.1.2.1 d.2.2.2.1.2.2.1 d.2.2.2.1.2.2.2.1 d.2.2.2.1.2.2.2.2.1 d.2.2.2.1.2.2.2.2.2.1 d.2.2.2.1.2.2.2.2.2.2.1 d.2.2.2.2.2.1⟩ ⟨λ d=>by kernel_rfl,λ k da db=>by kernel_rfl⟩
def TF(F:Nat):Nat->(List Int)->(Int)->(List Int)->(Int)->(Int)->(Int)->(Int)->(List Int)->(Int)->(List aq)->(List Int)->(List (List I.Field))->(List (List (List UInt8)))->(List (List I.Target))->(List Int)->(Int)->(Int)->(Int)->(Int)->(List Int)->(Int)->(List Int)->Option (aqr×
 kG×
  Cn×kG×(Unit×Unit)×List Int×Unit)
 |0,_,_,_,_,_,_,_,_,_,_,_,_,_,_,_,_,_,_,_,_,_,_=>none
 |aT+1,n,b,c,d,e,f,g,o,h,i,j,k,l,m,p,app,q,r,s,t,u,v=>cond (decide (b<(↑o.length:Int))) ((idx o b).bind λ w=>
(pQ F (aV.mk c d e f g o h) (aP.mk i j k l m) w).bind λ x=>
(TG F F n b x 0 c d e f g o h i j k l m p app q r s t u v).bind λ a=>
TF F aT a.1.1 (aw (a.1.2.2.2.2.2.2.1+1)) a.2.1.1 a.2.1.2.1 a.2.1.2.2.1 a.2.1.2.2.2.1 a.2.1.2.2.2.2.1 a.2.1.2.2.2.2.2.1 a.2.1.2.2.2.2.2.2.1 a.2.2.1.1 a.2.2.1.2.1 a.2.2.1.2.2.1 a.2.2.1.2.2.2.1 a.2.2.1.2.2.2.2.1 a.2.2.2.1.1 a.2.2.2.1.2.1 a.2.2.2.1.2.2.1 a.2.2.2.1.2.2.2.1 a.2.2.2.1.2.2.2.2.1 a.2.2.2.1.2.2.2.2.2.1 a.2.2.2.1.2.2.2.2.2.2.1 a.2.2.2.2.2.1) (
some ((n,(),(),(),(),((),(),()),()),(c,d,e,f,g,o,h,()),(i,j,k,l,m,()),(p,app,q,r,s,t,u,()),((),()),v,()))
def asZ(F:Nat):aS aI:=(asY F).gx 15 2 F ⟨[2,3,4,6,8,9,11],[nj,.p (.B 0),.p (.B 1),.p (.B 2),.p (.B 3),.f 41 [.B 0,.B 3],ni],[eZ,ku,eZ,.c 22 [.R 4],.r 3 false],[⟨.nm,[2,3,4,6,8,9],[nj,.p (.B 0),.p (.B 1),.p (.B 2),.p (.B 3),.f 41 [.B 0,.B 3]],[eZ,ku,eZ,.c 22 [.R 4],.r 3 false]⟩],λ k d=>TF F k d.1.1 d.1.2.2.2.2.2.2.1 d.2.1.1 d.2.1.2.1 d.2.1.2.2.1 d.2.1.2.2.2.1 d.2.1.2.2.2.2.1 d.2.1.2.2.2.2.2.1 d.2.1.2.2.2.2.2.2.1 d.2.2.1.1 d.2.2.1.2.1 d.2.2.1.2.2.1 d.2.2.1.2.2.2.1 d.2.2.1.2.2.2.2.1 d.2.2.2.1.1 d.2.2.2.1.2.1 d.2.2.2.1.2.2.1 d.2.2.2.1.2.2.2.1 d.2.2.2.1.2.2.2.2.1 d.2.2.2.1.2.2.2.2.2.1 d.2.2.2.1.2.2.2.2.2.2.1 d.2.2.2.2.2.1⟩ ⟨λ d=>by kernel_rfl,λ k da db=>by kernel_rfl⟩
def TI(F:Nat):Nat->(List Int)->(Int)->(List Int)->(Int)->(List Int)->(Int)->(Int)->(Int)->(Int)->(List Int)->(Int)->(List aq)->(List Int)->(List (List I.Field))->(List (List (List UInt8)))->(List (List I.Target))->(List Int)->(Int)->(Int)->(Int)->(Int)->(List Int)->(Int)->(List Int)->Option (aqq×
 kG×
  Cn×kG×(Unit×Unit)×List Int×Unit)
 |0,_,_,_,_,_,_,_,_,_,_,_,_,_,_,_,_,_,_,_,_,_,_,_,_=>none
 |aT+1,e,f,b,c,d,g,h,i,j,k,l,m,n,o,p,q,r,s,t,u,v,w,x,y=>cond (decide (c<(↑b.length:Int))) ((idx b c).bind λ z=>
(idx d z).bind λ A=>
(Jd F A d g h i j k l y).bind λ a=>
TI F aT e f b (aw (c+1)) a.2.1.1 a.2.1.2.1 a.2.1.2.2.1 a.2.1.2.2.2.1 a.2.1.2.2.2.2.1 a.2.1.2.2.2.2.2.1 a.2.1.2.2.2.2.2.2.1 m n o p q r s t u v w x a.2.2.2.1) (
some ((e,(),(),(),(),((),(),()),f,()),(d,g,h,i,j,k,l,()),(m,n,o,p,q,()),(r,s,t,u,v,w,x,()),((),()),y,()))
def as0(F:Nat):aS aI:=(asZ F).gx 15 8 F ⟨[2,3,4,6,8,9,14,15,16],[nj,.p (.B 0),.p (.B 1),.p (.B 2),.p (.B 3),.f 41 [.B 0,.B 3],ni,nj,ni],[eZ,ku,eZ,.c 22 [.R 4],.r 3 false],[⟨.nm,[2,3,4,6,8,9,14],[nj,.p (.B 0),.p (.B 1),.p (.B 2),.p (.B 3),.f 41 [.B 0,.B 3],ni],[eZ,ku,eZ,.c 22 [.R 4],.r 3 false]⟩],λ k d=>TI F k d.1.1 d.1.2.2.2.2.2.2.1 d.1.2.2.2.2.2.2.2.1 d.1.2.2.2.2.2.2.2.2.1 d.2.1.1 d.2.1.2.1 d.2.1.2.2.1 d.2.1.2.2.2.1 d.2.1.2.2.2.2.1 d.2.1.2.2.2.2.2.1 d.2.1.2.2.2.2.2.2.1 d.2.2.1.1 d.2.2.1.2.1 d.2.2.1.2.2.1 d.2.2.1.2.2.2.1 d.2.2.1.2.2.2.2.1 d.2.2.2.1.1 d.2.2.2.1.2.1 d.2.2.2.1.2.2.1 d.2.2.2.1.2.2.2.1 d.2.2.2.1.2.2.2.2.1 d.2.2.2.1.2.2.2.2.2.1 d.2.2.2.1.2.2.2.2.2.2.1 d.2.2.2.2.2.1⟩ ⟨λ d=>by kernel_rfl,λ k da db=>by kernel_rfl⟩
def TH(F:Nat):Nat->(List Int)->(Int)->(List Int)->(Int)->(Int)->(Int)->(Int)->(List Int)->(Int)->(List aq)->(List Int)->(List (List I.Field))->(List (List (List UInt8)))->(List (List I.Target))->(List Int)->(Int)->(Int)->(Int)->(Int)->(List Int)->(Int)->(List Int)->Option ((List Int×Unit×Unit×Unit×Unit×Unit)×
 kG×
  Cn×kG×(Unit×Unit)×List Int×Unit)
 |0,_,_,_,_,_,_,_,_,_,_,_,_,_,_,_,_,_,_,_,_,_,_=>none
 |aT+1,o,b,c,d,e,f,g,h,i,j,k,l,m,n,p,q,r,s,t,ap2,u,v=>cond (decide (b<(↑v.length:Int))) ((idx v b).bind λ w=>
(pQ F (aV.mk c d e f g h i) (aP.mk j k l m n) w).bind λ x=>
(TI F F o b x 0 c d e f g h i j k l m n p q r s t ap2 u v).bind λ a=>
TH F aT a.1.1 (aw (a.1.2.2.2.2.2.2.1+1)) a.2.1.1 a.2.1.2.1 a.2.1.2.2.1 a.2.1.2.2.2.1 a.2.1.2.2.2.2.1 a.2.1.2.2.2.2.2.1 a.2.1.2.2.2.2.2.2.1 a.2.2.1.1 a.2.2.1.2.1 a.2.2.1.2.2.1 a.2.2.1.2.2.2.1 a.2.2.1.2.2.2.2.1 a.2.2.2.1.1 a.2.2.2.1.2.1 a.2.2.2.1.2.2.1 a.2.2.2.1.2.2.2.1 a.2.2.2.1.2.2.2.2.1 a.2.2.2.1.2.2.2.2.2.1 a.2.2.2.1.2.2.2.2.2.2.1 a.2.2.2.2.2.1) (
some ((o,(),(),(),(),()),(c,d,e,f,g,h,i,()),(j,k,l,m,n,()),(p,q,r,s,t,ap2,u,()),((),()),v,()))
def as1(F:Nat):aS aI:=(as0 F).gx 15 6 F ⟨[2,3,4,6,8,9,14],[nj,.p (.B 0),.p (.B 1),.p (.B 2),.p (.B 3),.f 41 [.B 0,.B 3],ni],[eZ,ku,eZ,.c 22 [.R 4],.r 3 false],[⟨.nm,[2,3,4,6,8],[nj,.p (.B 0),.p (.B 1),.p (.B 2),.p (.B 3)],[eZ,ku,eZ,.c 22 [.R 4],.r 3 false]⟩],λ k d=>TH F k d.1.1 d.1.2.2.2.2.2.2.1 d.2.1.1 d.2.1.2.1 d.2.1.2.2.1 d.2.1.2.2.2.1 d.2.1.2.2.2.2.1 d.2.1.2.2.2.2.2.1 d.2.1.2.2.2.2.2.2.1 d.2.2.1.1 d.2.2.1.2.1 d.2.2.1.2.2.1 d.2.2.1.2.2.2.1 d.2.2.1.2.2.2.2.1 d.2.2.2.1.1 d.2.2.2.1.2.1 d.2.2.2.1.2.2.1 d.2.2.2.1.2.2.2.1 d.2.2.2.1.2.2.2.2.1 d.2.2.2.1.2.2.2.2.2.1 d.2.2.2.1.2.2.2.2.2.2.1 d.2.2.2.2.2.1⟩ ⟨λ d=>by kernel_rfl,λ k da db=>by kernel_rfl⟩
def TD(F:Nat)(e:List Int)(f:Int)(g:Int)(h:Int)(i:Int)(j:List Int)(k:Int)(l:List aq)(m:List Int)(n:List (List I.Field))(o:List (List (List UInt8)))(p:List (List I.Target))(q:List Int):Option ((kG×List Int×Unit)×Unit):=(TE F F q 0 e f g h i j k l m n o p [] 0 0 0 0 [] 0 []).bind λ a=>
(TF F F a.1.1 0 a.2.1.1 a.2.1.2.1 a.2.1.2.2.1 a.2.1.2.2.2.1 a.2.1.2.2.2.2.1 a.2.1.2.2.2.2.2.1
 a.2.1.2.2.2.2.2.2.1 a.2.2.1.1 a.2.2.1.2.1 a.2.2.1.2.2.1 a.2.2.1.2.2.2.1 a.2.2.1.2.2.2.2.1 a.2.2.2.1.1
 a.2.2.2.1.2.1 a.2.2.2.1.2.2.1 a.2.2.2.1.2.2.2.1 a.2.2.2.1.2.2.2.2.1 a.2.2.2.1.2.2.2.2.2.1
 a.2.2.2.1.2.2.2.2.2.2.1 a.2.2.2.2.2.1).bind λ b=>
(TH F F b.1.1 0 b.2.1.1 b.2.1.2.1 b.2.1.2.2.1 b.2.1.2.2.2.1 b.2.1.2.2.2.2.1 b.2.1.2.2.2.2.2.1
 b.2.1.2.2.2.2.2.2.1 b.2.2.1.1 b.2.2.1.2.1 b.2.2.1.2.2.1 b.2.2.1.2.2.2.1 b.2.2.1.2.2.2.2.1 b.2.2.2.1.1
 b.2.2.2.1.2.1 b.2.2.2.1.2.2.1 b.2.2.2.1.2.2.2.1 b.2.2.2.1.2.2.2.2.1 b.2.2.2.1.2.2.2.2.2.1
 b.2.2.2.1.2.2.2.2.2.2.1 b.2.2.2.2.2.1).bind λ c=>
(ad5 F c.2.1.1 c.2.1.2.1 c.2.1.2.2.1 c.2.1.2.2.2.1 c.2.1.2.2.2.2.1 c.2.1.2.2.2.2.2.1 c.2.1.2.2.2.2.2.2.1
 c.2.2.1.1 c.2.2.1.2.1 c.2.2.1.2.2.1 c.2.2.1.2.2.2.1 c.2.2.1.2.2.2.2.1 c.2.2.2.2.2.1 c.2.1.2.2.2.2.1 c.1.1).bind λ d=>
some (((d.1.1.1,d.1.1.2.1,d.1.1.2.2.1,d.1.1.2.2.2.1,d.1.1.2.2.2.2.1,d.1.1.2.2.2.2.2.1,d.1.1.2.2.2.2.2.2.1,()),d.1.2.1,()),())
def as2(F:Nat):aS aI:=(as1 F).fn 15 ⟨[LA,Zm,nj],[],[LA,nj],[],λ d=>TD F d.1.1.1 d.1.1.2.1 d.1.1.2.2.1 d.1.1.2.2.2.1 d.1.1.2.2.2.2.1 d.1.1.2.2.2.2.2.1 d.1.1.2.2.2.2.2.2.1 d.1.2.1.1 d.1.2.1.2.1 d.1.2.1.2.2.1 d.1.2.1.2.2.2.1 d.1.2.1.2.2.2.2.1 d.1.2.2.1⟩ λ da db=>by kernel_rfl
def auQ(F:Nat)(i:List Int)(e:Int)(f:Int)(g:Int)(h:Int)(j:List Int)(k:Int)(l:List aq)(m:List Int)(n:List (List I.Field))(o:List (List (List UInt8)))(p:List (List I.Target))(q:List Int):Option ((Bool×Unit)×Unit):=(adv F i e f g h j k l m n o p q).bind λ a=>
(Tz F (aV.mk i e f g h j k) (aP.mk l m n o p) q).bind λ d=>
cond (decide (d=0)) (cond (decide (aw (aw (aw (aw (aw (e+f)+1)-h)-g)+1)<0)) ((Cy F (aV.mk a.1.1.1 a.1.1.2.1 a.1.1.2.2.1 a.1.1.2.2.2.1 a.1.1.2.2.2.2.1 a.1.1.2.2.2.2.2.1 a.1.1.2.2.2.2.2.2.1)
 a.1.2.2.1 8 (aV.mk [] 0 0 0 0 [] 0)).bind λ r=>
cond r ((pR F a.1.2.1 []).bind λ s=>
some ((s,()),())) (
some ((false,()),()))) (
cond (decide (d=0)) ((TD F i e f g h j k l m n o p q).bind λ b=>
(Cy F (aV.mk a.1.1.1 a.1.1.2.1 a.1.1.2.2.1 a.1.1.2.2.2.1 a.1.1.2.2.2.2.1 a.1.1.2.2.2.2.2.1 a.1.1.2.2.2.2.2.2.1)
 a.1.2.2.1 d
 (aV.mk b.1.1.1 b.1.1.2.1 b.1.1.2.2.1 b.1.1.2.2.2.1 b.1.1.2.2.2.2.1 b.1.1.2.2.2.2.2.1 b.1.1.2.2.2.2.2.2.1)).bind λ t=>
cond t ((pR F a.1.2.1 b.1.2.1).bind λ u=>
some ((u,()),())) (
some ((false,()),()))) (
(Cy F (aV.mk a.1.1.1 a.1.1.2.1 a.1.1.2.2.1 a.1.1.2.2.2.1 a.1.1.2.2.2.2.1 a.1.1.2.2.2.2.2.1 a.1.1.2.2.2.2.2.2.1)
 a.1.2.2.1 d (aV.mk [] 0 0 0 0 [] 0)).bind λ v=>
cond v ((pR F a.1.2.1 []).bind λ w=>
some ((w,()),())) (
some ((false,()),()))))) (
cond (decide (d=0)) ((TD F i e f g h j k l m n o p q).bind λ c=>
(Cy F (aV.mk a.1.1.1 a.1.1.2.1 a.1.1.2.2.1 a.1.1.2.2.2.1 a.1.1.2.2.2.2.1 a.1.1.2.2.2.2.2.1 a.1.1.2.2.2.2.2.2.1)
 a.1.2.2.1 d
 (aV.mk c.1.1.1 c.1.1.2.1 c.1.1.2.2.1 c.1.1.2.2.2.1 c.1.1.2.2.2.2.1 c.1.1.2.2.2.2.2.1 c.1.1.2.2.2.2.2.2.1)).bind λ x=>
cond x ((pR F a.1.2.1 c.1.2.1).bind λ y=>
some ((y,()),())) (
some ((false,()),()))) (
(Cy F (aV.mk a.1.1.1 a.1.1.2.1 a.1.1.2.2.1 a.1.1.2.2.2.1 a.1.1.2.2.2.2.1 a.1.1.2.2.2.2.2.1 a.1.1.2.2.2.2.2.2.1)
 a.1.2.2.1 d (aV.mk [] 0 0 0 0 [] 0)).bind λ z=>
cond z ((pR F a.1.2.1 []).bind λ A=>
some ((A,()),())) (
some ((false,()),()))))
@[reducible] def aPK(F:Nat):eA bs:=⟨[LA,Zm,nj],[],[nk],[],λ d=>auQ F d.1.1.1 d.1.1.2.1 d.1.1.2.2.1 d.1.1.2.2.2.1 d.1.1.2.2.2.2.1 d.1.1.2.2.2.2.2.1 d.1.1.2.2.2.2.2.2.1 d.1.2.1.1 d.1.2.1.2.1 d.1.2.1.2.2.1 d.1.2.1.2.2.2.1 d.1.2.1.2.2.2.2.1 d.1.2.2.1⟩
set_option maxRecDepth 100000
@[reducible] def aPS:bK:=.c 24 [.l 3,nl,nl,nl,nl,.l 3,nl]
@[reducible] def aGj:cM:=.a [.l 3,nl,nl,nl,nl,.l 3,nl]
@[reducible] def aPT:bK:=.c 30 [.l 134,.l 3,.l 124,.l 120,.l 121]
@[reducible] def aGk:cM:=.a [.l 134,.l 3,.l 124,.l 120,.l 121]
abbrev adr:=(List aq×List Int×List (List I.Field)×List (List (List UInt8))×List (List I.Target)×Unit)
abbrev ads:=(List Int×Int×Int×Int×Int×List Int×Int×Unit)
def zi(F:Nat)(b:Int)(a:List Int):Option ((Int×Unit)×(Unit×Unit)×List Int×Unit):=cond (decide (b=0)) (some ((0,()),((),()),a,())) (
(zx F a b).bind λ c=>
cond (decide (c.1.1<0)) ((bI 8 a [b]).bind λ d=>
some (((aw (aw ((↑d.length:Int)-1)+1)),()),((),()),d,())) (
some (((aw (c.1.1+1)),()),((),()),a,())))
def Cz(F:Nat):Nat->(List Int)->(Int)->(List Int)->(Int)->(Int)->(Int)->(Int)->(List Int)->(Int)->(List aq)->(List Int)->(List (List I.Field))->(List (List (List UInt8)))->(List (List I.Target))->(List Int)->(List Int)->Option ((Unit×Unit×Unit×Unit×(Unit×Unit)×Unit)×
 ads×adr×(Unit×Unit)×List Int×List Int×Unit)
 |0,_,_,_,_,_,_,_,_,_,_,_,_,_,_,_,_=>none
 |aT+1,a,b,c,d,e,f,g,h,i,j,k,l,m,n,o,p=>cond (decide (b<(↑a.length:Int))) ((idx a b).bind λ r=>
(zi F r o).bind λ q=>
(bI 8 p [q.1.1]).bind λ s=>
Cz F aT a (aw (b+1)) c d e f g h i j k l m n q.2.2.1 s) (
some (((),(),(),(),((),()),()),(c,d,e,f,g,h,i,()),(j,k,l,m,n,()),((),()),o,p,()))
def zj(F:Nat):Nat->(Int)->(Int)->(Int)->(List Int)->(Int)->(Int)->(Int)->(Int)->(List Int)->(Int)->(List aq)->(List Int)->(List (List I.Field))->(List (List (List UInt8)))->(List (List I.Target))->(List Int)->(List Int)->Option ((Unit×Unit×Unit×Unit×(Unit×Unit)×Int×Unit)×
 ads×adr×(Unit×Unit)×List Int×List Int×Unit)
 |0,_,_,_,_,_,_,_,_,_,_,_,_,_,_,_,_,_=>none
 |aT+1,i,b,c,a,j,k,l,m,n,o,d,e,f,g,h,p,q=>(idx a (aw (b+1))).bind λ t=>
cond (decide (c<t)) ((idx a (aw (aw (b+3)+c))).bind λ r=>
(idx a b).bind λ u=>
(uK (aP.mk d e f g h) u c).bind λ v=>
cond v ((zi F r p).bind λ s=>
(bI 8 q [s.1.1]).bind λ w=>
zj F aT i b (aw (c+1)) a j k l m n o d e f g h s.2.2.1 w) (
(bI 8 q [r]).bind λ x=>
zj F aT i b (aw (c+1)) a j k l m n o d e f g h p x)) (
some (((),(),(),(),((),()),i,()),(a,j,k,l,m,n,o,()),(d,e,f,g,h,()),((),()),p,q,()))
def uz(F:Nat):Nat->(Int)->(List Int)->(Int)->(Int)->(Int)->(Int)->(List Int)->(Int)->(List aq)->(List Int)->(List (List I.Field))->(List (List (List UInt8)))->(List (List I.Target))->(List Int)->(List Int)->Option ((Unit×Unit)×ads×adr×(Unit×Unit)×List Int×List Int×Unit)
 |0,_,_,_,_,_,_,_,_,_,_,_,_,_,_,_=>none
 |aT+1,B2,b,Fs,e,f,B3,g,h,i,B4,j,Fz,k,c,l=>cond (decide (B2<(↑c.length:Int))) ((idx c B2).bind λ d=>
(idx b d).bind λ m=>
(idx b (aw (d+1))).bind λ n=>
(idx b (aw (d+2))).bind λ o=>
(bI 8 l [m,n,o]).bind λ p=>
(zj F F B2 d 0 b Fs e f B3 g h i B4 j Fz k c p).bind λ a=>
uz F aT (aw (a.1.2.2.2.2.2.1+1)) a.2.1.1 a.2.1.2.1 a.2.1.2.2.1 a.2.1.2.2.2.1 a.2.1.2.2.2.2.1 a.2.1.2.2.2.2.2.1 a.2.1.2.2.2.2.2.2.1 a.2.2.1.1 a.2.2.1.2.1 a.2.2.1.2.2.1 a.2.2.1.2.2.2.1 a.2.2.1.2.2.2.2.1 a.2.2.2.2.1 a.2.2.2.2.2.1) (
some (((),()),(b,Fs,e,f,B3,g,h,()),(i,B4,j,Fz,k,()),((),()),c,l,()))
def zh(F:Nat)(b:List Int)(c:Int)(d:Int)(e:Int)(f:Int)(g:List Int)(h:Int)(i:List aq)(j:List Int)(k:List (List I.Field))(l:List (List (List UInt8)))(m:List (List I.Target))(n:List Int):Option ((List Int×Unit)×Unit):=(Cz F F n 0 b c d e f g h i j k l m [] []).bind λ a=>
(uz F F 0 a.2.1.1 a.2.1.2.1 a.2.1.2.2.1 a.2.1.2.2.2.1 a.2.1.2.2.2.2.1 a.2.1.2.2.2.2.2.1 a.2.1.2.2.2.2.2.2.1 a.2.2.1.1
 a.2.2.1.2.1 a.2.2.1.2.2.1 a.2.2.1.2.2.2.1 a.2.2.1.2.2.2.2.1 a.2.2.2.2.1 a.2.2.2.2.2.1).bind λ o=>
some ((o.2.2.2.2.2.1,()),())
def F3(F:Nat)(q:List Int)(r:Int)(s:Int)(t:Int)(B5:Int)(u:List Int)(v:Int)(a:List aq)(sc:List Int)(b:List (List I.Field))(c:List (List (List UInt8)))(d:List (List I.Target))(p:List Int)(e:List Int)(f:Int)(g:Int)(FD:Int)(h:Int)(i:List Int)(j:Int)(k:List Int):Option ((Bool×Unit)×Unit):=(zw F (aV.mk e f g FD h i j) (aP.mk a sc b c d)).bind λ l=>
cond (decide (l=0)) ((zu F (aV.mk e f g FD h i j) (aP.mk a sc b c d) k).bind λ m=>
cond (decide (m=0)&&decide ((↑p.length:Int)=(↑k.length:Int))) ((zh F q r s t B5 u v a sc b c d p).bind λ n=>
(zh F e f g FD h i j a sc b c d k).bind λ o=>
(pR F n.1.1 o.1.1).bind λ w=>
some ((w,()),())) (
some ((false,()),()))) (
some ((false,()),()))
def auR(F:Nat)(g:List Int)(h:Int)(i:Int)(j:Int)(k:Int)(l:List Int)(b:Int)(c:List aq)(d:List Int)(e:List (List I.Field))(f:List (List (List UInt8)))(m:List (List I.Target))(n:List Int):Option ((Bool×Unit)×Unit):=(adv F g h i j k l b c d e f m n).bind λ a=>
cond (!decide (a.1.2.2.1=0)) (some (((decide ((↑(h8 a.1.2.1):Int)=0)),()),())) (
(F3 F g h i j k l b c d e f m n a.1.1.1 a.1.1.2.1 a.1.1.2.2.1 a.1.1.2.2.2.1 a.1.1.2.2.2.2.1 a.1.1.2.2.2.2.2.1
 a.1.1.2.2.2.2.2.2.1 a.1.2.1).bind λ o=>
some (((o.1.1&&decide (a.1.1.2.2.2.1=1)&&decide ((↑(h8 a.1.1.2.2.2.2.2.1):Int)=0)&&decide (a.1.1.2.2.2.2.2.2.1=b)),()),()))
@[reducible] def aPL(F:Nat):eA bs:=⟨[aGj,aGk,nj],[],[nk],[],λ d=>auR F d.1.1.1 d.1.1.2.1 d.1.1.2.2.1 d.1.1.2.2.2.1 d.1.1.2.2.2.2.1 d.1.1.2.2.2.2.2.1 d.1.1.2.2.2.2.2.2.1 d.1.2.1.1 d.1.2.1.2.1 d.1.2.1.2.2.1 d.1.2.1.2.2.2.1 d.1.2.1.2.2.2.2.1 d.1.2.2.1⟩
set_option maxRecDepth 100000
@[reducible] def HQ:bK:=.c 24 [.l 3,nl,nl,nl,nl,.l 3,nl]
@[reducible] def Zn:cM:=.a [.l 3,nl,nl,nl,nl,.l 3,nl]
@[reducible] def HR:bK:=.c 30 [.l 134,.l 3,.l 124,.l 120,.l 121]
@[reducible] def ak0:cM:=.a [.l 134,.l 3,.l 124,.l 120,.l 121]
def as3(F:Nat):aS aI:=(as2 F).fn 88 ⟨[ni,.p (.B 0)],[.c 22 [.R 1],.r 3 false],[ni],[.c 22 [.R 1],.r 3 false],λ d=>zi F d.1.1 d.2.2.1⟩ λ da db=>by kernel_rfl
def as4(F:Nat):aS aI:=(as3 F).gx 52 0 F ⟨[2,3,4,7,8,9,10],[nj,.p (.B 0),.p (.B 1),.p (.B 2),.p (.R 4),.f 88 [.B 2],ni],[HQ,HR,.c 22 [.R 3],.r 3 false,.r 3 false],[⟨.nm,[3,4,7,8,9],[.p (.B 0),.p (.B 1),.p (.B 2),.p (.R 4),.f 88 [.B 2]],[HQ,HR,.c 22 [.R 3],.r 3 false,.r 3 false]⟩],λ k d=>Cz F k d.1.1 d.1.2.2.2.2.2.2.1 d.2.1.1 d.2.1.2.1 d.2.1.2.2.1 d.2.1.2.2.2.1 d.2.1.2.2.2.2.1 d.2.1.2.2.2.2.2.1 d.2.1.2.2.2.2.2.2.1 d.2.2.1.1 d.2.2.1.2.1 d.2.2.1.2.2.1 d.2.2.1.2.2.2.1 d.2.2.1.2.2.2.2.1 d.2.2.2.2.1 d.2.2.2.2.2.1⟩ ⟨λ d=>by kernel_rfl,λ k da db=>by kernel_rfl⟩
def as5(F:Nat):aS aI:=(as4 F).gx 52 4 F ⟨[3,4,7,8,9,11,12,13],[.p (.B 0),.p (.B 1),.p (.B 2),.p (.R 4),.f 88 [.B 2],ni,ni,ni],[HQ,HR,.c 22 [.R 3],.r 3 false,.r 3 false],[⟨.nm,[3,4,7,8,9,11],[.p (.B 0),.p (.B 1),.p (.B 2),.p (.R 4),.f 88 [.B 2],ni],[HQ,HR,.c 22 [.R 3],.r 3 false,.r 3 false]⟩],λ k d=>zj F k d.1.2.2.2.2.2.1 d.1.2.2.2.2.2.2.1 d.1.2.2.2.2.2.2.2.1 d.2.1.1 d.2.1.2.1 d.2.1.2.2.1 d.2.1.2.2.2.1 d.2.1.2.2.2.2.1 d.2.1.2.2.2.2.2.1 d.2.1.2.2.2.2.2.2.1 d.2.2.1.1 d.2.2.1.2.1 d.2.2.1.2.2.1 d.2.2.1.2.2.2.1 d.2.2.1.2.2.2.2.1 d.2.2.2.2.1 d.2.2.2.2.2.1⟩ ⟨λ d=>by kernel_rfl,λ k da db=>by kernel_rfl⟩
def as6(F:Nat):aS aI:=(as5 F).gx 52 2 F ⟨[3,4,7,8,9,11],[.p (.B 0),.p (.B 1),.p (.B 2),.p (.R 4),.f 88 [.B 2],ni],[HQ,HR,.c 22 [.R 3],.r 3 false,.r 3 false],[⟨.nm,[8],[.p (.R 4)],[HQ,HR,.c 22 [.R 3],.r 3 false,.r 3 false]⟩],λ k d=>uz F k d.1.2.2.2.2.2.1 d.2.1.1 d.2.1.2.1 d.2.1.2.2.1 d.2.1.2.2.2.1 d.2.1.2.2.2.2.1 d.2.1.2.2.2.2.2.1 d.2.1.2.2.2.2.2.2.1 d.2.2.1.1 d.2.2.1.2.1 d.2.2.1.2.2.1 d.2.2.1.2.2.2.1 d.2.2.1.2.2.2.2.1 d.2.2.2.2.1 d.2.2.2.2.2.1⟩ ⟨λ d=>by kernel_rfl,λ k da db=>by kernel_rfl⟩
def as7(F:Nat):aS aI:=(as6 F).fn 52 ⟨[Zn,ak0,nj],[],[nj],[],λ d=>zh F d.1.1.1 d.1.1.2.1 d.1.1.2.2.1 d.1.1.2.2.2.1 d.1.1.2.2.2.2.1 d.1.1.2.2.2.2.2.1 d.1.1.2.2.2.2.2.2.1 d.1.2.1.1 d.1.2.1.2.1 d.1.2.1.2.2.1 d.1.2.1.2.2.2.1 d.1.2.1.2.2.2.2.1 d.1.2.2.1⟩ λ da db=>by kernel_rfl
def as9(F:Nat):aS aI:=(as7 F).fn 21 ⟨[Zn,ak0,nj,Zn,nj],[],[nk],[],λ d=>F3 F d.1.1.1 d.1.1.2.1 d.1.1.2.2.1 d.1.1.2.2.2.1 d.1.1.2.2.2.2.1 d.1.1.2.2.2.2.2.1 d.1.1.2.2.2.2.2.2.1 d.1.2.1.1 d.1.2.1.2.1 d.1.2.1.2.2.1 d.1.2.1.2.2.2.1 d.1.2.1.2.2.2.2.1 d.1.2.2.1 d.1.2.2.2.1.1 d.1.2.2.2.1.2.1 d.1.2.2.2.1.2.2.1 d.1.2.2.2.1.2.2.2.1 d.1.2.2.2.1.2.2.2.2.1 d.1.2.2.2.1.2.2.2.2.2.1 d.1.2.2.2.1.2.2.2.2.2.2.1 d.1.2.2.2.2.1⟩ λ da db=>by kernel_rfl
end Go.Proofs.YteeliipnilghaaaGreat
