/- Part 5 of the proof that is ended in the last text: small logic, what the functions compute, walks, plain laws. -/
import Derived.Test.YteeliipnilghaaaGreatGc4
open Int renaming le_refl->kj
open List renaming length->h4,length_pos_iff->kV,mem_append->b3,mem_singleton->dK,replicate->eH,take->lu
open Nat renaming mul_one->js,zero_add->ji,zero_le->gD
open Option renaming map->dh,map_eq_some_iff->cd,some.injEq->aD
namespace Go.Proofs.YteeliipnilghaaaGreat
open Go Go.RowKit aq I a8
set_option maxRecDepth 100000
@[reducible] def G'{α:Type}(x:List UInt8×List UInt8×List I.Field×List I.Method×α):I.ak:=⟨x.1,x.2.1,x.2.2.1,x.2.2.2.1⟩
@[reducible] def dJ{α:Type}(x:List Int×Int×Int×Int×Int×List Int×Int×α):I.aR:=⟨x.1,x.2.1,x.2.2.1,x.2.2.2.1,x.2.2.2.2.1,x.2.2.2.2.2.1,x.2.2.2.2.2.2.1⟩
@[reducible] def Lb{α:Type}(x:Int×List UInt8×α):I.Kind:=⟨x.1,x.2.1⟩
@[reducible] def e8{α:Type}(x:List I.ak×List Int×List (List I.Field)×List (List (List UInt8))×List (List I.Target)×α):I.aP:=⟨x.1,x.2.1,x.2.2.1,x.2.2.2.1,x.2.2.2.2.1⟩
@[reducible] def uO{α:Type}(x:List UInt8×Bool×List I.Kind×Int×List UInt8×Int×Int×List UInt8×List I.Handler×α):I.Method:=⟨x.1,x.2.1,x.2.2.1,⟨x.2.2.2.1,x.2.2.2.2.1⟩,x.2.2.2.2.2.1,x.2.2.2.2.2.2.1,x.2.2.2.2.2.2.2.1,x.2.2.2.2.2.2.2.2.1⟩
@[reducible] def gP{α:Type}(x:List I.ak×List Int×List (List I.Field)×List (List (List UInt8))×List (List I.Target)×α):I.b4:=⟨⟨x.1,x.2.1,x.2.2.1,x.2.2.2.1,x.2.2.2.2.1⟩⟩
@[reducible] def fC:bF:=.c 72 [.l 3,.i .i64,.i .i64,.i .i64,.i .i64,.l 3,.i .i64,.l 134,.l 3,.l 124,.l 120,.l 121,.l 3,.l 3,.M 1]
@[reducible] def h_:bF:=.c 72 [.l 3,.i .i64,.i .i64,.i .i64,.i .i64,.l 3,.i .i64,.l 134,.l 3,.l 124,.l 120,.l 121,.l 3,.l 3,.M 2]
@[reducible] def mc:bF:=.c 131 [.s,.b,.l 128,.i .i64,.s,.i .i64,.i .i64,.s,.l 157]
@[reducible] def aiN:bF:=.c 24 [.R 1,.i .i64,.i .i64,.i .i64,.i .i64,.l 3,.i .i64]
@[reducible] def iK:bF:=.c 24 [.l 3,.i .i64,.i .i64,.i .i64,.i .i64,.l 3,.i .i64]
@[reducible] def Pw:cD:=.a [.s,.b,.l 128,.i .i64,.s,.i .i64,.i .i64,.s,.l 157]
@[reducible] def jg:cD:=.a [.l 3,.i .i64,.i .i64,.i .i64,.i .i64,.l 3,.i .i64]
@[reducible] def dI:bF:=.c 30 [.l 134,.l 3,.l 124,.l 120,.l 121]
@[reducible] def hz:cD:=.a [.l 134,.l 3,.l 124,.l 120,.l 121]
@[reducible] def aiO:bF:=.c 30 [.l 134,.l 3,.R 4,.R 5,.R 6]
@[reducible] def aiK:bF:=.c 30 [.l 134,.R 2,.R 3,.R 4,.R 5]
@[reducible] def ia:bF:=.c 134 [.s,.s,.l 136,.l 131]
@[reducible] def aiL:bF:=.c 134 [.s,.s,.R 2,.R 3]
@[reducible] def kN:bF:=.c 117 [.l 134,.M 1,.R 2]
@[reducible] def ek:bF:=.c 117 [.l 134,.M 1,.l 3]
@[reducible] def aiM:bF:=.c 117 [.l 134,.M 2,.l 3]
noncomputable def ar8(F:Nat):aN aB:=⟨Mb F,λ _=>asQ F,rfl⟩
noncomputable def Uk(k:Nat)(a:List UInt8)(b:Int)(e2:Int):=c7 ((a.length:Int)=e2/\True) (bb (Dg a k b))
theorem Yl(k:Nat)(a:List UInt8)(b:Int):bb (Dg a k b)=Uk k a b (a.length:Int):=(dv ⟨rfl,trivial⟩).symm
noncomputable def an9(F:Nat):aN aB:=(ar8 F).bU 140 0 F ⟨[0,6,7,8],[.p (.s),.p (.l 5),.p (.i .i64),.p (.i .i64)],[],
 [⟨⟨.nm,[0],[.p (.s)],[]⟩,Unit,λ d r=>((d.1.1,()),())⟩,
  ⟨⟨.rt,[2],[.p (.b)],[]⟩,Bool,λ d r=>((r,()),())⟩],
 λ k d=>Uk k d.1.2.1 d.1.2.2.2.1 d.1.2.2.1⟩ (bI.bR (λ d=>du) λ k da db q h=>by
 obtain⟨(v0:List UInt8),(v1:List UInt8),(b:Int),(v3:Int),_⟩:=da
 obtain⟨a,_⟩:=dV h
 dsimp only at a
 obtain⟨rfl,_⟩:=a
 conv=>rhs;change dh (α:=Unit⊕Bool) _ (Uk (k+1) v1 v3 (v1.length:Int));rw[<-Yl (k+1) v1 v3];simp only[Dg,a6,Yl];simp only[bQ]
 kernel_rfl)
noncomputable def ab9(F:Nat):aN aB:=(an9 F).rt 140 ⟨[.p (.s)],[],[.p (.b)],[],Bool,λ d=>n9 F d.1.1,λ d r=>((r,()),())⟩ λ da db=>by
 obtain⟨(v0:List UInt8),_⟩:=da;conv=>rhs;simp only[n9,a6,Yl]
 kernel_rfl
noncomputable def aqT(F:Nat):aN aB:=(ab9 F).rt 162 ⟨[.p (.i .i64)],[],[.p (.b)],[],Bool,λ d=>Oc d.1.1,λ d r=>((r,()),())⟩ λ da db=>by
 conv=>rhs;simp only[Oc,a6]
 kernel_rfl
noncomputable def aq4(F:Nat):aN aB:=(aqT F).rt 141 ⟨[.a [.i .i64,.s]],[],[.p (.b)],[],Bool,λ d=>wY F (Lb d.1.1),λ d r=>((r,()),())⟩ λ da db=>by
 conv=>rhs;simp only[wY,a6]
 kernel_rfl
noncomputable def ard(F:Nat):aN aB:=(aq4 F).rt 163 ⟨[.p (.i .i64),.p (.i .i64),.p (.i .i64)],[],[.p (.b)],[],Bool,λ d=>mM d.1.1 d.1.2.1 d.1.2.2.1,λ d r=>((r,()),())⟩ λ da db=>by
 conv=>rhs;simp only[mM,a6]
 kernel_rfl
noncomputable def Ul(F:Nat)(k:Nat)(a:I.Method)(b:Int)(e1:Int)(e5:List I.Kind):=c7 ((a.cr.length:Int)=e1/\(a.cr:List I.Kind)=e5/\True) (bb (zD F a k b))
theorem Ym(F:Nat)(k:Nat)(a:I.Method)(b:Int):bb (zD F a k b)=Ul F k a b (a.cr.length:Int) a.cr:=(dv ⟨rfl,rfl,trivial⟩).symm
noncomputable def arq(F:Nat):aN aB:=(ard F).bU 142 1 F ⟨[1,41,42,43],[.p (.B 0),.p (.l 128),.p (.i .i64),.p (.i .i64)],[mc],
 [⟨⟨.nm,[1],[.p (.B 0)],[mc]⟩,Unit,λ d r=>(((),()),(d.2.1,()))⟩,
  ⟨⟨.rt,[2],[.p (.i .i64)],[.d]⟩,Int,λ d r=>((r,()),((),()))⟩],
 λ k d=>Ul F k (⟨d.2.1.1,d.2.1.2.1,d.1.2.1,(Lb d.2.1.2.2.2),d.2.1.2.2.2.2.2.1,d.2.1.2.2.2.2.2.2.1,d.2.1.2.2.2.2.2.2.2.1,d.2.1.2.2.2.2.2.2.2.2.1⟩:I.Method) d.1.2.2.2.1 d.1.2.2.1 d.2.1.2.2.1⟩ (bI.bR (λ d=>du) λ k da db q h=>by
 obtain⟨_,(v0:List I.Kind),(v1:Int),(c:Int),_⟩:=da
 obtain⟨⟨(v3:List UInt8),(v4:Bool),(v5:List I.Kind),(e:Int),(f:List UInt8),(g:Int),(v9:Int),(a:List UInt8),(b:List I.Handler),_⟩,_⟩:=db
 obtain⟨i,_⟩:=dV h
 dsimp only at i
 obtain⟨rfl,rfl,_⟩:=i
 conv=>rhs;change dh (α:=Unit⊕Int) _ (Ul F (k+1) (⟨v3,v4,v0,(⟨e,f⟩:I.Kind),g,v9,a,b⟩:I.Method) c (v0.length:Int) (v0));rw[<-Ym F (k+1) (⟨v3,v4,v0,(⟨e,f⟩:I.Kind),g,v9,a,b⟩:I.Method) c];simp only[zD,a6,Ym];simp only[bQ]
 kernel_rfl)
noncomputable def Nx(F:Nat)(k:Nat)(a:I.Method)(b:Int)(e1:Int):=c7 ((a.cy.length:Int)=e1/\True) (bb (r6 F a k b))
theorem PP(F:Nat)(k:Nat)(a:I.Method)(b:Int):bb (r6 F a k b)=Nx F k (⟨[],false,[],(⟨0,[]⟩:I.Kind),0,0,[],a.cy⟩:I.Method) b (a.cy.length:Int):=(show bb (r6 F a k b)=bb (r6 F (⟨[],false,[],(⟨0,[]⟩:I.Kind),0,0,[],a.cy⟩:I.Method) k b) by kernel_rfl).trans (dv ⟨rfl,trivial⟩).symm
theorem aDV(F:Nat)(k:Nat)(a:I.Method)(b:Int):bb (Dk F a k b)=Nx F k (⟨[],false,[],(⟨0,[]⟩:I.Kind),0,0,[],a.cy⟩:I.Method) b (a.cy.length:Int):=(show bb (Dk F a k b)=bb (r6 F a k b) by kernel_rfl).trans (PP F k a b)
noncomputable def arB(F:Nat):aN aB:=(arq F).bU 142 3 F ⟨[62,63,64],[.p (.l 157),.p (.i .i64),.p (.i .i64)],[],
 [⟨⟨.nm,[],[],[]⟩,Unit,λ d r=>((),())⟩,
  ⟨⟨.rt,[2],[.p (.i .i64)],[]⟩,Int,λ d r=>((r,()),())⟩],
 λ k d=>Nx F k (⟨[],false,[],(⟨0,[]⟩:I.Kind),0,0,[],d.1.1⟩:I.Method) d.1.2.2.1 d.1.2.1⟩ (bI.bR (λ d=>du) λ k da db q h=>by
 obtain⟨(v0:List I.Handler),(v1:Int),(a:Int),_⟩:=da
 obtain⟨b,_⟩:=dV h
 dsimp only at b
 obtain⟨rfl,_⟩:=b
 conv=>rhs;change dh (α:=Unit⊕Int) _ (Nx F (k+1) (⟨[],false,[],(⟨0,[]⟩:I.Kind),0,0,[],v0⟩:I.Method) a (v0.length:Int));rw[<-PP F (k+1) (⟨[],false,[],(⟨0,[]⟩:I.Kind),0,0,[],v0⟩:I.Method) a];simp only[r6,a6,PP];simp only[bQ]
 kernel_rfl)
noncomputable def arM(F:Nat):aN aB:=(arB F).rt 142 ⟨[Pw],[],[.p (.i .i64)],[],Int,λ d=>Dj F (uO d.1.1),λ d r=>((r,()),())⟩ λ da db=>by
 obtain⟨⟨(v0:List UInt8),(v1:Bool),(a:List I.Kind),(v3:Int),(v4:List UInt8),(v5:Int),(b:Int),(c:List UInt8),(e:List I.Handler),_⟩,_⟩:=da;conv=>rhs;simp only[Dj,a6,Ym,PP,aDV]
 kernel_rfl
noncomputable def Nv(F:Nat)(k:Nat)(c_:I.ak)(a:Int)(e1:Int)(e5:List I.Field):=c7 ((c_.Fields.length:Int)=e1/\(c_.Fields:List I.Field)=e5/\True) (bb (wX F c_ k a))
theorem PN(F:Nat)(k:Nat)(c_:I.ak)(a:Int):bb (wX F c_ k a)=Nv F k c_ a (c_.Fields.length:Int) c_.Fields:=(dv ⟨rfl,rfl,trivial⟩).symm
theorem aDT(F:Nat)(k:Nat)(c_:I.ak)(a:Int):bb (Dh F c_ k a)=Nv F k c_ a (c_.Fields.length:Int) c_.Fields:=(show bb (Dh F c_ k a)=bb (wX F c_ k a) by kernel_rfl).trans (PN F k c_ a)
noncomputable def arX(F:Nat):aN aB:=(arM F).bU 107 1 F ⟨[1,36,37,38],[.p (.B 0),.p (.l 136),.p (.i .i64),.p (.i .i64)],[ia],
 [⟨⟨.nm,[1],[.p (.B 0)],[ia]⟩,Unit,λ d r=>(((),()),(d.2.1,()))⟩,
  ⟨⟨.rt,[2],[.p (.i .i64)],[.d]⟩,Int,λ d r=>((r,()),((),()))⟩],
 λ k d=>Nv F k (⟨d.2.1.1,d.2.1.2.1,d.1.2.1,d.2.1.2.2.2.1⟩:I.ak) d.1.2.2.2.1 d.1.2.2.1 d.2.1.2.2.1⟩ (bI.bR (λ d=>du) λ k da db q h=>by
 obtain⟨_,(v0:List I.Field),(v1:Int),(a:Int),_⟩:=da
 obtain⟨⟨(v3:List UInt8),(v4:List UInt8),(v5:List I.Field),(b:List I.Method),_⟩,_⟩:=db
 obtain⟨c,_⟩:=dV h
 dsimp only at c
 obtain⟨rfl,rfl,_⟩:=c
 conv=>rhs;change dh (α:=Unit⊕Int) _ (Nv F (k+1) (⟨v3,v4,v0,b⟩:I.ak) a (v0.length:Int) (v0));rw[<-PN F (k+1) (⟨v3,v4,v0,b⟩:I.ak) a];simp only[wX,a6,PN];simp only[bQ]
 kernel_rfl)
noncomputable def Nw(F:Nat)(k:Nat)(c_:I.ak)(a:Int)(e1:Int):=c7 ((c_.bf.length:Int)=e1/\True) (bb (r5 F c_ k a))
theorem PO(F:Nat)(k:Nat)(c_:I.ak)(a:Int):bb (r5 F c_ k a)=Nw F k (⟨[],[],[],c_.bf⟩:I.ak) a (c_.bf.length:Int):=(show bb (r5 F c_ k a)=bb (r5 F (⟨[],[],[],c_.bf⟩:I.ak) k a) by kernel_rfl).trans (dv ⟨rfl,trivial⟩).symm
theorem aDU(F:Nat)(k:Nat)(c_:I.ak)(a:Int):bb (Di F c_ k a)=Nw F k (⟨[],[],[],c_.bf⟩:I.ak) a (c_.bf.length:Int):=(show bb (Di F c_ k a)=bb (r5 F c_ k a) by kernel_rfl).trans (PO F k c_ a)
noncomputable def an_(F:Nat):aN aB:=(arX F).bU 107 4 F ⟨[54,55,56],[.p (.l 131),.p (.i .i64),.p (.i .i64)],[],
 [⟨⟨.nm,[],[],[]⟩,Unit,λ d r=>((),())⟩,
  ⟨⟨.rt,[2],[.p (.i .i64)],[]⟩,Int,λ d r=>((r,()),())⟩],
 λ k d=>Nw F k (⟨[],[],[],d.1.1⟩:I.ak) d.1.2.2.1 d.1.2.1⟩ (bI.bR (λ d=>du) λ k da db q h=>by
 obtain⟨(v0:List I.Method),(v1:Int),(a:Int),_⟩:=da
 obtain⟨b,_⟩:=dV h
 dsimp only at b
 obtain⟨rfl,_⟩:=b
 conv=>rhs;change dh (α:=Unit⊕Int) _ (Nw F (k+1) (⟨[],[],[],v0⟩:I.ak) a (v0.length:Int));rw[<-PO F (k+1) (⟨[],[],[],v0⟩:I.ak) a];simp only[r5,a6,PO];simp only[bQ]
 kernel_rfl)
noncomputable def aoj(F:Nat):aN aB:=(an_ F).rt 107 ⟨[.a [.s,.s,.l 136,.l 131]],[],[.p (.i .i64)],[],Int,λ d=>JM F (G' d.1.1),λ d r=>((r,()),())⟩ λ da db=>by
 obtain⟨⟨(v0:List UInt8),(v1:List UInt8),(a:List I.Field),(v3:List I.Method),_⟩,_⟩:=da;conv=>rhs;simp only[JM,a6,PN,aDT,PO,aDU]
 kernel_rfl
noncomputable def Uj(F:Nat)(k:Nat)(a:List I.ak)(b:Int)(e1:Int):=c7 ((a.length:Int)=e1/\True) (bb (zC F a k b))
theorem Yk(F:Nat)(k:Nat)(a:List I.ak)(b:Int):bb (zC F a k b)=Uj F k a b (a.length:Int):=(dv ⟨rfl,trivial⟩).symm
noncomputable def aou(F:Nat):aN aB:=(aoj F).bU 74 0 F ⟨[9,10,11],[.p (.l 134),.p (.i .i64),.p (.i .i64)],[],
 [⟨⟨.nm,[],[],[]⟩,Unit,λ d r=>((),())⟩,
  ⟨⟨.rt,[2],[.p (.i .i64)],[]⟩,Int,λ d r=>((r,()),())⟩],
 λ k d=>Uj F k d.1.1 d.1.2.2.1 d.1.2.1⟩ (bI.bR (λ d=>du) λ k da db q h=>by
 obtain⟨(v0:List I.ak),(v1:Int),(a:Int),_⟩:=da
 obtain⟨b,_⟩:=dV h
 dsimp only at b
 obtain⟨rfl,_⟩:=b
 conv=>rhs;change dh (α:=Unit⊕Int) _ (Uj F (k+1) v0 a (v0.length:Int));rw[<-Yk F (k+1) v0 a];simp only[zC,a6,Yk];simp only[bQ]
 kernel_rfl)
noncomputable def aoF(F:Nat):aN aB:=(aou F).rt 74 ⟨[.p (.l 134)],[],[.p (.i .i64)],[],Int,λ d=>JL F d.1.1,λ d r=>((r,()),())⟩ λ da db=>by
 obtain⟨(v0:List I.ak),_⟩:=da;conv=>rhs;simp only[JL,a6,Yk]
 kernel_rfl
noncomputable def aoQ(F:Nat):aN aB:=(aoF F).bU 75 2 F ⟨[3,5,8,9,10,23,24,25],[.p (.R 0),.p (.B 1),.p (.l 134),.p (.i .i64),.p (.i .i64),.p (.R 3),.p (.i .i64),.p (.i .i64)],[.r 134 false,aiL,.r 136 true,.r 131 true],
 [⟨⟨.nm,[3,5,8,9,10],[.p (.R 0),.p (.B 1),.p (.l 134),.p (.i .i64),.p (.i .i64)],[.r 134 false,aiL,.r 136 true,.r 131 true]⟩,List I.Method,λ d r=>(((),(),d.1.2.2.1,d.1.2.2.2.1,d.1.2.2.2.2.1,()),(d.2.1,(d.2.2.1.1,d.2.2.1.2.1,(),(),()),d.2.2.2.1,r,()))⟩],
 λ k d=>ug k d.2.2.2.2.1 d.1.2.2.2.2.2.2.1 d.1.2.2.2.2.2.2.2.1⟩ (bI.bR (λ d=>rfl) λ k da db q h=>by
 obtain⟨_,_,(v0:List I.ak),(v1:Int),(a:Int),_,(v3:Int),(v4:Int),_⟩:=da
 obtain⟨(v5:List I.ak),⟨(b:List UInt8),(c:List UInt8),_,_,_⟩,(e:List I.Field),(v9:List I.Method),_⟩:=db
 conv=>rhs;simp only[ug,a6,ZI,ZJ];simp only[bQ]
 kernel_rfl)
noncomputable def UF(F:Nat)(k:Nat)(a:List I.ak)(b:List I.ak)(c:Int)(e1:Int):=c7 ((a.length:Int)=e1/\True) (si F a k b c)
theorem YG(F:Nat)(k:Nat)(a:List I.ak)(b:List I.ak)(c:Int):si F a k b c=UF F k a b c (a.length:Int):=(dv ⟨rfl,trivial⟩).symm
noncomputable def ao1(F:Nat):aN aB:=(aoQ F).bU 75 0 F ⟨[3,8,9,10],[.p (.R 0),.p (.l 134),.p (.i .i64),.p (.i .i64)],[.r 134 false],
 [⟨⟨.nm,[3],[.p (.R 0)],[.r 134 false]⟩,List I.ak,λ d r=>(((),()),(r,()))⟩],
 λ k d=>UF F k d.1.2.1 d.2.1 d.1.2.2.2.1 d.1.2.2.1⟩ (bI.bR (λ d=>du) λ k da db q h=>by
 obtain⟨_,(v0:List I.ak),(v1:Int),(a:Int),_⟩:=da
 obtain⟨(v3:List I.ak),_⟩:=db
 obtain⟨b,_⟩:=dV h
 dsimp only at b
 obtain⟨rfl,_⟩:=b
 conv=>rhs;change dh (α:=List I.ak) _ (UF F (k+1) v0 v3 a (v0.length:Int));rw[<-YG F (k+1) v0 v3 a];simp only[si,a6,YG,ZH,ZK];simp only[bQ]
 kernel_rfl)
noncomputable def apa(F:Nat):aN aB:=(ao1 F).rt 75 ⟨[.p (.l 134)],[],[.p (.l 134)],[],List I.ak,λ d=>J3 F d.1.1,λ d r=>((r,()),())⟩ λ da db=>by
 obtain⟨(v0:List I.ak),_⟩:=da;conv=>rhs;simp only[J3,a6,YG]
 kernel_rfl
noncomputable def Uv(k:Nat)(a:I.bp)(b:List ((List UInt8)×Int))(c:Int)(e1:Int)(e3:List I.ak):=c7 ((a.l.length:Int)=e1/\(a.l:List I.ak)=e3/\True) (bb (pd a k b c))
theorem Yw(k:Nat)(a:I.bp)(b:List ((List UInt8)×Int))(c:Int):bb (pd a k b c)=Uv k (⟨a.l,[],a.dl⟩:I.bp) b c (a.l.length:Int) a.l:=(show bb (pd a k b c)=bb (pd (⟨a.l,[],a.dl⟩:I.bp) k b c) by kernel_rfl).trans (dv ⟨rfl,rfl,trivial⟩).symm
noncomputable def apl(F:Nat):aN aB:=(apa F).bU 76 0 F ⟨[0,14,15,16],[.p (.B 0),.p (.l 134),.p (.i .i64),.p (.i .i64)],[kN,.m 9 3,.r 3 true],
 [⟨⟨.nm,[0],[.p (.B 0)],[kN,.m 9 3,.r 3 true]⟩,List ((List UInt8)×Int),λ d r=>(((),()),((d.2.1.1,(),(),()),r,d.2.2.2.1,()))⟩,
  ⟨⟨.rt,[2],[.p (.i .i64)],[kN,.m 9 3,.r 3 true]⟩,Int×I.bp,λ d r=>((r.1,()),((d.2.1.1,(),(),()),r.2.bV,d.2.2.2.1,()))⟩],
 λ k d=>Uv k (⟨d.1.2.1,[],d.2.2.2.1⟩:I.bp) d.2.2.1 d.1.2.2.2.1 d.1.2.2.1 d.2.1.1⟩ (bI.bR (λ d=>du) λ k da db q h=>by
 obtain⟨_,(v0:List I.ak),(v1:Int),(a:Int),_⟩:=da
 obtain⟨⟨(v3:List I.ak),_,_,_⟩,(v4:List ((List UInt8)×Int)),(v5:List Int),_⟩:=db
 obtain⟨b,_⟩:=dV h
 dsimp only at b
 obtain⟨rfl,rfl,_⟩:=b
 conv=>rhs;change dh (α:=(List ((List UInt8)×Int))⊕(Int×I.bp)) _ (Uv (k+1) (⟨v0,[],v5⟩:I.bp) v4 a (v0.length:Int) (v0));rw[<-Yw (k+1) (⟨v0,[],v5⟩:I.bp) v4 a];simp only[pd,a6,Yw];simp only[bQ]
 kernel_rfl)
noncomputable def apw(F:Nat):aN aB:=(apl F).rt 76 ⟨[.p (.B 0)],[kN,.m 9 3,.r 3 true],[.p (.i .i64)],[kN,.m 9 3,.r 3 true],Int×I.bp,λ d=>Gn F (⟨d.2.1.1,d.2.2.1,d.2.2.2.1⟩:I.bp),λ d r=>((r.1,()),((d.2.1.1,(),(),()),r.2.bV,d.2.2.2.1,()))⟩ λ da db=>by
 obtain⟨_,_⟩:=da;obtain⟨⟨(v0:List I.ak),_,_,_⟩,(v1:List ((List UInt8)×Int)),(a:List Int),_⟩:=db;conv=>rhs;simp only[Gn,a6,Yw]
 kernel_rfl
noncomputable def Un(k:Nat)(a:I.bp)(b:Int)(e1:Int)(e3:List I.ak):=c7 ((a.l.length:Int)=e1/\(a.l:List I.ak)=e3/\True) (bb (xn a k b))
theorem Yo(k:Nat)(a:I.bp)(b:Int):bb (xn a k b)=Un k a b (a.l.length:Int) a.l:=(dv ⟨rfl,rfl,trivial⟩).symm
noncomputable def apH(F:Nat):aN aB:=(apw F).bU 77 0 F ⟨[0,14,15,16],[.p (.B 0),.p (.l 134),.p (.i .i64),.p (.i .i64)],[kN,.m 9 3,.r 3 true],
 [⟨⟨.nm,[0],[.p (.B 0)],[kN,.m 9 3,.r 3 true]⟩,Unit,λ d r=>(((),()),((d.2.1.1,(),(),()),d.2.2.1,d.2.2.2.1,()))⟩,
  ⟨⟨.rt,[2],[.p (.i .i64)],[kN,.m 9 3,.r 3 true]⟩,Int×I.bp,λ d r=>((r.1,()),((d.2.1.1,(),(),()),d.2.2.1,r.2.dl,()))⟩],
 λ k d=>Un k (⟨d.1.2.1,d.2.2.1,d.2.2.2.1⟩:I.bp) d.1.2.2.2.1 d.1.2.2.1 d.2.1.1⟩ (bI.bR (λ d=>du) λ k da db q h=>by
 obtain⟨_,(v0:List I.ak),(v1:Int),(a:Int),_⟩:=da
 obtain⟨⟨(v3:List I.ak),_,_,_⟩,(v4:List ((List UInt8)×Int)),(v5:List Int),_⟩:=db
 obtain⟨b,_⟩:=dV h
 dsimp only at b
 obtain⟨rfl,rfl,_⟩:=b
 conv=>rhs;change dh (α:=Unit⊕(Int×I.bp)) _ (Un (k+1) (⟨v0,v4,v5⟩:I.bp) a (v0.length:Int) (v0));rw[<-Yo (k+1) (⟨v0,v4,v5⟩:I.bp) a];simp only[xn,a6,Yo];simp only[bQ]
 kernel_rfl)
noncomputable def Uo(k:Nat)(a:I.bp)(b:List Int)(c:Int)(e1:Int)(e3:List I.ak):=c7 ((a.l.length:Int)=e1/\(a.l:List I.ak)=e3/\True) (bb (mT a k b c))
theorem Yp(k:Nat)(a:I.bp)(b:List Int)(c:Int):bb (mT a k b c)=Uo k (⟨a.l,a.bV,[]⟩:I.bp) b c (a.l.length:Int) a.l:=(show bb (mT a k b c)=bb (mT (⟨a.l,a.bV,[]⟩:I.bp) k b c) by kernel_rfl).trans (dv ⟨rfl,rfl,trivial⟩).symm
noncomputable def apS(F:Nat):aN aB:=(apH F).bU 77 2 F ⟨[0,31,32,33],[.p (.B 0),.p (.l 134),.p (.i .i64),.p (.i .i64)],[kN,.m 9 3,.r 3 false],
 [⟨⟨.nm,[0],[.p (.B 0)],[kN,.m 9 3,.r 3 false]⟩,List Int,λ d r=>(((),()),((d.2.1.1,(),(),()),d.2.2.1,r,()))⟩,
  ⟨⟨.rt,[2],[.p (.i .i64)],[kN,.m 9 3,.r 3 false]⟩,Int×I.bp,λ d r=>((r.1,()),((d.2.1.1,(),(),()),d.2.2.1,r.2.dl,()))⟩],
 λ k d=>Uo k (⟨d.1.2.1,d.2.2.1,[]⟩:I.bp) d.2.2.2.1 d.1.2.2.2.1 d.1.2.2.1 d.2.1.1⟩ (bI.bR (λ d=>du) λ k da db q h=>by
 obtain⟨_,(v0:List I.ak),(v1:Int),(a:Int),_⟩:=da
 obtain⟨⟨(v3:List I.ak),_,_,_⟩,(v4:List ((List UInt8)×Int)),(v5:List Int),_⟩:=db
 obtain⟨b,_⟩:=dV h
 dsimp only at b
 obtain⟨rfl,rfl,_⟩:=b
 conv=>rhs;change dh (α:=(List Int)⊕(Int×I.bp)) _ (Uo (k+1) (⟨v0,v4,[]⟩:I.bp) v5 a (v0.length:Int) (v0));rw[<-Yp (k+1) (⟨v0,v4,[]⟩:I.bp) v5 a];simp only[mT,a6,Yp];simp only[bQ]
 kernel_rfl)
noncomputable def Uq(k:Nat)(a:I.bp)(b:List Int)(c:Int)(d:Int)(e1:Int)(e3:Int):=c7 ((a.l.length:Int)=e1/\(a.l.length:Int)=e3/\True) (ud a b k c d)
theorem Yr(k:Nat)(a:I.bp)(b:List Int)(c:Int)(d:Int):ud a b k c d=Uq k (⟨a.l,a.bV,[]⟩:I.bp) b c d (a.l.length:Int) (a.l.length:Int):=(show ud a b k c d=ud (⟨a.l,a.bV,[]⟩:I.bp) b k c d by kernel_rfl).trans (dv ⟨rfl,rfl,trivial⟩).symm
noncomputable def ap2(F:Nat):aN aB:=(apS F).bU 77 7 F ⟨[0,10,69,70,78,79],[.p (.B 0),.p (.i .i64),.p (.i .i64),.p (.i .i64),.p (.i .i64),.p (.i .i64)],[kN,.m 9 3,.r 3 true],
 [⟨⟨.nm,[0,10,69,70],[.p (.B 0),.p (.i .i64),.p (.i .i64),.p (.i .i64)],[kN,.m 9 3,.r 3 true]⟩,Int,λ d r=>(((),r,d.1.2.2.1,d.1.2.2.2.1,()),((d.2.1.1,(),(),()),d.2.2.1,d.2.2.2.1,()))⟩],
 λ k d=>Uq k (⟨d.2.1.1,d.2.2.1,[]⟩:I.bp) d.2.2.2.1 d.1.2.1 d.1.2.2.2.2.2.1 d.1.2.2.1 d.1.2.2.2.2.1⟩ (bI.bR (λ d=>du) λ k da db q h=>by
 obtain⟨_,(v0:Int),(v1:Int),(e:Int),(v3:Int),(v4:Int),_⟩:=da
 obtain⟨⟨(v5:List I.ak),_,_,_⟩,(a:List ((List UInt8)×Int)),(b:List Int),_⟩:=db
 obtain⟨c,_⟩:=dV h
 dsimp only at c
 obtain⟨rfl,rfl,_⟩:=c
 conv=>rhs;change dh (α:=Int) _ (Uq (k+1) (⟨v5,a,[]⟩:I.bp) b v0 v4 (v5.length:Int) (v5.length:Int));rw[<-Yr (k+1) (⟨v5,a,[]⟩:I.bp) b v0 v4];simp only[ud,a6,Yr];simp only[bQ]
 kernel_rfl)
noncomputable def Up(F:Nat)(k:Nat)(a:I.bp)(b:List Int)(c:Int)(d:Int):=c7 ((a.l.length:Int)=d/\True) (bb (sa F a b k c))
theorem Yq(F:Nat)(k:Nat)(a:I.bp)(b:List Int)(c:Int):bb (sa F a b k c)=Up F k (⟨a.l,a.bV,[]⟩:I.bp) b c (a.l.length:Int):=(show bb (sa F a b k c)=bb (sa F (⟨a.l,a.bV,[]⟩:I.bp) b k c) by kernel_rfl).trans (dv ⟨rfl,trivial⟩).symm
noncomputable def aqb(F:Nat):aN aB:=(ap2 F).bU 77 5 F ⟨[0,69,70],[.p (.B 0),.p (.i .i64),.p (.i .i64)],[kN,.m 9 3,.r 3 true],
 [⟨⟨.nm,[],[],[kN,.m 9 3,.r 3 true]⟩,Unit,λ d r=>((),((d.2.1.1,(),(),()),d.2.2.1,d.2.2.2.1,()))⟩,
  ⟨⟨.rt,[2],[.p (.i .i64)],[kN,.m 9 3,.r 3 true]⟩,Int×I.bp,λ d r=>((r.1,()),((d.2.1.1,(),(),()),d.2.2.1,r.2.dl,()))⟩],
 λ k d=>Up F k (⟨d.2.1.1,d.2.2.1,[]⟩:I.bp) d.2.2.2.1 d.1.2.2.1 d.1.2.1⟩ (bI.bR (λ d=>du) λ k da db q h=>by
 obtain⟨_,(v0:Int),(v1:Int),_⟩:=da
 obtain⟨⟨(a:List I.ak),_,_,_⟩,(v3:List ((List UInt8)×Int)),(v4:List Int),_⟩:=db
 obtain⟨b,_⟩:=dV h
 dsimp only at b
 obtain⟨rfl,_⟩:=b
 conv=>rhs;change dh (α:=Unit⊕(Int×I.bp)) _ (Up F (k+1) (⟨a,v3,[]⟩:I.bp) v4 v1 (a.length:Int));rw[<-Yq F (k+1) (⟨a,v3,[]⟩:I.bp) v4 v1];simp only[sa,a6,Yr,Yq];simp only[bQ]
 kernel_rfl)
noncomputable def aqm(F:Nat):aN aB:=(aqb F).rt 77 ⟨[.p (.B 0)],[kN,.m 9 3,.r 3 false],[.p (.i .i64)],[kN,.m 9 3,.r 3 false],Int×I.bp,λ d=>OL F (⟨d.2.1.1,d.2.2.1,d.2.2.2.1⟩:I.bp),λ d r=>((r.1,()),((d.2.1.1,(),(),()),d.2.2.1,r.2.dl,()))⟩ λ da db=>by
 obtain⟨_,_⟩:=da;obtain⟨⟨(v0:List I.ak),_,_,_⟩,(v1:List ((List UInt8)×Int)),(a:List Int),_⟩:=db;conv=>rhs;simp only[OL,a6,Yo,Yp,Yq]
 kernel_rfl
noncomputable def aqx(F:Nat):aN aB:=(aqm F).rt 78 ⟨[.p (.B 0)],[ek,.m 9 3],[.p (.i .i64)],[ek,.m 9 3],Int,λ d=>OM F (⟨d.2.1.1,d.2.2.1,d.2.1.2.2.1⟩:I.bp),λ d r=>((r,()),((d.2.1.1,(),d.2.1.2.2.1,()),d.2.2.1,()))⟩ λ da db=>by
 conv=>rhs;simp only[OM,a6]
 kernel_rfl
noncomputable def aqB(F:Nat):aN aB:=(aqx F).rt 112 ⟨[.a [.i .i64,.s],.p (.B 0)],[.c 120 [.R 1],.r 9 false],[],[.c 120 [.R 1],.r 9 false],List (List UInt8),λ d=>DG (Lb d.1.1) d.2.2.1,λ d r=>((),(((),()),r,()))⟩ λ da db=>by
 conv=>rhs;simp only[DG,a6]
 kernel_rfl
noncomputable def UA(k:Nat)(a:I.ak)(DA:List (List UInt8))(c:Int)(e4:Int)(b:List I.Field):=c7 ((a.Fields.length:Int)=e4/\(a.Fields:List I.Field)=b/\True) (xq a k DA c)
theorem YB(k:Nat)(a:I.ak)(DA:List (List UInt8))(b:Int):xq a k DA b=UA k a DA b (a.Fields.length:Int) a.Fields:=(dv ⟨rfl,rfl,trivial⟩).symm
noncomputable def aqC(F:Nat):aN aB:=(aqB F).bU 79 2 F ⟨[0,3,4,6,23,24,25,30,31,32],[.p (.B 0),.p (.B 2),.f 112 [.B 2],.p (.B 4),.p (.l 134),.p (.i .i64),.p (.i .i64),.p (.l 136),.p (.i .i64),.p (.i .i64)],[ek,.m 9 3,.c 120 [.R 3],.r 9 false,ia],
 [⟨⟨.nm,[0,3,4,6,23,24,25],[.p (.B 0),.p (.B 2),.f 112 [.B 2],.p (.B 4),.p (.l 134),.p (.i .i64),.p (.i .i64)],[ek,.m 9 3,.c 120 [.R 3],.r 9 false,ia]⟩,List (List UInt8),λ d r=>(((),(),((),()),(),d.1.2.2.2.2.1,d.1.2.2.2.2.2.1,d.1.2.2.2.2.2.2.1,()),((d.2.1.1,(),d.2.1.2.2.1,()),d.2.2.1,((),()),r,d.2.2.2.2.2.1,()))⟩],
 λ k d=>UA k (⟨d.2.2.2.2.2.1.1,d.2.2.2.2.2.1.2.1,d.1.2.2.2.2.2.2.2.1,d.2.2.2.2.2.1.2.2.2.1⟩:I.ak) d.2.2.2.2.1 d.1.2.2.2.2.2.2.2.2.2.1 d.1.2.2.2.2.2.2.2.2.1 d.2.2.2.2.2.1.2.2.1⟩ (bI.bR (λ d=>du) λ k da db q h=>by
 obtain⟨_,_,⟨_,_⟩,_,(v0:List I.ak),(v1:Int),(g:Int),(v3:List I.Field),(v4:Int),(v5:Int),_⟩:=da
 obtain⟨⟨(i:List I.ak),_,(j:List Int),_⟩,(l:List ((List UInt8)×Int)),⟨_,_⟩,(v9:List (List UInt8)),⟨(a:List UInt8),(b:List UInt8),(f:List I.Field),(c:List I.Method),_⟩,_⟩:=db
 obtain⟨e,_⟩:=dV h
 dsimp only at e
 obtain⟨rfl,rfl,_⟩:=e
 conv=>rhs;change dh (α:=List (List UInt8)) _ (UA (k+1) (⟨a,b,v3,c⟩:I.ak) v9 v5 (v3.length:Int) (v3));rw[<-YB (k+1) (⟨a,b,v3,c⟩:I.ak) v9 v5];simp only[xq,a6,YB];simp only[bQ]
 kernel_rfl)
noncomputable def UC(k:Nat)(a:I.Method)(DB:List (List UInt8))(c:Int)(e7:Int)(b:List I.Kind):=c7 ((a.cr.length:Int)=e7/\(a.cr:List I.Kind)=b/\True) (xr a k DB c)
theorem YD(k:Nat)(a:I.Method)(DB:List (List UInt8))(b:Int):xr a k DB b=UC k a DB b (a.cr.length:Int) a.cr:=(dv ⟨rfl,rfl,trivial⟩).symm
noncomputable def aqL(F:Nat):aN aB:=(aqC F).bU 79 6 F ⟨[0,3,4,10,23,24,25,42,43,44,49,50,51],[.p (.B 0),.p (.B 2),.f 112 [.B 2],.p (.B 4),.p (.l 134),.p (.i .i64),.p (.i .i64),.p (.l 131),.p (.i .i64),.p (.i .i64),.p (.l 128),.p (.i .i64),.p (.i .i64)],[ek,.m 9 3,.c 120 [.R 3],.r 9 false,mc],
 [⟨⟨.nm,[0,3,4,10,23,24,25,42,43,44],[.p (.B 0),.p (.B 2),.f 112 [.B 2],.p (.B 4),.p (.l 134),.p (.i .i64),.p (.i .i64),.p (.l 131),.p (.i .i64),.p (.i .i64)],[ek,.m 9 3,.c 120 [.R 3],.r 9 false,mc]⟩,List (List UInt8),λ d r=>(((),(),((),()),(),d.1.2.2.2.2.1,d.1.2.2.2.2.2.1,d.1.2.2.2.2.2.2.1,d.1.2.2.2.2.2.2.2.1,d.1.2.2.2.2.2.2.2.2.1,d.1.2.2.2.2.2.2.2.2.2.1,()),((d.2.1.1,(),d.2.1.2.2.1,()),d.2.2.1,((),()),r,d.2.2.2.2.2.1,()))⟩],
 λ k d=>UC k (⟨d.2.2.2.2.2.1.1,d.2.2.2.2.2.1.2.1,d.1.2.2.2.2.2.2.2.2.2.2.1,(Lb d.2.2.2.2.2.1.2.2.2),d.2.2.2.2.2.1.2.2.2.2.2.1,d.2.2.2.2.2.1.2.2.2.2.2.2.1,d.2.2.2.2.2.1.2.2.2.2.2.2.2.1,d.2.2.2.2.2.1.2.2.2.2.2.2.2.2.1⟩:I.Method) d.2.2.2.2.1 d.1.2.2.2.2.2.2.2.2.2.2.2.2.1 d.1.2.2.2.2.2.2.2.2.2.2.2.1 d.2.2.2.2.2.1.2.2.1⟩ (bI.bR (λ d=>du) λ k da db q h=>by
 obtain⟨_,_,⟨_,_⟩,_,(v0:List I.ak),(v1:Int),(s:Int),(v3:List I.Method),(v4:Int),(v5:Int),(f:List I.Kind),(t:Int),(g:Int),_⟩:=da
 obtain⟨⟨(v9:List I.ak),_,(o:List Int),_⟩,(p:List ((List UInt8)×Int)),⟨_,_⟩,(a:List (List UInt8)),⟨(i:List UInt8),(ec:Bool),(u:List I.Kind),(j:Int),(b:List UInt8),(l:Int),(m:Int),(c:List UInt8),(e:List I.Handler),_⟩,_⟩:=db
 obtain⟨n,_⟩:=dV h
 dsimp only at n
 obtain⟨rfl,rfl,_⟩:=n
 conv=>rhs;change dh (α:=List (List UInt8)) _ (UC (k+1) (⟨i,ec,f,(⟨j,b⟩:I.Kind),l,m,c,e⟩:I.Method) a g (f.length:Int) (f));rw[<-YD (k+1) (⟨i,ec,f,(⟨j,b⟩:I.Kind),l,m,c,e⟩:I.Method) a g];simp only[xr,a6,YD];simp only[bQ]
 kernel_rfl)
noncomputable def UD(k:Nat)(a:I.Method)(b:List (List UInt8))(c:Int)(e7:Int):=c7 ((a.cy.length:Int)=e7/\True) (sh a k b c)
theorem YE(k:Nat)(a:I.Method)(b:List (List UInt8))(c:Int):sh a k b c=UD k (⟨[],false,[],(⟨0,[]⟩:I.Kind),0,0,[],a.cy⟩:I.Method) b c (a.cy.length:Int):=(show sh a k b c=sh (⟨[],false,[],(⟨0,[]⟩:I.Kind),0,0,[],a.cy⟩:I.Method) k b c by kernel_rfl).trans (dv ⟨rfl,trivial⟩).symm
noncomputable def aqR(F:Nat):aN aB:=(aqL F).bU 79 8 F ⟨[0,3,4,23,24,25,42,43,44,64,65,66],[.p (.B 0),.p (.B 2),.f 112 [.B 2],.p (.l 134),.p (.i .i64),.p (.i .i64),.p (.l 131),.p (.i .i64),.p (.i .i64),.p (.l 157),.p (.i .i64),.p (.i .i64)],[ek,.m 9 3,.c 120 [.R 3],.r 9 false],
 [⟨⟨.nm,[0,3,4,23,24,25,42,43,44],[.p (.B 0),.p (.B 2),.f 112 [.B 2],.p (.l 134),.p (.i .i64),.p (.i .i64),.p (.l 131),.p (.i .i64),.p (.i .i64)],[ek,.m 9 3,.c 120 [.R 3],.r 9 false]⟩,List (List UInt8),λ d r=>(((),(),((),()),d.1.2.2.2.1,d.1.2.2.2.2.1,d.1.2.2.2.2.2.1,d.1.2.2.2.2.2.2.1,d.1.2.2.2.2.2.2.2.1,d.1.2.2.2.2.2.2.2.2.1,()),((d.2.1.1,(),d.2.1.2.2.1,()),d.2.2.1,((),()),r,()))⟩],
 λ k d=>UD k (⟨[],false,[],(⟨0,[]⟩:I.Kind),0,0,[],d.1.2.2.2.2.2.2.2.2.2.1⟩:I.Method) d.2.2.2.2.1 d.1.2.2.2.2.2.2.2.2.2.2.2.1 d.1.2.2.2.2.2.2.2.2.2.2.1⟩ (bI.bR (λ d=>du) λ k da db q h=>by
 obtain⟨_,_,⟨_,_⟩,(v0:List I.ak),(v1:Int),(i:Int),(v3:List I.Method),(v4:Int),(v5:Int),(b:List I.Handler),(j:Int),(c:Int),_⟩:=da
 obtain⟨⟨(v9:List I.ak),_,(f:List Int),_⟩,(g:List ((List UInt8)×Int)),⟨_,_⟩,(a:List (List UInt8)),_⟩:=db
 obtain⟨e,_⟩:=dV h
 dsimp only at e
 obtain⟨rfl,_⟩:=e
 conv=>rhs;change dh (α:=List (List UInt8)) _ (UD (k+1) (⟨[],false,[],(⟨0,[]⟩:I.Kind),0,0,[],b⟩:I.Method) a c (b.length:Int));rw[<-YE (k+1) (⟨[],false,[],(⟨0,[]⟩:I.Kind),0,0,[],b⟩:I.Method) a c];simp only[sh,a6,YE];simp only[bQ]
 kernel_rfl)
noncomputable def UB(F:Nat)(k:Nat)(a:I.ak)(b:List (List UInt8))(c:Int)(e4:Int):=c7 ((a.bf.length:Int)=e4/\True) (sg F a k b c)
theorem YC(F:Nat)(k:Nat)(a:I.ak)(b:List (List UInt8))(c:Int):sg F a k b c=UB F k (⟨[],[],[],a.bf⟩:I.ak) b c (a.bf.length:Int):=(show sg F a k b c=sg F (⟨[],[],[],a.bf⟩:I.ak) k b c by kernel_rfl).trans (dv ⟨rfl,trivial⟩).symm
noncomputable def aqS(F:Nat):aN aB:=(aqR F).bU 79 4 F ⟨[0,3,4,23,24,25,42,43,44],[.p (.B 0),.p (.B 2),.f 112 [.B 2],.p (.l 134),.p (.i .i64),.p (.i .i64),.p (.l 131),.p (.i .i64),.p (.i .i64)],[ek,.m 9 3,.c 120 [.R 3],.r 9 false],
 [⟨⟨.nm,[0,3,4,23,24,25],[.p (.B 0),.p (.B 2),.f 112 [.B 2],.p (.l 134),.p (.i .i64),.p (.i .i64)],[ek,.m 9 3,.c 120 [.R 3],.r 9 false]⟩,List (List UInt8),λ d r=>(((),(),((),()),d.1.2.2.2.1,d.1.2.2.2.2.1,d.1.2.2.2.2.2.1,()),((d.2.1.1,(),d.2.1.2.2.1,()),d.2.2.1,((),()),r,()))⟩],
 λ k d=>UB F k (⟨[],[],[],d.1.2.2.2.2.2.2.1⟩:I.ak) d.2.2.2.2.1 d.1.2.2.2.2.2.2.2.2.1 d.1.2.2.2.2.2.2.2.1⟩ (bI.bR (λ d=>du) λ k da db q h=>by
 obtain⟨_,_,⟨_,_⟩,(v0:List I.ak),(v1:Int),(b:Int),(v3:List I.Method),(v4:Int),(v5:Int),_⟩:=da
 obtain⟨⟨(c:List I.ak),_,(e:List Int),_⟩,(f:List ((List UInt8)×Int)),⟨_,_⟩,(v9:List (List UInt8)),_⟩:=db
 obtain⟨a,_⟩:=dV h
 dsimp only at a
 obtain⟨rfl,_⟩:=a
 conv=>rhs;change dh (α:=List (List UInt8)) _ (UB F (k+1) (⟨[],[],[],v3⟩:I.ak) v9 v5 (v3.length:Int));rw[<-YC F (k+1) (⟨[],[],[],v3⟩:I.ak) v9 v5];simp only[sg,a6,YD,YE,YC];simp only[bQ]
 kernel_rfl)
noncomputable def Uz(F:Nat)(k:Nat)(a:I.bp)(b:List (List UInt8))(c:Int)(e1:Int)(e3:List I.ak):=c7 ((a.l.length:Int)=e1/\(a.l:List I.ak)=e3/\True) (xp F a k b c)
theorem YA(F:Nat)(k:Nat)(a:I.bp)(b:List (List UInt8))(c:Int):xp F a k b c=Uz F k a b c (a.l.length:Int) a.l:=(dv ⟨rfl,rfl,trivial⟩).symm
noncomputable def aqU(F:Nat):aN aB:=(aqS F).bU 79 0 F ⟨[0,3,4,23,24,25],[.p (.B 0),.p (.B 2),.f 112 [.B 2],.p (.l 134),.p (.i .i64),.p (.i .i64)],[ek,.m 9 3,.c 120 [.R 3],.r 9 false],
 [⟨⟨.nm,[0,3],[.p (.B 0),.p (.B 2)],[ek,.m 9 3,.c 120 [.R 3],.r 9 false]⟩,List (List UInt8),λ d r=>(((),(),()),((d.2.1.1,(),d.2.1.2.2.1,()),d.2.2.1,((),()),r,()))⟩],
 λ k d=>Uz F k (⟨d.1.2.2.2.1,d.2.2.1,d.2.1.2.2.1⟩:I.bp) d.2.2.2.2.1 d.1.2.2.2.2.2.1 d.1.2.2.2.2.1 d.2.1.1⟩ (bI.bR (λ d=>du) λ k da db q h=>by
 obtain⟨_,_,⟨_,_⟩,(v0:List I.ak),(v1:Int),(a:Int),_⟩:=da
 obtain⟨⟨(v3:List I.ak),_,(v4:List Int),_⟩,(v5:List ((List UInt8)×Int)),⟨_,_⟩,(b:List (List UInt8)),_⟩:=db
 obtain⟨c,_⟩:=dV h
 dsimp only at c
 obtain⟨rfl,rfl,_⟩:=c
 conv=>rhs;change dh (α:=List (List UInt8)) _ (Uz F (k+1) (⟨v0,v5,v4⟩:I.bp) b a (v0.length:Int) (v0));rw[<-YA F (k+1) (⟨v0,v5,v4⟩:I.bp) b a];simp only[xp,a6,YB,YC,YA];simp only[bQ]
 kernel_rfl)
noncomputable def UE(k:Nat)(b:I.bp)(a:List (List UInt8))(c:Int)(d:Int):=c7 ((a.length:Int)=d/\True) (bb (zS b a k c))
theorem YF(k:Nat)(b:I.bp)(a:List (List UInt8))(c:Int):bb (zS b a k c)=UE k b a c (a.length:Int):=(dv ⟨rfl,trivial⟩).symm
noncomputable def aqV(F:Nat):aN aB:=(aqU F).bU 79 10 F ⟨[0,78,79,80],[.p (.B 0),.p (.R 2),.p (.i .i64),.p (.i .i64)],[ek,.m 9 3,.r 9 true],
 [⟨⟨.nm,[],[],[ek,.m 9 3,.d]⟩,Unit,λ d r=>((),((d.2.1.1,(),d.2.1.2.2.1,()),d.2.2.1,(),()))⟩,
  ⟨⟨.rt,[2],[.p (.i .i64)],[ek,.m 9 3,.d]⟩,Int,λ d r=>((r,()),((d.2.1.1,(),d.2.1.2.2.1,()),d.2.2.1,(),()))⟩],
 λ k d=>UE k (⟨d.2.1.1,d.2.2.1,d.2.1.2.2.1⟩:I.bp) d.2.2.2.1 d.1.2.2.2.1 d.1.2.2.1⟩ (bI.bR (λ d=>du) λ k da db q h=>by
 obtain⟨_,_,(v0:Int),(v1:Int),_⟩:=da
 obtain⟨⟨(a:List I.ak),_,(v3:List Int),_⟩,(v4:List ((List UInt8)×Int)),(v5:List (List UInt8)),_⟩:=db
 obtain⟨b,_⟩:=dV h
 dsimp only at b
 obtain⟨rfl,_⟩:=b
 conv=>rhs;change dh (α:=Unit⊕Int) _ (UE (k+1) (⟨a,v4,v3⟩:I.bp) v5 v1 (v5.length:Int));rw[<-YF (k+1) (⟨a,v4,v3⟩:I.bp) v5 v1];simp only[zS,a6,YF];simp only[bQ]
 kernel_rfl)
noncomputable def aqW(F:Nat):aN aB:=(aqV F).rt 79 ⟨[.p (.B 0)],[ek,.m 9 3],[.p (.i .i64)],[ek,.m 9 3],Int,λ d=>J2 F (⟨d.2.1.1,d.2.2.1,d.2.1.2.2.1⟩:I.bp),λ d r=>((r,()),((d.2.1.1,(),d.2.1.2.2.1,()),d.2.2.1,()))⟩ λ da db=>by
 obtain⟨_,_⟩:=da;obtain⟨⟨(v0:List I.ak),_,(v1:List Int),_⟩,(a:List ((List UInt8)×Int)),_⟩:=db;conv=>rhs;simp only[J2,a6,YA,YF]
 kernel_rfl
noncomputable def UG(k:Nat)(a:List (List UInt8))(b:List ((List UInt8)×Bool))(c:Int)(e1:List (List UInt8))(e2:Int):=c7 ((a:List (List UInt8))=e1/\(a.length:Int)=e2/\True) (zT a k b c)
theorem YH(k:Nat)(a:List (List UInt8))(b:List ((List UInt8)×Bool))(c:Int):zT a k b c=UG k a b c a (a.length:Int):=(dv ⟨rfl,rfl,trivial⟩).symm
noncomputable def aqX(F:Nat):aN aB:=(aqW F).bU 113 0 F ⟨[0,3,7,8,9],[.p (.l 9),.p (.M 0),.p (.l 9),.p (.i .i64),.p (.i .i64)],[.m 9 4],
 [⟨⟨.nm,[0,3],[.p (.l 9),.p (.M 0)],[.m 9 4]⟩,List ((List UInt8)×Bool),λ d r=>((d.1.1,(),()),(r,()))⟩],
 λ k d=>UG k d.1.1 d.2.1 d.1.2.2.2.2.1 d.1.2.2.1 d.1.2.2.2.1⟩ (bI.bR (λ d=>du) λ k da db q h=>by
 obtain⟨(v0:List (List UInt8)),_,(v1:List (List UInt8)),(b:Int),(v3:Int),_⟩:=da
 obtain⟨(v4:List ((List UInt8)×Bool)),_⟩:=db
 obtain⟨a,_⟩:=dV h
 dsimp only at a
 obtain⟨rfl,rfl,_⟩:=a
 conv=>rhs;change dh (α:=List ((List UInt8)×Bool)) _ (UG (k+1) v0 v4 v3 (v0) (v0.length:Int));rw[<-YH (k+1) v0 v4 v3];simp only[zT,a6,YH];simp only[bQ]
 kernel_rfl)
noncomputable def aqY(F:Nat):aN aB:=(aqX F).rt 113 ⟨[.p (.l 9)],[],[.p (.b)],[],Bool,λ d=>Gq F d.1.1,λ d r=>((r,()),())⟩ λ da db=>by
 obtain⟨(v0:List (List UInt8)),_⟩:=da;conv=>rhs;simp only[Gq,a6,YH]
 kernel_rfl
noncomputable def Ux(k:Nat)(b:List I.Field)(c:List (List UInt8))(d:Int)(e3:Int)(a:List (List UInt8)):=c7 ((b.length:Int)=e3/\([]:List (List UInt8))=a/\True) (xo b k c d)
theorem Yy(k:Nat)(a:List I.Field)(b:List (List UInt8))(c:Int):xo a k b c=Ux k a b c (a.length:Int) []:=(dv ⟨rfl,rfl,trivial⟩).symm
noncomputable def aqZ(F:Nat):aN aB:=(aqY F).bU 80 2 F ⟨[0,4,5,6,14,15,16,23,24,25],[.p (.B 0),.p (.B 2),.p (.R 3),.p (.R 4),.p (.l 134),.p (.i .i64),.p (.i .i64),.p (.R 5),.p (.i .i64),.p (.i .i64)],[ek,.m 9 3,ia,.r 9 false,.r 9 false,.r 136 true],
 [⟨⟨.nm,[0,4,5,6,14,15,16],[.p (.B 0),.p (.B 2),.p (.R 3),.p (.R 4),.p (.l 134),.p (.i .i64),.p (.i .i64)],[ek,.m 9 3,ia,.r 9 false,.r 9 false,.d]⟩,List (List UInt8),λ d r=>(((),(),(),(),d.1.2.2.2.2.1,d.1.2.2.2.2.2.1,d.1.2.2.2.2.2.2.1,()),((d.2.1.1,(),d.2.1.2.2.1,()),d.2.2.1,d.2.2.2.1,r,d.2.2.2.2.2.1,(),()))⟩],
 λ k d=>Ux k d.2.2.2.2.2.2.1 d.2.2.2.2.1 d.1.2.2.2.2.2.2.2.2.2.1 d.1.2.2.2.2.2.2.2.2.1 d.2.2.2.2.2.1⟩ (bI.bR (λ d=>du) λ k da db q h=>by
 obtain⟨_,_,_,_,(v0:List I.ak),(v1:Int),(f:Int),_,(v3:Int),(v4:Int),_⟩:=da
 obtain⟨⟨(v5:List I.ak),_,(g:List Int),_⟩,(i:List ((List UInt8)×Int)),⟨(j:List UInt8),(v9:List UInt8),(c:List I.Field),(e:List I.Method),_⟩,(a:List (List UInt8)),(l:List (List UInt8)),(ec:List I.Field),_⟩:=db
 obtain⟨b,_⟩:=dV h
 dsimp only at b
 obtain⟨rfl,rfl,_⟩:=b
 conv=>rhs;change dh (α:=List (List UInt8)) _ (Ux (k+1) ec a v4 (ec.length:Int) ([]));rw[<-Yy (k+1) ec a v4];simp only[xo,a6,Yy];simp only[bQ]
 kernel_rfl)
noncomputable def Uy(k:Nat)(a:I.ak)(b:List (List UInt8))(c:Int)(e4:Int):=c7 ((a.bf.length:Int)=e4/\True) (sf a k b c)
theorem Yz(k:Nat)(a:I.ak)(b:List (List UInt8))(c:Int):sf a k b c=Uy k (⟨[],[],[],a.bf⟩:I.ak) b c (a.bf.length:Int):=(show sf a k b c=sf (⟨[],[],[],a.bf⟩:I.ak) k b c by kernel_rfl).trans (dv ⟨rfl,trivial⟩).symm
noncomputable def aq0(F:Nat):aN aB:=(aqZ F).bU 80 4 F ⟨[0,5,6,14,15,16,36,37,38],[.p (.B 0),.p (.R 2),.p (.R 3),.p (.l 134),.p (.i .i64),.p (.i .i64),.p (.l 131),.p (.i .i64),.p (.i .i64)],[ek,.m 9 3,.r 9 false,.r 9 false],
 [⟨⟨.nm,[0,5,6,14,15,16],[.p (.B 0),.p (.R 2),.p (.R 3),.p (.l 134),.p (.i .i64),.p (.i .i64)],[ek,.m 9 3,.r 9 false,.r 9 false]⟩,List (List UInt8),λ d r=>(((),(),(),d.1.2.2.2.1,d.1.2.2.2.2.1,d.1.2.2.2.2.2.1,()),((d.2.1.1,(),d.2.1.2.2.1,()),d.2.2.1,d.2.2.2.1,r,()))⟩],
 λ k d=>Uy k (⟨[],[],[],d.1.2.2.2.2.2.2.1⟩:I.ak) d.2.2.2.2.1 d.1.2.2.2.2.2.2.2.2.1 d.1.2.2.2.2.2.2.2.1⟩ (bI.bR (λ d=>du) λ k da db q h=>by
 obtain⟨_,_,_,(v0:List I.ak),(v1:Int),(c:Int),(v3:List I.Method),(v4:Int),(v5:Int),_⟩:=da
 obtain⟨⟨(e:List I.ak),_,(f:List Int),_⟩,(g:List ((List UInt8)×Int)),(v9:List (List UInt8)),(a:List (List UInt8)),_⟩:=db
 obtain⟨b,_⟩:=dV h
 dsimp only at b
 obtain⟨rfl,_⟩:=b
 conv=>rhs;change dh (α:=List (List UInt8)) _ (Uy (k+1) (⟨[],[],[],v3⟩:I.ak) a v5 (v3.length:Int));rw[<-Yz (k+1) (⟨[],[],[],v3⟩:I.ak) a v5];simp only[sf,a6,Yz];simp only[bQ]
 kernel_rfl)
noncomputable def Uw(F:Nat)(k:Nat)(a:I.bp)(b:Int)(e1:Int)(e3:List I.ak):=c7 ((a.l.length:Int)=e1/\(a.l:List I.ak)=e3/\True) (bb (zP F a k b))
theorem Yx(F:Nat)(k:Nat)(a:I.bp)(b:Int):bb (zP F a k b)=Uw F k a b (a.l.length:Int) a.l:=(dv ⟨rfl,rfl,trivial⟩).symm
noncomputable def aq1(F:Nat):aN aB:=(aq0 F).bU 80 0 F ⟨[0,14,15,16],[.p (.B 0),.p (.l 134),.p (.i .i64),.p (.i .i64)],[ek,.m 9 3],
 [⟨⟨.nm,[],[],[ek,.m 9 3]⟩,Unit,λ d r=>((),((d.2.1.1,(),d.2.1.2.2.1,()),d.2.2.1,()))⟩,
  ⟨⟨.rt,[2],[.p (.i .i64)],[ek,.m 9 3]⟩,Int,λ d r=>((r,()),((d.2.1.1,(),d.2.1.2.2.1,()),d.2.2.1,()))⟩],
 λ k d=>Uw F k (⟨d.1.2.1,d.2.2.1,d.2.1.2.2.1⟩:I.bp) d.1.2.2.2.1 d.1.2.2.1 d.2.1.1⟩ (bI.bR (λ d=>du) λ k da db q h=>by
 obtain⟨_,(v0:List I.ak),(v1:Int),(a:Int),_⟩:=da
 obtain⟨⟨(v3:List I.ak),_,(v4:List Int),_⟩,(v5:List ((List UInt8)×Int)),_⟩:=db
 obtain⟨b,_⟩:=dV h
 dsimp only at b
 obtain⟨rfl,rfl,_⟩:=b
 conv=>rhs;change dh (α:=Unit⊕Int) _ (Uw F (k+1) (⟨v0,v5,v4⟩:I.bp) a (v0.length:Int) (v0));rw[<-Yx F (k+1) (⟨v0,v5,v4⟩:I.bp) a];simp only[zP,a6,Yy,Yz,Yx];simp only[bQ]
 kernel_rfl)
noncomputable def aq2(F:Nat):aN aB:=(aq1 F).rt 80 ⟨[.p (.B 0)],[ek,.m 9 3],[.p (.i .i64)],[ek,.m 9 3],Int,λ d=>J1 F (⟨d.2.1.1,d.2.2.1,d.2.1.2.2.1⟩:I.bp),λ d r=>((r,()),((d.2.1.1,(),d.2.1.2.2.1,()),d.2.2.1,()))⟩ λ da db=>by
 obtain⟨_,_⟩:=da;obtain⟨⟨(v0:List I.ak),_,(v1:List Int),_⟩,(a:List ((List UInt8)×Int)),_⟩:=db;conv=>rhs;simp only[J1,a6,Yx]
 kernel_rfl
noncomputable def aq3(F:Nat):aN aB:=(aq2 F).bU 114 0 F ⟨[0,1,5],[.p (.B 0),.p (.i .i64),.p (.R 2)],[ek,.m 9 3,.r 3 false],
 [⟨⟨.nm,[5],[.p (.R 2)],[ek,.m 9 3,.r 3 false]⟩,List Int,λ d r=>(((),()),((d.2.1.1,(),d.2.1.2.2.1,()),d.2.2.1,r,()))⟩],
 λ k d=>sc (⟨d.2.1.1,d.2.2.1,d.2.1.2.2.1⟩:I.bp) k d.2.2.2.1 d.1.2.1⟩ (bI.bR (λ d=>rfl) λ k da db q h=>by
 conv=>rhs;simp only[sc,a6];simp only[bQ]
 kernel_rfl)
noncomputable def aq5(F:Nat):aN aB:=(aq3 F).rt 114 ⟨[.p (.B 0),.p (.i .i64)],[ek,.m 9 3],[.p (.l 3)],[ek,.m 9 3],List Int,λ d=>sb F (⟨d.2.1.1,d.2.2.1,d.2.1.2.2.1⟩:I.bp) d.1.2.1,λ d r=>((r,()),((d.2.1.1,(),d.2.1.2.2.1,()),d.2.2.1,()))⟩ λ da db=>by
 conv=>rhs;simp only[sb,a6]
 kernel_rfl
noncomputable def UO(k:Nat)(a:List I.Kind)(b:List I.Kind)(c:Int)(e2:Int):=c7 ((a.length:Int)=e2/\True) (bb (D8 a b k c))
theorem YP(k:Nat)(a:List I.Kind)(b:List I.Kind)(c:Int):bb (D8 a b k c)=UO k a b c (a.length:Int):=(dv ⟨rfl,trivial⟩).symm
noncomputable def aq6(F:Nat):aN aB:=(aq5 F).bU 143 0 F ⟨[0,1,12,13],[.p (.l 128),.p (.l 128),.p (.i .i64),.p (.i .i64)],[],
 [⟨⟨.nm,[],[],[]⟩,Unit,λ d r=>((),())⟩,
  ⟨⟨.rt,[4],[.p (.b)],[]⟩,Bool,λ d r=>((r,()),())⟩],
 λ k d=>UO k d.1.1 d.1.2.1 d.1.2.2.2.1 d.1.2.2.1⟩ (bI.bR (λ d=>du) λ k da db q h=>by
 obtain⟨(v0:List I.Kind),(v1:List I.Kind),(b:Int),(v3:Int),_⟩:=da
 obtain⟨a,_⟩:=dV h
 dsimp only at a
 obtain⟨rfl,_⟩:=a
 conv=>rhs;change dh (α:=Unit⊕Bool) _ (UO (k+1) v0 v1 v3 (v0.length:Int));rw[<-YP (k+1) v0 v1 v3];simp only[D8,a6,YP];simp only[bQ]
 kernel_rfl)
noncomputable def aq7(F:Nat):aN aB:=(aq6 F).rt 143 ⟨[.p (.l 128),.p (.l 128)],[],[.p (.b)],[],Bool,λ d=>K2 F d.1.1 d.1.2.1,λ d r=>((r,()),())⟩ λ da db=>by
 obtain⟨(v0:List I.Kind),(v1:List I.Kind),_⟩:=da;conv=>rhs;simp only[K2,a6,YP]
 kernel_rfl
noncomputable def aq8(F:Nat):aN aB:=(aq7 F).rt 115 ⟨[Pw,Pw],[],[.p (.b)],[],Bool,λ d=>OJ F (uO d.1.1) (uO d.1.2.1),λ d r=>((r,()),())⟩ λ da db=>by
 obtain⟨⟨(v0:List UInt8),(v1:Bool),(f:List I.Kind),(v3:Int),(v4:List UInt8),(v5:Int),(g:Int),(h:List UInt8),(i:List I.Handler),_⟩,⟨(v9:List UInt8),(a:Bool),(b:List I.Kind),(c:Int),(j:List UInt8),(ec:Int),(k:Int),(l:List UInt8),(e:List I.Handler),_⟩,_⟩:=da;conv=>rhs;simp only[OJ,a6,aCp]
 kernel_rfl
noncomputable def Uu(F:Nat)(k:Nat)(b:I.Method)(a:I.ak)(c:Int)(FB:Int):=c7 ((a.bf.length:Int)=FB/\True) (bb (sd F b a k c))
theorem Yv(F:Nat)(k:Nat)(b:I.Method)(a:I.ak)(c:Int):bb (sd F b a k c)=Uu F k b (⟨[],[],[],a.bf⟩:I.ak) c (a.bf.length:Int):=(show bb (sd F b a k c)=bb (sd F b (⟨[],[],[],a.bf⟩:I.ak) k c) by kernel_rfl).trans (dv ⟨rfl,trivial⟩).symm
noncomputable def aq9(F:Nat):aN aB:=(aq8 F).bU 81 6 F ⟨[0,4,6,8,14,15,16,24,25,26,31,32,33,44,45,46],[.p (.B 0),.p (.B 2),.p (.i .i64),.p (.B 3),.p (.l 134),.p (.i .i64),.p (.i .i64),.p (.l 3),.p (.i .i64),.p (.i .i64),.p (.l 131),.p (.i .i64),.p (.i .i64),.p (.l 131),.p (.i .i64),.p (.i .i64)],[ek,.m 9 3,ia,mc],
 [⟨⟨.nm,[0,4,6,14,15,16,24,25,26,31,32,33],[.p (.B 0),.p (.B 2),.p (.i .i64),.p (.l 134),.p (.i .i64),.p (.i .i64),.p (.l 3),.p (.i .i64),.p (.i .i64),.p (.l 131),.p (.i .i64),.p (.i .i64)],[ek,.m 9 3,ia,mc]⟩,Unit,λ d r=>(((),(),d.1.2.2.1,d.1.2.2.2.2.1,d.1.2.2.2.2.2.1,d.1.2.2.2.2.2.2.1,d.1.2.2.2.2.2.2.2.1,d.1.2.2.2.2.2.2.2.2.1,d.1.2.2.2.2.2.2.2.2.2.1,d.1.2.2.2.2.2.2.2.2.2.2.1,d.1.2.2.2.2.2.2.2.2.2.2.2.1,d.1.2.2.2.2.2.2.2.2.2.2.2.2.1,()),((d.2.1.1,(),d.2.1.2.2.1,()),d.2.2.1,d.2.2.2.1,d.2.2.2.2.1,()))⟩,
  ⟨⟨.rt,[2],[.p (.i .i64)],[ek,.m 9 3,.d,.d]⟩,Int,λ d r=>((r,()),((d.2.1.1,(),d.2.1.2.2.1,()),d.2.2.1,(),(),()))⟩],
 λ k d=>Uu F k (uO d.2.2.2.2.1) (⟨[],[],[],d.1.2.2.2.2.2.2.2.2.2.2.2.2.2.1⟩:I.ak) d.1.2.2.2.2.2.2.2.2.2.2.2.2.2.2.2.1 d.1.2.2.2.2.2.2.2.2.2.2.2.2.2.2.1⟩ (bI.bR (λ d=>du) λ k da db q h=>by
 obtain⟨_,_,(v0:Int),_,(v1:List I.ak),(p:Int),(v3:Int),(v4:List Int),(v5:Int),(s:Int),(t:List I.Method),(u:Int),(v9:Int),(a:List I.Method),(n:Int),(b:Int),_⟩:=da
 obtain⟨⟨(v:List I.ak),_,(ec:List Int),_⟩,(w:List ((List UInt8)×Int)),⟨(x:List UInt8),(o:List UInt8),(y:List I.Field),(z:List I.Method),_⟩,⟨(c:List UInt8),(e:Bool),(v22:List I.Kind),(f:Int),(g:List UInt8),(v25:Int),(i:Int),(j:List UInt8),(l:List I.Handler),_⟩,_⟩:=db
 obtain⟨m,_⟩:=dV h
 dsimp only at m
 obtain⟨rfl,_⟩:=m
 conv=>rhs;change dh (α:=Unit⊕Int) _ (Uu F (k+1) (⟨c,e,v22,(⟨f,g⟩:I.Kind),v25,i,j,l⟩:I.Method) (⟨[],[],[],a⟩:I.ak) b (a.length:Int));rw[<-Yv F (k+1) (⟨c,e,v22,(⟨f,g⟩:I.Kind),v25,i,j,l⟩:I.Method) (⟨[],[],[],a⟩:I.ak) b];simp only[sd,a6,Yv];simp only[bQ]
 kernel_rfl)
noncomputable def Ut(F:Nat)(k:Nat)(a:I.bp)(b:I.ak)(d:Int)(e:Int)(e2:Int)(f:Int)(FA:List I.ak)(c:List I.Method):=c7 ((a.l.length:Int)=e2/\(b.bf.length:Int)=f/\(a.l:List I.ak)=FA/\(b.bf:List I.Method)=c/\True) (bb (zO F a b d k e))
theorem Yu(F:Nat)(k:Nat)(a:I.bp)(b:I.ak)(c:Int)(d:Int):bb (zO F a b c k d)=Ut F k a b c d (a.l.length:Int) (b.bf.length:Int) a.l b.bf:=(dv ⟨rfl,rfl,rfl,rfl,trivial⟩).symm
noncomputable def aq_(F:Nat):aN aB:=(aq9 F).bU 81 4 F ⟨[0,4,6,14,15,16,24,25,26,31,32,33],[.p (.B 0),.p (.B 2),.p (.i .i64),.p (.l 134),.p (.i .i64),.p (.i .i64),.p (.l 3),.p (.i .i64),.p (.i .i64),.p (.l 131),.p (.i .i64),.p (.i .i64)],[ek,.m 9 3,ia],
 [⟨⟨.nm,[0,4,14,15,16,24,25,26],[.p (.B 0),.p (.B 2),.p (.l 134),.p (.i .i64),.p (.i .i64),.p (.l 3),.p (.i .i64),.p (.i .i64)],[ek,.m 9 3,ia]⟩,Unit,λ d r=>(((),(),d.1.2.2.2.1,d.1.2.2.2.2.1,d.1.2.2.2.2.2.1,d.1.2.2.2.2.2.2.1,d.1.2.2.2.2.2.2.2.1,d.1.2.2.2.2.2.2.2.2.1,()),((d.2.1.1,(),d.2.1.2.2.1,()),d.2.2.1,d.2.2.2.1,()))⟩,
  ⟨⟨.rt,[2],[.p (.i .i64)],[ek,.m 9 3,.d]⟩,Int,λ d r=>((r,()),((d.2.1.1,(),d.2.1.2.2.1,()),d.2.2.1,(),()))⟩],
 λ k d=>Ut F k (⟨d.1.2.2.2.1,d.2.2.1,d.2.1.2.2.1⟩:I.bp) (⟨d.2.2.2.1.1,d.2.2.2.1.2.1,d.2.2.2.1.2.2.1,d.1.2.2.2.2.2.2.2.2.2.1⟩:I.ak) d.1.2.2.1 d.1.2.2.2.2.2.2.2.2.2.2.2.1 d.1.2.2.2.2.1 d.1.2.2.2.2.2.2.2.2.2.2.1 d.2.1.1 d.2.2.2.1.2.2.2.1⟩ (bI.bR (λ d=>du) λ k da db q h=>by
 obtain⟨_,_,(v0:Int),(v1:List I.ak),(j:Int),(v3:Int),(v4:List Int),(v5:Int),(l:Int),(c:List I.Method),(m:Int),(v9:Int),_⟩:=da
 obtain⟨⟨(i:List I.ak),_,(a:List Int),_⟩,(b:List ((List UInt8)×Int)),⟨(e:List UInt8),(ec:List UInt8),(f:List I.Field),(n:List I.Method),_⟩,_⟩:=db
 obtain⟨g,_⟩:=dV h
 dsimp only at g
 obtain⟨rfl,rfl,rfl,rfl,_⟩:=g
 conv=>rhs;change dh (α:=Unit⊕Int) _ (Ut F (k+1) (⟨v1,b,a⟩:I.bp) (⟨e,ec,f,c⟩:I.ak) v0 v9 (v1.length:Int) (c.length:Int) (v1) (c));rw[<-Yu F (k+1) (⟨v1,b,a⟩:I.bp) (⟨e,ec,f,c⟩:I.ak) v0 v9];simp only[zO,a6,Yv,Yu];simp only[bQ]
 kernel_rfl)
noncomputable def Us(F:Nat)(k:Nat)(a:I.bp)(b:I.ak)(qp:List Int)(c:Int)(e1:Int)(e4:Int)(e6:List I.ak):=c7 ((a.l.length:Int)=e1/\(qp.length:Int)=e4/\(a.l:List I.ak)=e6/\True) (bb (zN F a b qp k c))
theorem Yt(F:Nat)(k:Nat)(a:I.bp)(b:I.ak)(qp:List Int)(c:Int):bb (zN F a b qp k c)=Us F k a b qp c (a.l.length:Int) (qp.length:Int) a.l:=(dv ⟨rfl,rfl,rfl,trivial⟩).symm
noncomputable def aq'(F:Nat):aN aB:=(aq_ F).bU 81 2 F ⟨[0,4,14,15,16,24,25,26],[.p (.B 0),.p (.B 2),.p (.l 134),.p (.i .i64),.p (.i .i64),.p (.l 3),.p (.i .i64),.p (.i .i64)],[ek,.m 9 3,ia],
 [⟨⟨.nm,[0,14,15,16],[.p (.B 0),.p (.l 134),.p (.i .i64),.p (.i .i64)],[ek,.m 9 3,ia]⟩,Unit,λ d r=>(((),d.1.2.2.1,d.1.2.2.2.1,d.1.2.2.2.2.1,()),((d.2.1.1,(),d.2.1.2.2.1,()),d.2.2.1,d.2.2.2.1,()))⟩,
  ⟨⟨.rt,[2],[.p (.i .i64)],[ek,.m 9 3,.d]⟩,Int,λ d r=>((r,()),((d.2.1.1,(),d.2.1.2.2.1,()),d.2.2.1,(),()))⟩],
 λ k d=>Us F k (⟨d.1.2.2.1,d.2.2.1,d.2.1.2.2.1⟩:I.bp) (G' d.2.2.2.1) d.1.2.2.2.2.2.1 d.1.2.2.2.2.2.2.2.1 d.1.2.2.2.1 d.1.2.2.2.2.2.2.1 d.2.1.1⟩ (bI.bR (λ d=>du) λ k da db q h=>by
 obtain⟨_,_,(v0:List I.ak),(v1:Int),(i:Int),(v3:List Int),(v4:Int),(v5:Int),_⟩:=da
 obtain⟨⟨(j:List I.ak),_,(e:List Int),_⟩,(f:List ((List UInt8)×Int)),⟨(v9:List UInt8),(a:List UInt8),(b:List I.Field),(c:List I.Method),_⟩,_⟩:=db
 obtain⟨g,_⟩:=dV h
 dsimp only at g
 obtain⟨rfl,rfl,rfl,_⟩:=g
 conv=>rhs;change dh (α:=Unit⊕Int) _ (Us F (k+1) (⟨v0,f,e⟩:I.bp) (⟨v9,a,b,c⟩:I.ak) v3 v5 (v0.length:Int) (v3.length:Int) (v0));rw[<-Yt F (k+1) (⟨v0,f,e⟩:I.bp) (⟨v9,a,b,c⟩:I.ak) v3 v5];simp only[zN,a6,Yu,Yt];simp only[bQ]
 kernel_rfl)
noncomputable def Ur(F:Nat)(k:Nat)(a:I.bp)(b:Int)(e1:Int)(e3:List I.ak):=c7 ((a.l.length:Int)=e1/\(a.l:List I.ak)=e3/\True) (bb (zM F a k b))
theorem Ys(F:Nat)(k:Nat)(a:I.bp)(b:Int):bb (zM F a k b)=Ur F k a b (a.l.length:Int) a.l:=(dv ⟨rfl,rfl,trivial⟩).symm
noncomputable def ara(F:Nat):aN aB:=(aq' F).bU 81 0 F ⟨[0,14,15,16],[.p (.B 0),.p (.l 134),.p (.i .i64),.p (.i .i64)],[ek,.m 9 3],
 [⟨⟨.nm,[],[],[ek,.m 9 3]⟩,Unit,λ d r=>((),((d.2.1.1,(),d.2.1.2.2.1,()),d.2.2.1,()))⟩,
  ⟨⟨.rt,[2],[.p (.i .i64)],[ek,.m 9 3]⟩,Int,λ d r=>((r,()),((d.2.1.1,(),d.2.1.2.2.1,()),d.2.2.1,()))⟩],
 λ k d=>Ur F k (⟨d.1.2.1,d.2.2.1,d.2.1.2.2.1⟩:I.bp) d.1.2.2.2.1 d.1.2.2.1 d.2.1.1⟩ (bI.bR (λ d=>du) λ k da db q h=>by
 obtain⟨_,(v0:List I.ak),(v1:Int),(a:Int),_⟩:=da
 obtain⟨⟨(v3:List I.ak),_,(v4:List Int),_⟩,(v5:List ((List UInt8)×Int)),_⟩:=db
 obtain⟨b,_⟩:=dV h
 dsimp only at b
 obtain⟨rfl,rfl,_⟩:=b
 conv=>rhs;change dh (α:=Unit⊕Int) _ (Ur F (k+1) (⟨v0,v5,v4⟩:I.bp) a (v0.length:Int) (v0));rw[<-Ys F (k+1) (⟨v0,v5,v4⟩:I.bp) a];simp only[zM,a6,Yt,Ys];simp only[bQ]
 kernel_rfl)
noncomputable def arb(F:Nat):aN aB:=(ara F).rt 81 ⟨[.p (.B 0)],[ek,.m 9 3],[.p (.i .i64)],[ek,.m 9 3],Int,λ d=>J0 F (⟨d.2.1.1,d.2.2.1,d.2.1.2.2.1⟩:I.bp),λ d r=>((r,()),((d.2.1.1,(),d.2.1.2.2.1,()),d.2.2.1,()))⟩ λ da db=>by
 obtain⟨_,_⟩:=da;obtain⟨⟨(v0:List I.ak),_,(v1:List Int),_⟩,(a:List ((List UInt8)×Int)),_⟩:=db;conv=>rhs;simp only[J0,a6,Ys]
 kernel_rfl
noncomputable def Um(F:Nat)(k:Nat)(a:List I.ak)(c:Int×I.bp)(b:Int×I.bp)(d:List (List I.Target))(e:List (List (List UInt8)))(f:List (List I.Field))(g:Int)(h:Int)(e2:List I.ak)(e3:List Int)(e4:List (List I.Field))(e5:List (List (List UInt8)))(e6:List (List I.Target))(FA:List I.ak)(FB:List Int):=c7 ((a.length:Int)=h/\([]:List I.ak)=e2/\([]:List Int)=e3/\([]:List (List I.Field))=e4/\([]:List (List (List UInt8)))=e5/\([]:List (List I.Target))=e6/\(a:List I.ak)=FA/\(b.2.dl:List Int)=FB/\True) (bb (n' F a c b k d e f g))
theorem Yn(F:Nat)(k:Nat)(a:List I.ak)(c:Int×I.bp)(b:Int×I.bp)(d:List (List I.Target))(e:List (List (List UInt8)))(f:List (List I.Field))(g:Int):bb (n' F a c b k d e f g)=Um F k a (0,(⟨[],c.2.bV,[]⟩:I.bp)) (0,(⟨[],[],b.2.dl⟩:I.bp)) d e f g (a.length:Int) [] [] [] [] [] a b.2.dl:=(show bb (n' F a c b k d e f g)=bb (n' F a (0,(⟨[],c.2.bV,[]⟩:I.bp)) (0,(⟨[],[],b.2.dl⟩:I.bp)) k d e f g) by kernel_rfl).trans (dv ⟨rfl,rfl,rfl,rfl,rfl,rfl,rfl,rfl,trivial⟩).symm
noncomputable def arc(F:Nat):aN aB:=(arb F).bU 46 2 F ⟨[2,5,9,62,63],[.p (.B 0),.p (.B 1),.p (.B 3),.p (.i .i64),.p (.i .i64)],[dI,aiM,.m 9 3,aiO,.r 124 false,.r 120 false,.r 121 false],
 [⟨⟨.nm,[2,9],[.p (.B 0),.p (.B 3)],[dI,aiM,.m 9 3,aiO,.r 124 false,.r 120 false,.r 121 false]⟩,(List (List I.Target))×(List (List (List UInt8)))×(List (List I.Field)),λ d r=>(((),(),()),(d.2.1,(d.2.2.1.1,(),d.2.2.1.2.2.1,()),d.2.2.2.1,(d.2.2.2.2.1.1,d.2.2.2.2.1.2.1,(),(),(),()),r.2.2,r.2.1,r.1,()))⟩,
  ⟨⟨.rt,[2,3],[.p (.B 0),.p (.i .i64)],[dI,.d,.d,.d,.d,.d,.d]⟩,I.aP×Int,λ d r=>(((),r.2,()),((r.1.aY,r.1.aW,r.1.Fields,r.1.Names,r.1.aX,()),(),(),(),(),(),(),()))⟩],
 λ k d=>Um F k d.2.2.1.1 (0,(⟨[],d.2.2.2.1,[]⟩:I.bp)) (0,(⟨[],[],d.2.2.1.2.2.1⟩:I.bp)) d.2.2.2.2.2.2.2.1 d.2.2.2.2.2.2.1 d.2.2.2.2.2.1 d.1.2.2.2.2.1 d.1.2.2.2.1 d.2.1.1 d.2.1.2.1 d.2.1.2.2.1 d.2.1.2.2.2.1 d.2.1.2.2.2.2.1 d.2.2.2.2.1.1 d.2.2.2.2.1.2.1⟩ (bI.bR (λ d=>du) λ k da db q h=>by
 obtain⟨_,_,_,(v0:Int),(v1:Int),_⟩:=da
 obtain⟨⟨(j:List I.ak),(v3:List Int),(v4:List (List I.Field)),(v5:List (List (List UInt8))),(l:List (List I.Target)),_⟩,⟨(b:List I.ak),_,(c:List Int),_⟩,(v9:List ((List UInt8)×Int)),⟨(g:List I.ak),(i:List Int),_,_,_,_⟩,(a:List (List I.Field)),(e:List (List (List UInt8))),(ec:List (List I.Target)),_⟩:=db
 obtain⟨f,_⟩:=dV h
 dsimp only at f
 obtain⟨rfl,rfl,rfl,rfl,rfl,rfl,rfl,rfl,_⟩:=f
 conv=>rhs;change dh (α:=((List (List I.Target))×(List (List (List UInt8)))×(List (List I.Field)))⊕(I.aP×Int)) _ (Um F (k+1) b (0,(⟨[],v9,[]⟩:I.bp)) (0,(⟨[],[],c⟩:I.bp)) ec e a v1 (b.length:Int) ([]) ([]) ([]) ([]) ([]) (b) ((0,(⟨[],[],c⟩:I.bp)).2.dl));rw[<-Yn F (k+1) b (0,(⟨[],v9,[]⟩:I.bp)) (0,(⟨[],[],c⟩:I.bp)) ec e a v1];simp only[n',a6,Yn];simp only[bQ]
 kernel_rfl)
noncomputable def arf(F:Nat):aN aB:=(arc F).rt 46 ⟨[.p (.l 134)],[],[hz,.p (.i .i64)],[],I.aP×Int,λ d=>DE F d.1.1,λ d r=>(((r.1.aY,r.1.aW,r.1.Fields,r.1.Names,r.1.aX,()),r.2,()),())⟩ λ da db=>by
 obtain⟨(v0:List I.ak),_⟩:=da;conv=>rhs;simp only[DE,a6,Yn]
 kernel_rfl
noncomputable def UQ(k:Nat)(a:List Int)(b:List Int)(c:Int)(e2:Int):=c7 ((a.length:Int)=e2/\True) (bb (AJ a b k c))
theorem YR(k:Nat)(a:List Int)(b:List Int)(c:Int):bb (AJ a b k c)=UQ k a b c (a.length:Int):=(dv ⟨rfl,trivial⟩).symm
noncomputable def arh(F:Nat):aN aB:=(arf F).bU 126 0 F ⟨[0,1,12,13],[.p (.l 3),.p (.l 3),.p (.i .i64),.p (.i .i64)],[],
 [⟨⟨.nm,[],[],[]⟩,Unit,λ d r=>((),())⟩,
  ⟨⟨.rt,[4],[.p (.b)],[]⟩,Bool,λ d r=>((r,()),())⟩],
 λ k d=>UQ k d.1.1 d.1.2.1 d.1.2.2.2.1 d.1.2.2.1⟩ (bI.bR (λ d=>du) λ k da db q h=>by
 obtain⟨(v0:List Int),(v1:List Int),(b:Int),(v3:Int),_⟩:=da
 obtain⟨a,_⟩:=dV h
 dsimp only at a
 obtain⟨rfl,_⟩:=a
 conv=>rhs;change dh (α:=Unit⊕Bool) _ (UQ (k+1) v0 v1 v3 (v0.length:Int));rw[<-YR (k+1) v0 v1 v3];simp only[AJ,a6,YR];simp only[bQ]
 kernel_rfl)
noncomputable def ari(F:Nat):aN aB:=(arh F).rt 126 ⟨[.p (.l 3),.p (.l 3)],[],[.p (.b)],[],Bool,λ d=>K4 F d.1.1 d.1.2.1,λ d r=>((r,()),())⟩ λ da db=>by
 obtain⟨(v0:List Int),(v1:List Int),_⟩:=da;conv=>rhs;simp only[K4,a6,YR]
 kernel_rfl
noncomputable def UN(k:Nat)(a:List I.Field)(b:List I.Field)(c:Int)(e2:Int):=c7 ((a.length:Int)=e2/\True) (bb (AH a b k c))
theorem YO(k:Nat)(a:List I.Field)(b:List I.Field)(c:Int):bb (AH a b k c)=UN k a b c (a.length:Int):=(dv ⟨rfl,trivial⟩).symm
noncomputable def arj(F:Nat):aN aB:=(ari F).bU 128 0 F ⟨[0,1,12,13],[.p (.l 136),.p (.l 136),.p (.i .i64),.p (.i .i64)],[],
 [⟨⟨.nm,[],[],[]⟩,Unit,λ d r=>((),())⟩,
  ⟨⟨.rt,[4],[.p (.b)],[]⟩,Bool,λ d r=>((r,()),())⟩],
 λ k d=>UN k d.1.1 d.1.2.1 d.1.2.2.2.1 d.1.2.2.1⟩ (bI.bR (λ d=>du) λ k da db q h=>by
 obtain⟨(v0:List I.Field),(v1:List I.Field),(b:Int),(v3:Int),_⟩:=da
 obtain⟨a,_⟩:=dV h
 dsimp only at a
 obtain⟨rfl,_⟩:=a
 conv=>rhs;change dh (α:=Unit⊕Bool) _ (UN (k+1) v0 v1 v3 (v0.length:Int));rw[<-YO (k+1) v0 v1 v3];simp only[AH,a6,YO];simp only[bQ]
 kernel_rfl)
noncomputable def ark(F:Nat):aN aB:=(arj F).rt 128 ⟨[.p (.l 136),.p (.l 136)],[],[.p (.b)],[],Bool,λ d=>K1 F d.1.1 d.1.2.1,λ d r=>((r,()),())⟩ λ da db=>by
 obtain⟨(v0:List I.Field),(v1:List I.Field),_⟩:=da;conv=>rhs;simp only[K1,a6,YO]
 kernel_rfl
noncomputable def UK(F:Nat)(k:Nat)(a:List (List I.Field))(b:List (List I.Field))(c:Int)(e2:Int):=c7 ((a.length:Int)=e2/\True) (bb (AE F a b k c))
theorem YL(F:Nat)(k:Nat)(a:List (List I.Field))(b:List (List I.Field))(c:Int):bb (AE F a b k c)=UK F k a b c (a.length:Int):=(dv ⟨rfl,trivial⟩).symm
noncomputable def arl(F:Nat):aN aB:=(ark F).bU 127 0 F ⟨[1,2,15,16,17],[.p (.l 124),.f 128 [],.p (.l 124),.p (.i .i64),.p (.i .i64)],[],
 [⟨⟨.nm,[],[],[]⟩,Unit,λ d r=>((),())⟩,
  ⟨⟨.rt,[6],[.p (.b)],[]⟩,Bool,λ d r=>((r,()),())⟩],
 λ k d=>UK F k d.1.2.2.1 d.1.1 d.1.2.2.2.2.1 d.1.2.2.2.1⟩ (bI.bR (λ d=>du) λ k da db q h=>by
 obtain⟨(v0:List (List I.Field)),_,(v1:List (List I.Field)),(b:Int),(v3:Int),_⟩:=da
 obtain⟨a,_⟩:=dV h
 dsimp only at a
 obtain⟨rfl,_⟩:=a
 conv=>rhs;change dh (α:=Unit⊕Bool) _ (UK F (k+1) v1 v0 v3 (v1.length:Int));rw[<-YL F (k+1) v1 v0 v3];simp only[AE,a6,YL];simp only[bQ]
 kernel_rfl)
noncomputable def arm(F:Nat):aN aB:=(arl F).rt 127 ⟨[.p (.l 124),.p (.l 124),.f 128 []],[],[.p (.b)],[],Bool,λ d=>KY F d.1.1 d.1.2.1,λ d r=>((r,()),())⟩ λ da db=>by
 obtain⟨(v0:List (List I.Field)),(v1:List (List I.Field)),_,_⟩:=da;conv=>rhs;simp only[KY,a6,YL]
 kernel_rfl
noncomputable def UR(k:Nat)(a:List (List UInt8))(b:List (List UInt8))(c:Int)(e2:Int):=c7 ((a.length:Int)=e2/\True) (bb (AK a b k c))
theorem YS(k:Nat)(a:List (List UInt8))(b:List (List UInt8))(c:Int):bb (AK a b k c)=UR k a b c (a.length:Int):=(dv ⟨rfl,trivial⟩).symm
noncomputable def arn(F:Nat):aN aB:=(arm F).bU 130 0 F ⟨[0,1,12,13],[.p (.l 9),.p (.l 9),.p (.i .i64),.p (.i .i64)],[],
 [⟨⟨.nm,[],[],[]⟩,Unit,λ d r=>((),())⟩,
  ⟨⟨.rt,[4],[.p (.b)],[]⟩,Bool,λ d r=>((r,()),())⟩],
 λ k d=>UR k d.1.1 d.1.2.1 d.1.2.2.2.1 d.1.2.2.1⟩ (bI.bR (λ d=>du) λ k da db q h=>by
 obtain⟨(v0:List (List UInt8)),(v1:List (List UInt8)),(b:Int),(v3:Int),_⟩:=da
 obtain⟨a,_⟩:=dV h
 dsimp only at a
 obtain⟨rfl,_⟩:=a
 conv=>rhs;change dh (α:=Unit⊕Bool) _ (UR (k+1) v0 v1 v3 (v0.length:Int));rw[<-YS (k+1) v0 v1 v3];simp only[AK,a6,YS];simp only[bQ]
 kernel_rfl)
noncomputable def aro(F:Nat):aN aB:=(arn F).rt 130 ⟨[.p (.l 9),.p (.l 9)],[],[.p (.b)],[],Bool,λ d=>K5 F d.1.1 d.1.2.1,λ d r=>((r,()),())⟩ λ da db=>by
 obtain⟨(v0:List (List UInt8)),(v1:List (List UInt8)),_⟩:=da;conv=>rhs;simp only[K5,a6,YS]
 kernel_rfl
noncomputable def UM(F:Nat)(k:Nat)(a:List (List (List UInt8)))(b:List (List (List UInt8)))(c:Int)(e2:Int):=c7 ((a.length:Int)=e2/\True) (bb (AG F a b k c))
theorem YN(F:Nat)(k:Nat)(a:List (List (List UInt8)))(b:List (List (List UInt8)))(c:Int):bb (AG F a b k c)=UM F k a b c (a.length:Int):=(dv ⟨rfl,trivial⟩).symm
noncomputable def arp(F:Nat):aN aB:=(aro F).bU 129 0 F ⟨[1,2,15,16,17],[.p (.l 120),.f 130 [],.p (.l 120),.p (.i .i64),.p (.i .i64)],[],
 [⟨⟨.nm,[],[],[]⟩,Unit,λ d r=>((),())⟩,
  ⟨⟨.rt,[6],[.p (.b)],[]⟩,Bool,λ d r=>((r,()),())⟩],
 λ k d=>UM F k d.1.2.2.1 d.1.1 d.1.2.2.2.2.1 d.1.2.2.2.1⟩ (bI.bR (λ d=>du) λ k da db q h=>by
 obtain⟨(v0:List (List (List UInt8))),_,(v1:List (List (List UInt8))),(b:Int),(v3:Int),_⟩:=da
 obtain⟨a,_⟩:=dV h
 dsimp only at a
 obtain⟨rfl,_⟩:=a
 conv=>rhs;change dh (α:=Unit⊕Bool) _ (UM F (k+1) v1 v0 v3 (v1.length:Int));rw[<-YN F (k+1) v1 v0 v3];simp only[AG,a6,YN];simp only[bQ]
 kernel_rfl)
noncomputable def arr(F:Nat):aN aB:=(arp F).rt 129 ⟨[.p (.l 120),.p (.l 120),.f 130 []],[],[.p (.b)],[],Bool,λ d=>K0 F d.1.1 d.1.2.1,λ d r=>((r,()),())⟩ λ da db=>by
 obtain⟨(v0:List (List (List UInt8))),(v1:List (List (List UInt8))),_,_⟩:=da;conv=>rhs;simp only[K0,a6,YN]
 kernel_rfl
noncomputable def UP(k:Nat)(a:List I.Target)(b:List I.Target)(c:Int)(e2:Int):=c7 ((a.length:Int)=e2/\True) (bb (AI a b k c))
theorem YQ(k:Nat)(a:List I.Target)(b:List I.Target)(c:Int):bb (AI a b k c)=UP k a b c (a.length:Int):=(dv ⟨rfl,trivial⟩).symm
noncomputable def ars(F:Nat):aN aB:=(arr F).bU 132 0 F ⟨[0,1,12,13],[.p (.l 166),.p (.l 166),.p (.i .i64),.p (.i .i64)],[],
 [⟨⟨.nm,[],[],[]⟩,Unit,λ d r=>((),())⟩,
  ⟨⟨.rt,[4],[.p (.b)],[]⟩,Bool,λ d r=>((r,()),())⟩],
 λ k d=>UP k d.1.1 d.1.2.1 d.1.2.2.2.1 d.1.2.2.1⟩ (bI.bR (λ d=>du) λ k da db q h=>by
 obtain⟨(v0:List I.Target),(v1:List I.Target),(b:Int),(v3:Int),_⟩:=da
 obtain⟨a,_⟩:=dV h
 dsimp only at a
 obtain⟨rfl,_⟩:=a
 conv=>rhs;change dh (α:=Unit⊕Bool) _ (UP (k+1) v0 v1 v3 (v0.length:Int));rw[<-YQ (k+1) v0 v1 v3];simp only[AI,a6,YQ];simp only[bQ]
 kernel_rfl)
noncomputable def art(F:Nat):aN aB:=(ars F).rt 132 ⟨[.p (.l 166),.p (.l 166)],[],[.p (.b)],[],Bool,λ d=>K3 F d.1.1 d.1.2.1,λ d r=>((r,()),())⟩ λ da db=>by
 obtain⟨(v0:List I.Target),(v1:List I.Target),_⟩:=da;conv=>rhs;simp only[K3,a6,YQ]
 kernel_rfl
noncomputable def UL(F:Nat)(k:Nat)(a:List (List I.Target))(b:List (List I.Target))(c:Int)(e2:Int):=c7 ((a.length:Int)=e2/\True) (bb (AF F a b k c))
theorem YM(F:Nat)(k:Nat)(a:List (List I.Target))(b:List (List I.Target))(c:Int):bb (AF F a b k c)=UL F k a b c (a.length:Int):=(dv ⟨rfl,trivial⟩).symm
noncomputable def aru(F:Nat):aN aB:=(art F).bU 131 0 F ⟨[1,2,15,16,17],[.p (.l 121),.f 132 [],.p (.l 121),.p (.i .i64),.p (.i .i64)],[],
 [⟨⟨.nm,[],[],[]⟩,Unit,λ d r=>((),())⟩,
  ⟨⟨.rt,[6],[.p (.b)],[]⟩,Bool,λ d r=>((r,()),())⟩],
 λ k d=>UL F k d.1.2.2.1 d.1.1 d.1.2.2.2.2.1 d.1.2.2.2.1⟩ (bI.bR (λ d=>du) λ k da db q h=>by
 obtain⟨(v0:List (List I.Target)),_,(v1:List (List I.Target)),(b:Int),(v3:Int),_⟩:=da
 obtain⟨a,_⟩:=dV h
 dsimp only at a
 obtain⟨rfl,_⟩:=a
 conv=>rhs;change dh (α:=Unit⊕Bool) _ (UL F (k+1) v1 v0 v3 (v1.length:Int));rw[<-YM F (k+1) v1 v0 v3];simp only[AF,a6,YM];simp only[bQ]
 kernel_rfl)
noncomputable def arv(F:Nat):aN aB:=(aru F).rt 131 ⟨[.p (.l 121),.p (.l 121),.f 132 []],[],[.p (.b)],[],Bool,λ d=>KZ F d.1.1 d.1.2.1,λ d r=>((r,()),())⟩ λ da db=>by
 obtain⟨(v0:List (List I.Target)),(v1:List (List I.Target)),_,_⟩:=da;conv=>rhs;simp only[KZ,a6,YM]
 kernel_rfl
noncomputable def arw(F:Nat):aN aB:=(arv F).rt 100 ⟨[hz,hz],[],[.p (.b)],[],Bool,λ d=>Gp F (e8 d.1.1) (e8 d.1.2.1),λ d r=>((r,()),())⟩ λ da db=>by
 conv=>rhs;simp only[Gp,a6]
 kernel_rfl
noncomputable def arx(F:Nat):aN aB:=(arw F).rt 64 ⟨[hz],[],[.p (.i .i64)],[],Int,λ d=>pc F (e8 d.1.1),λ d r=>((r,()),())⟩ λ da db=>by
 conv=>rhs;simp only[pc,a6]
 kernel_rfl
noncomputable def ary(F:Nat):aN aB:=(arx F).rt 84 ⟨[.p (.i .i64),.p (.i .i64),.p (.i .i64)],[],[.p (.b)],[],Bool,λ d=>o2 d.1.1 d.1.2.1 d.1.2.2.1,λ d r=>((r,()),())⟩ λ da db=>by
 conv=>rhs;simp only[o2,a6]
 kernel_rfl
noncomputable def arz(F:Nat):aN aB:=(ary F).rt 101 ⟨[jg],[],[.p (.i .i64)],[],Int,λ d=>F5 (dJ d.1.1),λ d r=>((r,()),())⟩ λ da db=>by
 conv=>rhs;simp only[F5,a6]
 kernel_rfl
noncomputable def arA(F:Nat):aN aB:=(arz F).rt 92 ⟨[hz,.p (.i .i64)],[],[.p (.b)],[],Bool,λ d=>wE (gP d.1.1) d.1.2.1,λ d r=>((r,()),())⟩ λ da db=>by
 conv=>rhs;simp only[wE,a6]
 kernel_rfl
noncomputable def arC(F:Nat):aN aB:=(arA F).rt 93 ⟨[hz,.p (.i .i64),.p (.i .i64)],[],[.p (.b)],[],Bool,λ d=>wF (gP d.1.1) d.1.2.1 d.1.2.2.1,λ d r=>((r,()),())⟩ λ da db=>by
 conv=>rhs;simp only[wF,a6]
 kernel_rfl
noncomputable def Ug(k:Nat)(a:Int)(b:I.bg)(c:List Int)(qv:List (Int×Bool))(d:Int):=c7 (True) (bb (o1 a b k c qv d))
theorem Yh(k:Nat)(b:Int)(a:I.bg)(c:List Int)(qv:List (Int×Bool))(d:Int):bb (o1 b a k c qv d)=Ug k b (⟨(⟨a.H.Words,a.H.av,a.H.aL,a.H.aU,a.H.aT,a.H.aS,a.H.Next⟩:I.aR),(⟨(⟨a.S.K.aY,a.S.K.aW,a.S.K.Fields,a.S.K.Names,a.S.K.aX⟩:I.aP)⟩:I.b4),a.av,a.aL,[]⟩:I.bg) c qv d:=(show bb (o1 b a k c qv d)=bb (o1 b (⟨(⟨a.H.Words,a.H.av,a.H.aL,a.H.aU,a.H.aT,a.H.aS,a.H.Next⟩:I.aR),(⟨(⟨a.S.K.aY,a.S.K.aW,a.S.K.Fields,a.S.K.Names,a.S.K.aX⟩:I.aP)⟩:I.b4),a.av,a.aL,[]⟩:I.bg) k c qv d) by kernel_rfl).trans (dv trivial).symm
noncomputable def arD(F:Nat):aN aB:=(arC F).bU 102 0 F ⟨[0,2,8,9],[.p (.B 0),.p (.i .i64),.p (.R 2),.p (.i .i64)],[fC,.m 3 4,.r 3 false],
 [⟨⟨.nm,[8],[.p (.R 2)],[fC,.m 3 4,.r 3 false]⟩,(List Int)×(List (Int×Bool)),λ d r=>(((),()),((d.2.1.1,d.2.1.2.1,d.2.1.2.2.1,d.2.1.2.2.2.1,d.2.1.2.2.2.2.1,d.2.1.2.2.2.2.2.1,d.2.1.2.2.2.2.2.2.1,d.2.1.2.2.2.2.2.2.2.1,d.2.1.2.2.2.2.2.2.2.2.1,d.2.1.2.2.2.2.2.2.2.2.2.1,d.2.1.2.2.2.2.2.2.2.2.2.2.1,d.2.1.2.2.2.2.2.2.2.2.2.2.2.1,d.2.1.2.2.2.2.2.2.2.2.2.2.2.2.1,d.2.1.2.2.2.2.2.2.2.2.2.2.2.2.2.1,(),()),r.2,r.1,()))⟩,
  ⟨⟨.rt,[6,7],[.p (.l 3),.p (.b)],[fC,.m 3 4,.d]⟩,(List Int)×Bool×I.bg,λ d r=>((r.1,r.2.1,()),((d.2.1.1,d.2.1.2.1,d.2.1.2.2.1,d.2.1.2.2.2.1,d.2.1.2.2.2.2.1,d.2.1.2.2.2.2.2.1,d.2.1.2.2.2.2.2.2.1,d.2.1.2.2.2.2.2.2.2.1,d.2.1.2.2.2.2.2.2.2.2.1,d.2.1.2.2.2.2.2.2.2.2.2.1,d.2.1.2.2.2.2.2.2.2.2.2.2.1,d.2.1.2.2.2.2.2.2.2.2.2.2.2.1,d.2.1.2.2.2.2.2.2.2.2.2.2.2.2.1,d.2.1.2.2.2.2.2.2.2.2.2.2.2.2.2.1,(),()),r.2.2.dz,(),()))⟩],
 λ k d=>Ug k d.1.2.1 (⟨(dJ d.2.1),(gP d.2.1.2.2.2.2.2.2.2),d.2.1.2.2.2.2.2.2.2.2.2.2.2.2.1,d.2.1.2.2.2.2.2.2.2.2.2.2.2.2.2.1,[]⟩:I.bg) d.2.2.2.1 d.2.2.1 d.1.2.2.2.1⟩ (bI.bR (λ d=>du) λ k da db q h=>by
 obtain⟨_,(v0:Int),_,(v1:Int),_⟩:=da
 obtain⟨⟨(f:List Int),(v3:Int),(v4:Int),(v5:Int),(g:Int),(i:List Int),(j:Int),(v9:List I.ak),(a:List Int),(b:List (List I.Field)),(c:List (List (List UInt8))),(l:List (List I.Target)),(ec:List Int),(m:List Int),_,_⟩,(n:List (Int×Bool)),(e:List Int),_⟩:=db
 conv=>rhs;change dh (α:=((List Int)×(List (Int×Bool)))⊕((List Int)×Bool×I.bg)) _ (Ug (k+1) v0 (⟨(⟨f,v3,v4,v5,g,i,j⟩:I.aR),(⟨(⟨v9,a,b,c,l⟩:I.aP)⟩:I.b4),ec,m,[]⟩:I.bg) e n v1);rw[<-Yh (k+1) v0 (⟨(⟨f,v3,v4,v5,g,i,j⟩:I.aR),(⟨(⟨v9,a,b,c,l⟩:I.aP)⟩:I.b4),ec,m,[]⟩:I.bg) e n v1];simp only[o1,a6,Yh];simp only[bQ]
 kernel_rfl)
noncomputable def arE(F:Nat):aN aB:=(arD F).rt 102 ⟨[.p (.B 0),.p (.i .i64),.p (.i .i64)],[fC,.m 3 4],[.p (.l 3),.p (.b)],[fC,.m 3 4],(List Int)×Bool×I.bg,λ d=>mK F (⟨(dJ d.2.1),(gP d.2.1.2.2.2.2.2.2.2),d.2.1.2.2.2.2.2.2.2.2.2.2.2.2.1,d.2.1.2.2.2.2.2.2.2.2.2.2.2.2.2.1,d.2.2.1⟩:I.bg) d.1.2.1 d.1.2.2.1,λ d r=>((r.1,r.2.1,()),((d.2.1.1,d.2.1.2.1,d.2.1.2.2.1,d.2.1.2.2.2.1,d.2.1.2.2.2.2.1,d.2.1.2.2.2.2.2.1,d.2.1.2.2.2.2.2.2.1,d.2.1.2.2.2.2.2.2.2.1,d.2.1.2.2.2.2.2.2.2.2.1,d.2.1.2.2.2.2.2.2.2.2.2.1,d.2.1.2.2.2.2.2.2.2.2.2.2.1,d.2.1.2.2.2.2.2.2.2.2.2.2.2.1,d.2.1.2.2.2.2.2.2.2.2.2.2.2.2.1,d.2.1.2.2.2.2.2.2.2.2.2.2.2.2.2.1,(),()),r.2.2.dz,()))⟩ λ da db=>by
 obtain⟨_,(v0:Int),(v1:Int),_⟩:=da;obtain⟨⟨(e:List Int),(v3:Int),(v4:Int),(v5:Int),(f:Int),(g:List Int),(h:Int),(v9:List I.ak),(a:List Int),(b:List (List I.Field)),(c:List (List (List UInt8))),(i:List (List I.Target)),(ec:List Int),(j:List Int),_,_⟩,(k:List (Int×Bool)),_⟩:=db;conv=>rhs;simp only[mK,a6,Yh]
 kernel_rfl
noncomputable def UI(k:Nat)(a:List (List Int))(b:Int)(c:Int)(e2:List (List Int))(e3:Int):=c7 ((a:List (List Int))=e2/\(a.length:Int)=e3/\True) (xN a k b c)
theorem YJ(k:Nat)(a:List (List Int))(b:Int)(c:Int):xN a k b c=UI k a b c a (a.length:Int):=(dv ⟨rfl,rfl,trivial⟩).symm
noncomputable def arF(F:Nat):aN aB:=(arE F).bU 135 0 F ⟨[0,3,9,10,11],[.p (.l 22),.p (.i .i64),.p (.l 22),.p (.i .i64),.p (.i .i64)],[],
 [⟨⟨.nm,[0,3],[.p (.l 22),.p (.i .i64)],[]⟩,Int,λ d r=>((d.1.1,r,()),())⟩],
 λ k d=>UI k d.1.1 d.1.2.1 d.1.2.2.2.2.1 d.1.2.2.1 d.1.2.2.2.1⟩ (bI.bR (λ d=>du) λ k da db q h=>by
 obtain⟨(v0:List (List Int)),(v1:Int),(b:List (List Int)),(v3:Int),(v4:Int),_⟩:=da
 obtain⟨a,_⟩:=dV h
 dsimp only at a
 obtain⟨rfl,rfl,_⟩:=a
 conv=>rhs;change dh (α:=Int) _ (UI (k+1) v0 v1 v4 (v0) (v0.length:Int));rw[<-YJ (k+1) v0 v1 v4];simp only[xN,a6,YJ];simp only[bQ]
 kernel_rfl)
noncomputable def UJ(k:Nat)(a:List (List Int))(b:List Int)(c:Int)(e1:Int):=c7 ((a.length:Int)=e1/\True) (xO a k b c)
theorem YK(k:Nat)(a:List (List Int))(b:List Int)(c:Int):xO a k b c=UJ k a b c (a.length:Int):=(dv ⟨rfl,trivial⟩).symm
noncomputable def arG(F:Nat):aN aB:=(arF F).bU 135 2 F ⟨[6,25,26,27],[.p (.R 0),.p (.l 22),.p (.i .i64),.p (.i .i64)],[.r 3 false],
 [⟨⟨.nm,[6],[.p (.R 0)],[.r 3 false]⟩,List Int,λ d r=>(((),()),(r,()))⟩],
 λ k d=>UJ k d.1.2.1 d.2.1 d.1.2.2.2.1 d.1.2.2.1⟩ (bI.bR (λ d=>du) λ k da db q h=>by
 obtain⟨_,(v0:List (List Int)),(v1:Int),(a:Int),_⟩:=da
 obtain⟨(v3:List Int),_⟩:=db
 obtain⟨b,_⟩:=dV h
 dsimp only at b
 obtain⟨rfl,_⟩:=b
 conv=>rhs;change dh (α:=List Int) _ (UJ (k+1) v0 v3 a (v0.length:Int));rw[<-YK (k+1) v0 v3 a];simp only[xO,a6,YK];simp only[bQ]
 kernel_rfl)
noncomputable def arH(F:Nat):aN aB:=(arG F).rt 135 ⟨[.p (.l 22)],[],[.p (.l 3)],[],List Int,λ d=>G8 F d.1.1,λ d r=>((r,()),())⟩ λ da db=>by
 obtain⟨(v0:List (List Int)),_⟩:=da;conv=>rhs;simp only[G8,a6,YJ,YK,Qg]
 kernel_rfl
noncomputable def arI(F:Nat):aN aB:=(arH F).rt 133 ⟨[.p (.B 0)],[fC,.m 3 4],[.p (.l 3)],[fC,.m 3 4],List Int,λ d=>zq F (⟨(dJ d.2.1),(gP d.2.1.2.2.2.2.2.2.2),d.2.1.2.2.2.2.2.2.2.2.2.2.2.2.1,d.2.1.2.2.2.2.2.2.2.2.2.2.2.2.2.1,d.2.2.1⟩:I.bg),λ d r=>((r,()),((d.2.1.1,d.2.1.2.1,d.2.1.2.2.1,d.2.1.2.2.2.1,d.2.1.2.2.2.2.1,d.2.1.2.2.2.2.2.1,d.2.1.2.2.2.2.2.2.1,d.2.1.2.2.2.2.2.2.2.1,d.2.1.2.2.2.2.2.2.2.2.1,d.2.1.2.2.2.2.2.2.2.2.2.1,d.2.1.2.2.2.2.2.2.2.2.2.2.1,d.2.1.2.2.2.2.2.2.2.2.2.2.2.1,d.2.1.2.2.2.2.2.2.2.2.2.2.2.2.1,d.2.1.2.2.2.2.2.2.2.2.2.2.2.2.2.1,(),()),d.2.2.1,()))⟩ λ da db=>by
 conv=>rhs;simp only[zq,a6]
 kernel_rfl
noncomputable def Uc(k:Nat)(b:I.bg)(a:List Int)(c:List (Int×Bool))(d:Int)(e1:Int):=c7 ((a.length:Int)=e1/\True) (bb (wH b a k c d))
theorem Yd(k:Nat)(b:I.bg)(a:List Int)(c:List (Int×Bool))(d:Int):bb (wH b a k c d)=Uc k b a c d (a.length:Int):=(dv ⟨rfl,trivial⟩).symm
noncomputable def arJ(F:Nat):aN aB:=(arI F).bU 103 0 F ⟨[0,3,9,10,11],[.p (.B 0),.p (.M 2),.p (.l 3),.p (.i .i64),.p (.i .i64)],[fC,.m 3 4,.m 3 4],
 [⟨⟨.nm,[0,3],[.p (.B 0),.p (.M 2)],[fC,.m 3 4,.m 3 4]⟩,List (Int×Bool),λ d r=>(((),(),()),((d.2.1.1,d.2.1.2.1,d.2.1.2.2.1,d.2.1.2.2.2.1,d.2.1.2.2.2.2.1,d.2.1.2.2.2.2.2.1,d.2.1.2.2.2.2.2.2.1,d.2.1.2.2.2.2.2.2.2.1,d.2.1.2.2.2.2.2.2.2.2.1,d.2.1.2.2.2.2.2.2.2.2.2.1,d.2.1.2.2.2.2.2.2.2.2.2.2.1,d.2.1.2.2.2.2.2.2.2.2.2.2.2.1,d.2.1.2.2.2.2.2.2.2.2.2.2.2.2.1,d.2.1.2.2.2.2.2.2.2.2.2.2.2.2.2.1,(),()),d.2.2.1,r,()))⟩,
  ⟨⟨.rt,[2],[.p (.i .i64)],[fC,.m 3 4,.d]⟩,Int,λ d r=>((r,()),((d.2.1.1,d.2.1.2.1,d.2.1.2.2.1,d.2.1.2.2.2.1,d.2.1.2.2.2.2.1,d.2.1.2.2.2.2.2.1,d.2.1.2.2.2.2.2.2.1,d.2.1.2.2.2.2.2.2.2.1,d.2.1.2.2.2.2.2.2.2.2.1,d.2.1.2.2.2.2.2.2.2.2.2.1,d.2.1.2.2.2.2.2.2.2.2.2.2.1,d.2.1.2.2.2.2.2.2.2.2.2.2.2.1,d.2.1.2.2.2.2.2.2.2.2.2.2.2.2.1,d.2.1.2.2.2.2.2.2.2.2.2.2.2.2.2.1,(),()),d.2.2.1,(),()))⟩],
 λ k d=>Uc k (⟨(dJ d.2.1),(gP d.2.1.2.2.2.2.2.2.2),d.2.1.2.2.2.2.2.2.2.2.2.2.2.2.1,d.2.1.2.2.2.2.2.2.2.2.2.2.2.2.2.1,d.2.2.1⟩:I.bg) d.1.2.2.1 d.2.2.2.1 d.1.2.2.2.2.1 d.1.2.2.2.1⟩ (bI.bR (λ d=>du) λ k da db q h=>by
 obtain⟨_,_,(v0:List Int),(v1:Int),(f:Int),_⟩:=da
 obtain⟨⟨(v3:List Int),(v4:Int),(v5:Int),(g:Int),(i:Int),(j:List Int),(v9:Int),(a:List I.ak),(b:List Int),(c:List (List I.Field)),(l:List (List (List UInt8))),(ec:List (List I.Target)),(m:List Int),(n:List Int),_,_⟩,(e:List (Int×Bool)),(o:List (Int×Bool)),_⟩:=db
 obtain⟨p,_⟩:=dV h
 dsimp only at p
 obtain⟨rfl,_⟩:=p
 conv=>rhs;change dh (α:=(List (Int×Bool))⊕Int) _ (Uc (k+1) (⟨(⟨v3,v4,v5,g,i,j,v9⟩:I.aR),(⟨(⟨a,b,c,l,ec⟩:I.aP)⟩:I.b4),m,n,e⟩:I.bg) v0 o f (v0.length:Int));rw[<-Yd (k+1) (⟨(⟨v3,v4,v5,g,i,j,v9⟩:I.aR),(⟨(⟨a,b,c,l,ec⟩:I.aP)⟩:I.b4),m,n,e⟩:I.bg) v0 o f];simp only[wH,a6,Yd];simp only[bQ]
 kernel_rfl)
noncomputable def arK(F:Nat):aN aB:=(arJ F).rt 103 ⟨[.p (.B 0)],[fC,.m 3 4],[.p (.i .i64)],[fC,.m 3 4],Int,λ d=>F2 F (⟨(dJ d.2.1),(gP d.2.1.2.2.2.2.2.2.2),d.2.1.2.2.2.2.2.2.2.2.2.2.2.2.1,d.2.1.2.2.2.2.2.2.2.2.2.2.2.2.2.1,d.2.2.1⟩:I.bg),λ d r=>((r,()),((d.2.1.1,d.2.1.2.1,d.2.1.2.2.1,d.2.1.2.2.2.1,d.2.1.2.2.2.2.1,d.2.1.2.2.2.2.2.1,d.2.1.2.2.2.2.2.2.1,d.2.1.2.2.2.2.2.2.2.1,d.2.1.2.2.2.2.2.2.2.2.1,d.2.1.2.2.2.2.2.2.2.2.2.1,d.2.1.2.2.2.2.2.2.2.2.2.2.1,d.2.1.2.2.2.2.2.2.2.2.2.2.2.1,d.2.1.2.2.2.2.2.2.2.2.2.2.2.2.1,d.2.1.2.2.2.2.2.2.2.2.2.2.2.2.2.1,(),()),d.2.2.1,()))⟩ λ da db=>by
 obtain⟨_,_⟩:=da;obtain⟨⟨(v0:List Int),(v1:Int),(e:Int),(v3:Int),(v4:Int),(v5:List Int),(f:Int),(g:List I.ak),(h:List Int),(v9:List (List I.Field)),(a:List (List (List UInt8))),(b:List (List I.Target)),(c:List Int),(i:List Int),_,_⟩,(ec:List (Int×Bool)),_⟩:=db;conv=>rhs;simp only[F2,a6,Yd]
 kernel_rfl
noncomputable def arL(F:Nat):aN aB:=(arK F).rt 99 ⟨[hz,.p (.i .i64),.p (.i .i64)],[],[.p (.b)],[],Bool,λ d=>rY (gP d.1.1) d.1.2.1 d.1.2.2.1,λ d r=>((r,()),())⟩ λ da db=>by
 conv=>rhs;simp only[rY,a6]
 kernel_rfl
noncomputable def arN(F:Nat):aN aB:=(arL F).bU 134 0 F ⟨[0,1,5,15,16],[.p (.B 0),.p (.i .i64),.p (.R 2),.p (.i .i64),.p (.i .i64)],[fC,.m 3 4,.r 3 false],
 [⟨⟨.nm,[5],[.p (.R 2)],[fC,.m 3 4,.r 3 false]⟩,List Int,λ d r=>(((),()),((d.2.1.1,d.2.1.2.1,d.2.1.2.2.1,d.2.1.2.2.2.1,d.2.1.2.2.2.2.1,d.2.1.2.2.2.2.2.1,d.2.1.2.2.2.2.2.2.1,d.2.1.2.2.2.2.2.2.2.1,d.2.1.2.2.2.2.2.2.2.2.1,d.2.1.2.2.2.2.2.2.2.2.2.1,d.2.1.2.2.2.2.2.2.2.2.2.2.1,d.2.1.2.2.2.2.2.2.2.2.2.2.2.1,d.2.1.2.2.2.2.2.2.2.2.2.2.2.2.1,d.2.1.2.2.2.2.2.2.2.2.2.2.2.2.2.1,(),()),d.2.2.1,r,()))⟩],
 λ k d=>wG d.1.2.1 (⟨(dJ d.2.1),(gP d.2.1.2.2.2.2.2.2.2),d.2.1.2.2.2.2.2.2.2.2.2.2.2.2.1,d.2.1.2.2.2.2.2.2.2.2.2.2.2.2.2.1,d.2.2.1⟩:I.bg) d.1.2.2.2.1 k d.2.2.2.1 d.1.2.2.2.2.1⟩ (bI.bR (λ d=>rfl) λ k da db q h=>by
 conv=>rhs;simp only[wG,a6];simp only[bQ]
 kernel_rfl)
noncomputable def arO(F:Nat):aN aB:=(arN F).rt 134 ⟨[.p (.B 0),.p (.i .i64)],[fC,.m 3 4],[.p (.l 3)],[fC,.m 3 4],List Int,λ d=>qd F (⟨(dJ d.2.1),(gP d.2.1.2.2.2.2.2.2.2),d.2.1.2.2.2.2.2.2.2.2.2.2.2.2.1,d.2.1.2.2.2.2.2.2.2.2.2.2.2.2.2.1,d.2.2.1⟩:I.bg) d.1.2.1,λ d r=>((r,()),((d.2.1.1,d.2.1.2.1,d.2.1.2.2.1,d.2.1.2.2.2.1,d.2.1.2.2.2.2.1,d.2.1.2.2.2.2.2.1,d.2.1.2.2.2.2.2.2.1,d.2.1.2.2.2.2.2.2.2.1,d.2.1.2.2.2.2.2.2.2.2.1,d.2.1.2.2.2.2.2.2.2.2.2.1,d.2.1.2.2.2.2.2.2.2.2.2.2.1,d.2.1.2.2.2.2.2.2.2.2.2.2.2.1,d.2.1.2.2.2.2.2.2.2.2.2.2.2.2.1,d.2.1.2.2.2.2.2.2.2.2.2.2.2.2.2.1,(),()),d.2.2.1,()))⟩ λ da db=>by
 conv=>rhs;simp only[qd,a6]
 kernel_rfl
noncomputable def arP(F:Nat):aN aB:=(arO F).rt 136 ⟨[.p (.i .i64)],[],[.p (.b)],[],Bool,λ d=>Vj d.1.1,λ d r=>((r,()),())⟩ λ da db=>by
 conv=>rhs;simp only[Vj,a6]
 kernel_rfl
noncomputable def arQ(F:Nat):aN aB:=(arP F).rt 137 ⟨[.p (.B 0),.p (.i .i64)],[fC,.m 3 4],[.p (.b)],[fC,.m 3 4],Bool,λ d=>F1 (⟨(dJ d.2.1),(gP d.2.1.2.2.2.2.2.2.2),d.2.1.2.2.2.2.2.2.2.2.2.2.2.2.1,d.2.1.2.2.2.2.2.2.2.2.2.2.2.2.2.1,d.2.2.1⟩:I.bg) d.1.2.1,λ d r=>((r,()),((d.2.1.1,d.2.1.2.1,d.2.1.2.2.1,d.2.1.2.2.2.1,d.2.1.2.2.2.2.1,d.2.1.2.2.2.2.2.1,d.2.1.2.2.2.2.2.2.1,d.2.1.2.2.2.2.2.2.2.1,d.2.1.2.2.2.2.2.2.2.2.1,d.2.1.2.2.2.2.2.2.2.2.2.1,d.2.1.2.2.2.2.2.2.2.2.2.2.1,d.2.1.2.2.2.2.2.2.2.2.2.2.2.1,d.2.1.2.2.2.2.2.2.2.2.2.2.2.2.1,d.2.1.2.2.2.2.2.2.2.2.2.2.2.2.2.1,(),()),d.2.2.1,()))⟩ λ da db=>by
 conv=>rhs;simp only[F1,a6]
 kernel_rfl
noncomputable def arR(F:Nat):aN aB:=(arQ F).rt 139 ⟨[.p (.i .i64),.p (.B 0)],[.c 60 [.B 1],h_,.m 3 4],[.p (.b)],[.c 60 [.B 1],h_,.m 3 4],Bool,λ d=>NP d.1.1 (⟨(dJ d.2.2.1),(gP d.2.2.1.2.2.2.2.2.2.2),d.2.2.1.2.2.2.2.2.2.2.2.2.2.2.2.1,d.2.2.1.2.2.2.2.2.2.2.2.2.2.2.2.2.1,d.2.2.2.1⟩:I.bg),λ d r=>((r,()),(((),()),(d.2.2.1.1,d.2.2.1.2.1,d.2.2.1.2.2.1,d.2.2.1.2.2.2.1,d.2.2.1.2.2.2.2.1,d.2.2.1.2.2.2.2.2.1,d.2.2.1.2.2.2.2.2.2.1,d.2.2.1.2.2.2.2.2.2.2.1,d.2.2.1.2.2.2.2.2.2.2.2.1,d.2.2.1.2.2.2.2.2.2.2.2.2.1,d.2.2.1.2.2.2.2.2.2.2.2.2.2.1,d.2.2.1.2.2.2.2.2.2.2.2.2.2.2.1,d.2.2.1.2.2.2.2.2.2.2.2.2.2.2.2.1,d.2.2.1.2.2.2.2.2.2.2.2.2.2.2.2.2.1,(),()),d.2.2.2.1,()))⟩ λ da db=>by
 conv=>rhs;simp only[NP,a6]
 kernel_rfl
noncomputable def arS(F:Nat):aN aB:=(arR F).rt 68 ⟨[.p (.B 0),.p (.i .i64)],[fC,.m 3 4],[.p (.b)],[fC,.m 3 4],Bool,λ d=>F0 (⟨(dJ d.2.1),(gP d.2.1.2.2.2.2.2.2.2),d.2.1.2.2.2.2.2.2.2.2.2.2.2.2.1,d.2.1.2.2.2.2.2.2.2.2.2.2.2.2.2.1,d.2.2.1⟩:I.bg) d.1.2.1,λ d r=>((r,()),((d.2.1.1,d.2.1.2.1,d.2.1.2.2.1,d.2.1.2.2.2.1,d.2.1.2.2.2.2.1,d.2.1.2.2.2.2.2.1,d.2.1.2.2.2.2.2.2.1,d.2.1.2.2.2.2.2.2.2.1,d.2.1.2.2.2.2.2.2.2.2.1,d.2.1.2.2.2.2.2.2.2.2.2.1,d.2.1.2.2.2.2.2.2.2.2.2.2.1,d.2.1.2.2.2.2.2.2.2.2.2.2.2.1,d.2.1.2.2.2.2.2.2.2.2.2.2.2.2.1,d.2.1.2.2.2.2.2.2.2.2.2.2.2.2.2.1,(),()),d.2.2.1,()))⟩ λ da db=>by
 conv=>rhs;simp only[F0,a6]
 kernel_rfl
noncomputable def arT(F:Nat):aN aB:=(arS F).rt 67 ⟨[.p (.i .i64),.p (.B 0)],[.c 60 [.B 1],h_,.m 3 4],[.p (.b)],[.c 60 [.B 1],h_,.m 3 4],Bool,λ d=>RJ d.1.1 (⟨(dJ d.2.2.1),(gP d.2.2.1.2.2.2.2.2.2.2),d.2.2.1.2.2.2.2.2.2.2.2.2.2.2.2.1,d.2.2.1.2.2.2.2.2.2.2.2.2.2.2.2.2.1,d.2.2.2.1⟩:I.bg),λ d r=>((r,()),(((),()),(d.2.2.1.1,d.2.2.1.2.1,d.2.2.1.2.2.1,d.2.2.1.2.2.2.1,d.2.2.1.2.2.2.2.1,d.2.2.1.2.2.2.2.2.1,d.2.2.1.2.2.2.2.2.2.1,d.2.2.1.2.2.2.2.2.2.2.1,d.2.2.1.2.2.2.2.2.2.2.2.1,d.2.2.1.2.2.2.2.2.2.2.2.2.1,d.2.2.1.2.2.2.2.2.2.2.2.2.2.1,d.2.2.1.2.2.2.2.2.2.2.2.2.2.2.1,d.2.2.1.2.2.2.2.2.2.2.2.2.2.2.2.1,d.2.2.1.2.2.2.2.2.2.2.2.2.2.2.2.2.1,(),()),d.2.2.2.1,()))⟩ λ da db=>by
 conv=>rhs;simp only[RJ,a6]
 kernel_rfl
noncomputable def UT(k:Nat)(s_:List Int)(a:Int)(e1:Int):=c7 ((s_.length:Int)=e1/\True) (bb (AM s_ k a))
theorem YU(k:Nat)(s_:List Int)(a:Int):bb (AM s_ k a)=UT k s_ a (s_.length:Int):=(dv ⟨rfl,trivial⟩).symm
noncomputable def arU(F:Nat):aN aB:=(arT F).bU 106 0 F ⟨[0,1,7,8],[.p (.l 3),.f 136 [],.p (.i .i64),.p (.i .i64)],[],
 [⟨⟨.nm,[],[],[]⟩,Unit,λ d r=>((),())⟩,
  ⟨⟨.rt,[4],[.p (.i .i64)],[]⟩,Int,λ d r=>((r,()),())⟩],
 λ k d=>UT k d.1.1 d.1.2.2.2.1 d.1.2.2.1⟩ (bI.bR (λ d=>du) λ k da db q h=>by
 obtain⟨(v0:List Int),_,(v1:Int),(a:Int),_⟩:=da
 obtain⟨b,_⟩:=dV h
 dsimp only at b
 obtain⟨rfl,_⟩:=b
 conv=>rhs;change dh (α:=Unit⊕Int) _ (UT (k+1) v0 a (v0.length:Int));rw[<-YU (k+1) v0 a];simp only[AM,a6,YU];simp only[bQ]
 kernel_rfl)
noncomputable def arV(F:Nat):aN aB:=(arU F).rt 106 ⟨[.p (.l 3),.f 136 []],[],[.p (.i .i64)],[],Int,λ d=>Qi F d.1.1,λ d r=>((r,()),())⟩ λ da db=>by
 obtain⟨(v0:List Int),_,_⟩:=da;conv=>rhs;simp only[Qi,a6,YU]
 kernel_rfl
noncomputable def US(k:Nat)(s_:List Int)(a:I.bg)(b:Int)(e1:Int):=c7 ((s_.length:Int)=e1/\True) (bb (AL s_ a k b))
theorem YT(k:Nat)(s_:List Int)(a:I.bg)(b:Int):bb (AL s_ a k b)=US k s_ a b (s_.length:Int):=(dv ⟨rfl,trivial⟩).symm
noncomputable def arW(F:Nat):aN aB:=(arV F).J8 106 0 F ⟨[0,1,7,8],[.p (.l 3),.f 139 [.B 0],.p (.i .i64),.p (.i .i64)],[.c 60 [.B 1],h_,.m 3 4],
 [⟨⟨.nm,[],[],[.c 60 [.B 1],h_,.m 3 4]⟩,Unit,λ d r=>((),(((),()),(d.2.2.1.1,d.2.2.1.2.1,d.2.2.1.2.2.1,d.2.2.1.2.2.2.1,d.2.2.1.2.2.2.2.1,d.2.2.1.2.2.2.2.2.1,d.2.2.1.2.2.2.2.2.2.1,d.2.2.1.2.2.2.2.2.2.2.1,d.2.2.1.2.2.2.2.2.2.2.2.1,d.2.2.1.2.2.2.2.2.2.2.2.2.1,d.2.2.1.2.2.2.2.2.2.2.2.2.2.1,d.2.2.1.2.2.2.2.2.2.2.2.2.2.2.1,d.2.2.1.2.2.2.2.2.2.2.2.2.2.2.2.1,d.2.2.1.2.2.2.2.2.2.2.2.2.2.2.2.2.1,(),()),d.2.2.2.1,()))⟩,
  ⟨⟨.rt,[4],[.p (.i .i64)],[.c 60 [.B 1],h_,.m 3 4]⟩,Int,λ d r=>((r,()),(((),()),(d.2.2.1.1,d.2.2.1.2.1,d.2.2.1.2.2.1,d.2.2.1.2.2.2.1,d.2.2.1.2.2.2.2.1,d.2.2.1.2.2.2.2.2.1,d.2.2.1.2.2.2.2.2.2.1,d.2.2.1.2.2.2.2.2.2.2.1,d.2.2.1.2.2.2.2.2.2.2.2.1,d.2.2.1.2.2.2.2.2.2.2.2.2.1,d.2.2.1.2.2.2.2.2.2.2.2.2.2.1,d.2.2.1.2.2.2.2.2.2.2.2.2.2.2.1,d.2.2.1.2.2.2.2.2.2.2.2.2.2.2.2.1,d.2.2.1.2.2.2.2.2.2.2.2.2.2.2.2.2.1,(),()),d.2.2.2.1,()))⟩],
 λ k d=>US k d.1.1 (⟨(dJ d.2.2.1),(gP d.2.2.1.2.2.2.2.2.2.2),d.2.2.1.2.2.2.2.2.2.2.2.2.2.2.2.1,d.2.2.1.2.2.2.2.2.2.2.2.2.2.2.2.2.1,d.2.2.2.1⟩:I.bg) d.1.2.2.2.1 d.1.2.2.1⟩ (bI.bR (λ d=>du) λ k da db q h=>by
 obtain⟨(v0:List Int),⟨_,_⟩,(v1:Int),(f:Int),_⟩:=da
 obtain⟨⟨_,_⟩,⟨(v3:List Int),(v4:Int),(v5:Int),(g:Int),(i:Int),(j:List Int),(v9:Int),(a:List I.ak),(b:List Int),(c:List (List I.Field)),(l:List (List (List UInt8))),(ec:List (List I.Target)),(m:List Int),(n:List Int),_,_⟩,(e:List (Int×Bool)),_⟩:=db
 obtain⟨o,_⟩:=dV h
 dsimp only at o
 obtain⟨rfl,_⟩:=o
 conv=>rhs;change dh (α:=Unit⊕Int) _ (US (k+1) v0 (⟨(⟨v3,v4,v5,g,i,j,v9⟩:I.aR),(⟨(⟨a,b,c,l,ec⟩:I.aP)⟩:I.b4),m,n,e⟩:I.bg) f (v0.length:Int));rw[<-YT (k+1) v0 (⟨(⟨v3,v4,v5,g,i,j,v9⟩:I.aR),(⟨(⟨a,b,c,l,ec⟩:I.aP)⟩:I.b4),m,n,e⟩:I.bg) f];simp only[AL,a6,YT];simp only[bQ]
 kernel_rfl)
noncomputable def arY(F:Nat):aN aB:=(arW F).wh 106 ⟨[.p (.l 3),.f 139 [.B 0]],[.c 60 [.B 1],h_,.m 3 4],[.p (.i .i64)],[.c 60 [.B 1],h_,.m 3 4],Int,λ d=>Qh F d.1.1 (⟨(dJ d.2.2.1),(gP d.2.2.1.2.2.2.2.2.2.2),d.2.2.1.2.2.2.2.2.2.2.2.2.2.2.2.1,d.2.2.1.2.2.2.2.2.2.2.2.2.2.2.2.2.1,d.2.2.2.1⟩:I.bg),λ d r=>((r,()),(((),()),(d.2.2.1.1,d.2.2.1.2.1,d.2.2.1.2.2.1,d.2.2.1.2.2.2.1,d.2.2.1.2.2.2.2.1,d.2.2.1.2.2.2.2.2.1,d.2.2.1.2.2.2.2.2.2.1,d.2.2.1.2.2.2.2.2.2.2.1,d.2.2.1.2.2.2.2.2.2.2.2.1,d.2.2.1.2.2.2.2.2.2.2.2.2.1,d.2.2.1.2.2.2.2.2.2.2.2.2.2.1,d.2.2.1.2.2.2.2.2.2.2.2.2.2.2.1,d.2.2.1.2.2.2.2.2.2.2.2.2.2.2.2.1,d.2.2.1.2.2.2.2.2.2.2.2.2.2.2.2.2.1,(),()),d.2.2.2.1,()))⟩ λ da db=>by
 obtain⟨(v0:List Int),⟨_,_⟩,_⟩:=da;obtain⟨⟨_,_⟩,⟨(v1:List Int),(e:Int),(v3:Int),(v4:Int),(v5:Int),(f:List Int),(g:Int),(h:List I.ak),(v9:List Int),(a:List (List I.Field)),(b:List (List (List UInt8))),(c:List (List I.Target)),(i:List Int),(ec:List Int),_,_⟩,(j:List (Int×Bool)),_⟩:=db;conv=>rhs;simp only[Qh,a6,YT]
 kernel_rfl
noncomputable def UU(k:Nat)(s_:List Int)(a:I.bg)(b:Int)(e1:Int):=c7 ((s_.length:Int)=e1/\True) (bb (AN s_ a k b))
theorem YV(k:Nat)(s_:List Int)(a:I.bg)(b:Int):bb (AN s_ a k b)=UU k s_ a b (s_.length:Int):=(dv ⟨rfl,trivial⟩).symm
noncomputable def arZ(F:Nat):aN aB:=(arY F).J8 106 0 F ⟨[0,1,7,8],[.p (.l 3),.f 67 [.B 0],.p (.i .i64),.p (.i .i64)],[.c 60 [.B 1],h_,.m 3 4],
 [⟨⟨.nm,[],[],[.c 60 [.B 1],h_,.m 3 4]⟩,Unit,λ d r=>((),(((),()),(d.2.2.1.1,d.2.2.1.2.1,d.2.2.1.2.2.1,d.2.2.1.2.2.2.1,d.2.2.1.2.2.2.2.1,d.2.2.1.2.2.2.2.2.1,d.2.2.1.2.2.2.2.2.2.1,d.2.2.1.2.2.2.2.2.2.2.1,d.2.2.1.2.2.2.2.2.2.2.2.1,d.2.2.1.2.2.2.2.2.2.2.2.2.1,d.2.2.1.2.2.2.2.2.2.2.2.2.2.1,d.2.2.1.2.2.2.2.2.2.2.2.2.2.2.1,d.2.2.1.2.2.2.2.2.2.2.2.2.2.2.2.1,d.2.2.1.2.2.2.2.2.2.2.2.2.2.2.2.2.1,(),()),d.2.2.2.1,()))⟩,
  ⟨⟨.rt,[4],[.p (.i .i64)],[.c 60 [.B 1],h_,.m 3 4]⟩,Int,λ d r=>((r,()),(((),()),(d.2.2.1.1,d.2.2.1.2.1,d.2.2.1.2.2.1,d.2.2.1.2.2.2.1,d.2.2.1.2.2.2.2.1,d.2.2.1.2.2.2.2.2.1,d.2.2.1.2.2.2.2.2.2.1,d.2.2.1.2.2.2.2.2.2.2.1,d.2.2.1.2.2.2.2.2.2.2.2.1,d.2.2.1.2.2.2.2.2.2.2.2.2.1,d.2.2.1.2.2.2.2.2.2.2.2.2.2.1,d.2.2.1.2.2.2.2.2.2.2.2.2.2.2.1,d.2.2.1.2.2.2.2.2.2.2.2.2.2.2.2.1,d.2.2.1.2.2.2.2.2.2.2.2.2.2.2.2.2.1,(),()),d.2.2.2.1,()))⟩],
 λ k d=>UU k d.1.1 (⟨(dJ d.2.2.1),(gP d.2.2.1.2.2.2.2.2.2.2),d.2.2.1.2.2.2.2.2.2.2.2.2.2.2.2.1,d.2.2.1.2.2.2.2.2.2.2.2.2.2.2.2.2.1,d.2.2.2.1⟩:I.bg) d.1.2.2.2.1 d.1.2.2.1⟩ (bI.bR (λ d=>du) λ k da db q h=>by
 obtain⟨(v0:List Int),⟨_,_⟩,(v1:Int),(f:Int),_⟩:=da
 obtain⟨⟨_,_⟩,⟨(v3:List Int),(v4:Int),(v5:Int),(g:Int),(i:Int),(j:List Int),(v9:Int),(a:List I.ak),(b:List Int),(c:List (List I.Field)),(l:List (List (List UInt8))),(ec:List (List I.Target)),(m:List Int),(n:List Int),_,_⟩,(e:List (Int×Bool)),_⟩:=db
 obtain⟨o,_⟩:=dV h
 dsimp only at o
 obtain⟨rfl,_⟩:=o
 conv=>rhs;change dh (α:=Unit⊕Int) _ (UU (k+1) v0 (⟨(⟨v3,v4,v5,g,i,j,v9⟩:I.aR),(⟨(⟨a,b,c,l,ec⟩:I.aP)⟩:I.b4),m,n,e⟩:I.bg) f (v0.length:Int));rw[<-YV (k+1) v0 (⟨(⟨v3,v4,v5,g,i,j,v9⟩:I.aR),(⟨(⟨a,b,c,l,ec⟩:I.aP)⟩:I.b4),m,n,e⟩:I.bg) f];simp only[AN,a6,YV];simp only[bQ]
 kernel_rfl)
noncomputable def ar0(F:Nat):aN aB:=(arZ F).wh 106 ⟨[.p (.l 3),.f 67 [.B 0]],[.c 60 [.B 1],h_,.m 3 4],[.p (.i .i64)],[.c 60 [.B 1],h_,.m 3 4],Int,λ d=>Qj F d.1.1 (⟨(dJ d.2.2.1),(gP d.2.2.1.2.2.2.2.2.2.2),d.2.2.1.2.2.2.2.2.2.2.2.2.2.2.2.1,d.2.2.1.2.2.2.2.2.2.2.2.2.2.2.2.2.1,d.2.2.2.1⟩:I.bg),λ d r=>((r,()),(((),()),(d.2.2.1.1,d.2.2.1.2.1,d.2.2.1.2.2.1,d.2.2.1.2.2.2.1,d.2.2.1.2.2.2.2.1,d.2.2.1.2.2.2.2.2.1,d.2.2.1.2.2.2.2.2.2.1,d.2.2.1.2.2.2.2.2.2.2.1,d.2.2.1.2.2.2.2.2.2.2.2.1,d.2.2.1.2.2.2.2.2.2.2.2.2.1,d.2.2.1.2.2.2.2.2.2.2.2.2.2.1,d.2.2.1.2.2.2.2.2.2.2.2.2.2.2.1,d.2.2.1.2.2.2.2.2.2.2.2.2.2.2.2.1,d.2.2.1.2.2.2.2.2.2.2.2.2.2.2.2.2.1,(),()),d.2.2.2.1,()))⟩ λ da db=>by
 obtain⟨(v0:List Int),⟨_,_⟩,_⟩:=da;obtain⟨⟨_,_⟩,⟨(v1:List Int),(e:Int),(v3:Int),(v4:Int),(v5:Int),(f:List Int),(g:Int),(h:List I.ak),(v9:List Int),(a:List (List I.Field)),(b:List (List (List UInt8))),(c:List (List I.Target)),(i:List Int),(ec:List Int),_,_⟩,(j:List (Int×Bool)),_⟩:=db;conv=>rhs;simp only[Qj,a6,YV]
 kernel_rfl
noncomputable def ar1(F:Nat):aN aB:=(ar0 F).rt 66 ⟨[.p (.l 3),.f 136 []],[],[.p (.b)],[],Bool,λ d=>Qd F d.1.1,λ d r=>((r,()),())⟩ λ da db=>by
 conv=>rhs;simp only[Qd,a6]
 kernel_rfl
noncomputable def ar2(F:Nat):aN aB:=(ar1 F).wh 66 ⟨[.p (.l 3),.f 139 [.B 0]],[.c 60 [.B 1],h_,.m 3 4],[.p (.b)],[.c 60 [.B 1],h_,.m 3 4],Bool,λ d=>Qc F d.1.1 (⟨(dJ d.2.2.1),(gP d.2.2.1.2.2.2.2.2.2.2),d.2.2.1.2.2.2.2.2.2.2.2.2.2.2.2.1,d.2.2.1.2.2.2.2.2.2.2.2.2.2.2.2.2.1,d.2.2.2.1⟩:I.bg),λ d r=>((r,()),(((),()),(d.2.2.1.1,d.2.2.1.2.1,d.2.2.1.2.2.1,d.2.2.1.2.2.2.1,d.2.2.1.2.2.2.2.1,d.2.2.1.2.2.2.2.2.1,d.2.2.1.2.2.2.2.2.2.1,d.2.2.1.2.2.2.2.2.2.2.1,d.2.2.1.2.2.2.2.2.2.2.2.1,d.2.2.1.2.2.2.2.2.2.2.2.2.1,d.2.2.1.2.2.2.2.2.2.2.2.2.2.1,d.2.2.1.2.2.2.2.2.2.2.2.2.2.2.1,d.2.2.1.2.2.2.2.2.2.2.2.2.2.2.2.1,d.2.2.1.2.2.2.2.2.2.2.2.2.2.2.2.2.1,(),()),d.2.2.2.1,()))⟩ λ da db=>by
 conv=>rhs;simp only[Qc,a6]
 kernel_rfl
noncomputable def ar3(F:Nat):aN aB:=(ar2 F).wh 66 ⟨[.p (.l 3),.f 67 [.B 0]],[.c 60 [.B 1],h_,.m 3 4],[.p (.b)],[.c 60 [.B 1],h_,.m 3 4],Bool,λ d=>Qf F d.1.1 (⟨(dJ d.2.2.1),(gP d.2.2.1.2.2.2.2.2.2.2),d.2.2.1.2.2.2.2.2.2.2.2.2.2.2.2.1,d.2.2.1.2.2.2.2.2.2.2.2.2.2.2.2.2.1,d.2.2.2.1⟩:I.bg),λ d r=>((r,()),(((),()),(d.2.2.1.1,d.2.2.1.2.1,d.2.2.1.2.2.1,d.2.2.1.2.2.2.1,d.2.2.1.2.2.2.2.1,d.2.2.1.2.2.2.2.2.1,d.2.2.1.2.2.2.2.2.2.1,d.2.2.1.2.2.2.2.2.2.2.1,d.2.2.1.2.2.2.2.2.2.2.2.1,d.2.2.1.2.2.2.2.2.2.2.2.2.1,d.2.2.1.2.2.2.2.2.2.2.2.2.2.1,d.2.2.1.2.2.2.2.2.2.2.2.2.2.2.1,d.2.2.1.2.2.2.2.2.2.2.2.2.2.2.2.1,d.2.2.1.2.2.2.2.2.2.2.2.2.2.2.2.2.1,(),()),d.2.2.2.1,()))⟩ λ da db=>by
 conv=>rhs;simp only[Qf,a6]
 kernel_rfl
noncomputable def Ui(k:Nat)(b:I.bg)(a:List Int)(c:Int)(e4:Int):=c7 ((a.length:Int)=e4/\True) (bb (wJ b a k c))
theorem Yj(k:Nat)(b:I.bg)(a:List Int)(c:Int):bb (wJ b a k c)=Ui k b a c (a.length:Int):=(dv ⟨rfl,trivial⟩).symm
noncomputable def ar4(F:Nat):aN aB:=(ar3 F).bU 104 2 F ⟨[0,10,11,12,18,19,20],[.p (.B 0),.p (.l 3),.p (.i .i64),.p (.i .i64),.p (.l 3),.p (.i .i64),.p (.i .i64)],[fC,.m 3 4],
 [⟨⟨.nm,[0,10,11,12],[.p (.B 0),.p (.l 3),.p (.i .i64),.p (.i .i64)],[fC,.m 3 4]⟩,Unit,λ d r=>(((),d.1.2.1,d.1.2.2.1,d.1.2.2.2.1,()),((d.2.1.1,d.2.1.2.1,d.2.1.2.2.1,d.2.1.2.2.2.1,d.2.1.2.2.2.2.1,d.2.1.2.2.2.2.2.1,d.2.1.2.2.2.2.2.2.1,d.2.1.2.2.2.2.2.2.2.1,d.2.1.2.2.2.2.2.2.2.2.1,d.2.1.2.2.2.2.2.2.2.2.2.1,d.2.1.2.2.2.2.2.2.2.2.2.2.1,d.2.1.2.2.2.2.2.2.2.2.2.2.2.1,d.2.1.2.2.2.2.2.2.2.2.2.2.2.2.1,d.2.1.2.2.2.2.2.2.2.2.2.2.2.2.2.1,(),()),d.2.2.1,()))⟩,
  ⟨⟨.rt,[2],[.p (.i .i64)],[fC,.m 3 4]⟩,Int,λ d r=>((r,()),((d.2.1.1,d.2.1.2.1,d.2.1.2.2.1,d.2.1.2.2.2.1,d.2.1.2.2.2.2.1,d.2.1.2.2.2.2.2.1,d.2.1.2.2.2.2.2.2.1,d.2.1.2.2.2.2.2.2.2.1,d.2.1.2.2.2.2.2.2.2.2.1,d.2.1.2.2.2.2.2.2.2.2.2.1,d.2.1.2.2.2.2.2.2.2.2.2.2.1,d.2.1.2.2.2.2.2.2.2.2.2.2.2.1,d.2.1.2.2.2.2.2.2.2.2.2.2.2.2.1,d.2.1.2.2.2.2.2.2.2.2.2.2.2.2.2.1,(),()),d.2.2.1,()))⟩],
 λ k d=>Ui k (⟨(dJ d.2.1),(gP d.2.1.2.2.2.2.2.2.2),d.2.1.2.2.2.2.2.2.2.2.2.2.2.2.1,d.2.1.2.2.2.2.2.2.2.2.2.2.2.2.2.1,d.2.2.1⟩:I.bg) d.1.2.2.2.2.1 d.1.2.2.2.2.2.2.1 d.1.2.2.2.2.2.1⟩ (bI.bR (λ d=>du) λ k da db q h=>by
 obtain⟨_,(v0:List Int),(v1:Int),(t:Int),(v3:List Int),(v4:Int),(v5:Int),_⟩:=da
 obtain⟨⟨(g:List Int),(i:Int),(j:Int),(v9:Int),(a:Int),(b:List Int),(c:Int),(l:List I.ak),(ec:List Int),(m:List (List I.Field)),(n:List (List (List UInt8))),(e:List (List I.Target)),(o:List Int),(p:List Int),_,_⟩,(f:List (Int×Bool)),_⟩:=db
 obtain⟨s,_⟩:=dV h
 dsimp only at s
 obtain⟨rfl,_⟩:=s
 conv=>rhs;change dh (α:=Unit⊕Int) _ (Ui (k+1) (⟨(⟨g,i,j,v9,a,b,c⟩:I.aR),(⟨(⟨l,ec,m,n,e⟩:I.aP)⟩:I.b4),o,p,f⟩:I.bg) v3 v5 (v3.length:Int));rw[<-Yj (k+1) (⟨(⟨g,i,j,v9,a,b,c⟩:I.aR),(⟨(⟨l,ec,m,n,e⟩:I.aP)⟩:I.b4),o,p,f⟩:I.bg) v3 v5];simp only[wJ,a6,Yj,aCq];simp only[bQ]
 kernel_rfl)
noncomputable def Uh(F:Nat)(k:Nat)(b:I.bg)(a:List Int)(Ah:Int)(e1:Int):=c7 ((a.length:Int)=e1/\True) (bb (zr F b a k Ah))
theorem Yi(F:Nat)(k:Nat)(b:I.bg)(a:List Int)(Ah:Int):bb (zr F b a k Ah)=Uh F k b a Ah (a.length:Int):=(dv ⟨rfl,trivial⟩).symm
noncomputable def ar5(F:Nat):aN aB:=(ar4 F).bU 104 0 F ⟨[0,10,11,12],[.p (.B 0),.p (.l 3),.p (.i .i64),.p (.i .i64)],[fC,.m 3 4],
 [⟨⟨.nm,[0],[.p (.B 0)],[fC,.m 3 4]⟩,Unit,λ d r=>(((),()),((d.2.1.1,d.2.1.2.1,d.2.1.2.2.1,d.2.1.2.2.2.1,d.2.1.2.2.2.2.1,d.2.1.2.2.2.2.2.1,d.2.1.2.2.2.2.2.2.1,d.2.1.2.2.2.2.2.2.2.1,d.2.1.2.2.2.2.2.2.2.2.1,d.2.1.2.2.2.2.2.2.2.2.2.1,d.2.1.2.2.2.2.2.2.2.2.2.2.1,d.2.1.2.2.2.2.2.2.2.2.2.2.2.1,d.2.1.2.2.2.2.2.2.2.2.2.2.2.2.1,d.2.1.2.2.2.2.2.2.2.2.2.2.2.2.2.1,(),()),d.2.2.1,()))⟩,
  ⟨⟨.rt,[2],[.p (.i .i64)],[fC,.m 3 4]⟩,Int,λ d r=>((r,()),((d.2.1.1,d.2.1.2.1,d.2.1.2.2.1,d.2.1.2.2.2.1,d.2.1.2.2.2.2.1,d.2.1.2.2.2.2.2.1,d.2.1.2.2.2.2.2.2.1,d.2.1.2.2.2.2.2.2.2.1,d.2.1.2.2.2.2.2.2.2.2.1,d.2.1.2.2.2.2.2.2.2.2.2.1,d.2.1.2.2.2.2.2.2.2.2.2.2.1,d.2.1.2.2.2.2.2.2.2.2.2.2.2.1,d.2.1.2.2.2.2.2.2.2.2.2.2.2.2.1,d.2.1.2.2.2.2.2.2.2.2.2.2.2.2.2.1,(),()),d.2.2.1,()))⟩],
 λ k d=>Uh F k (⟨(dJ d.2.1),(gP d.2.1.2.2.2.2.2.2.2),d.2.1.2.2.2.2.2.2.2.2.2.2.2.2.1,d.2.1.2.2.2.2.2.2.2.2.2.2.2.2.2.1,d.2.2.1⟩:I.bg) d.1.2.1 d.1.2.2.2.1 d.1.2.2.1⟩ (bI.bR (λ d=>du) λ k da db q h=>by
 obtain⟨_,(v0:List Int),(v1:Int),(f:Int),_⟩:=da
 obtain⟨⟨(v3:List Int),(v4:Int),(v5:Int),(g:Int),(i:Int),(j:List Int),(v9:Int),(a:List I.ak),(b:List Int),(c:List (List I.Field)),(l:List (List (List UInt8))),(ec:List (List I.Target)),(m:List Int),(n:List Int),_,_⟩,(e:List (Int×Bool)),_⟩:=db
 obtain⟨o,_⟩:=dV h
 dsimp only at o
 obtain⟨rfl,_⟩:=o
 conv=>rhs;change dh (α:=Unit⊕Int) _ (Uh F (k+1) (⟨(⟨v3,v4,v5,g,i,j,v9⟩:I.aR),(⟨(⟨a,b,c,l,ec⟩:I.aP)⟩:I.b4),m,n,e⟩:I.bg) v0 f (v0.length:Int));rw[<-Yi F (k+1) (⟨(⟨v3,v4,v5,g,i,j,v9⟩:I.aR),(⟨(⟨a,b,c,l,ec⟩:I.aP)⟩:I.b4),m,n,e⟩:I.bg) v0 f];simp only[zr,a6,Yj,Yi];simp only[bQ]
 kernel_rfl)
noncomputable def ar6(F:Nat):aN aB:=(ar5 F).rt 104 ⟨[.p (.B 0)],[fC,.m 3 4],[.p (.i .i64)],[fC,.m 3 4],Int,λ d=>F4 F (⟨(dJ d.2.1),(gP d.2.1.2.2.2.2.2.2.2),d.2.1.2.2.2.2.2.2.2.2.2.2.2.2.1,d.2.1.2.2.2.2.2.2.2.2.2.2.2.2.2.1,d.2.2.1⟩:I.bg),λ d r=>((r,()),((d.2.1.1,d.2.1.2.1,d.2.1.2.2.1,d.2.1.2.2.2.1,d.2.1.2.2.2.2.1,d.2.1.2.2.2.2.2.1,d.2.1.2.2.2.2.2.2.1,d.2.1.2.2.2.2.2.2.2.1,d.2.1.2.2.2.2.2.2.2.2.1,d.2.1.2.2.2.2.2.2.2.2.2.1,d.2.1.2.2.2.2.2.2.2.2.2.2.1,d.2.1.2.2.2.2.2.2.2.2.2.2.2.1,d.2.1.2.2.2.2.2.2.2.2.2.2.2.2.1,d.2.1.2.2.2.2.2.2.2.2.2.2.2.2.2.1,(),()),d.2.2.1,()))⟩ λ da db=>by
 obtain⟨_,_⟩:=da;obtain⟨⟨(v0:List Int),(v1:Int),(e:Int),(v3:Int),(v4:Int),(v5:List Int),(f:Int),(g:List I.ak),(h:List Int),(v9:List (List I.Field)),(a:List (List (List UInt8))),(b:List (List I.Target)),(c:List Int),(i:List Int),_,_⟩,(ec:List (Int×Bool)),_⟩:=db;conv=>rhs;simp only[F4,a6,Yi]
 kernel_rfl
noncomputable def ar7(F:Nat):aN aB:=(ar6 F).rt 172 ⟨[.p (.i .i64)],[],[.p (.b)],[],Bool,λ d=>cmp_isNaN_int d.1.1,λ d r=>((r,()),())⟩ λ da db=>by
 kernel_rfl
noncomputable def an'(F:Nat):aN aB:=(ar7 F).rt 160 ⟨[.p (.i .i64),.p (.i .i64)],[],[.p (.b)],[],Bool,λ d=>cmp_Less_int d.1.1 d.1.2.1,λ d r=>((r,()),())⟩ λ da db=>by
 conv=>rhs;simp only[cmp_Less_int,a6]
 kernel_rfl
noncomputable def aoa(F:Nat):aN aB:=(an' F).rt 161 ⟨[.p (.i .i64)],[],[.p (.b)],[],Bool,λ d=>Qk d.1.1,λ d r=>((r,()),())⟩ λ da db=>by
 kernel_rfl
noncomputable def UH(k:Nat)(b:Int)(a:List Int)(sp:Int)(c:Int)(e2:Int):=c7 ((a.length:Int)=e2/\True) (uL b a k sp c)
theorem YI(k:Nat)(b:Int)(a:List Int)(sp:Int)(c:Int):uL b a k sp c=UH k b a sp c (a.length:Int):=(dv ⟨rfl,trivial⟩).symm
noncomputable def aob(F:Nat):aN aB:=(aoa F).bU 138 0 F ⟨[0,1,6,7,8],[.p (.l 3),.p (.i .i64),.p (.i .i64),.p (.i .i64),.p (.i .i64)],[],
 [⟨⟨.nm,[0,1,6,7],[.p (.l 3),.p (.i .i64),.p (.i .i64),.p (.i .i64)],[]⟩,Int,λ d r=>((d.1.1,d.1.2.1,d.1.2.2.1,r,()),())⟩],
 λ k d=>UH k d.1.2.1 d.1.1 d.1.2.2.2.1 d.1.2.2.2.2.1 d.1.2.2.1⟩ (bI.bR (λ d=>du) λ k da db q h=>by
 obtain⟨(v0:List Int),(v1:Int),(b:Int),(v3:Int),(v4:Int),_⟩:=da
 obtain⟨a,_⟩:=dV h
 dsimp only at a
 obtain⟨rfl,_⟩:=a
 conv=>rhs;change dh (α:=Int) _ (UH (k+1) v1 v0 v3 v4 (v0.length:Int));rw[<-YI (k+1) v1 v0 v3 v4];simp only[uL,a6,YI];simp only[bQ]
 kernel_rfl)
noncomputable def aoc(F:Nat):aN aB:=(aob F).rt 138 ⟨[.p (.l 3),.p (.i .i64)],[],[.p (.i .i64),.p (.b)],[],Int×Bool,λ d=>KX F d.1.1 d.1.2.1,λ d r=>((r.1,r.2,()),())⟩ λ da db=>by
 obtain⟨(v0:List Int),(v1:Int),_⟩:=da;conv=>rhs;simp only[KX,a6,YI]
 kernel_rfl
noncomputable def Ud(F:Nat)(k:Nat)(a:I.bg)(b:Int)(e1:List Int)(e2:Int)(FD:List Int):=c7 ((a.H.aS:List Int)=e1/\(a.H.aS.length:Int)=e2/\(a.H.aS:List Int)=FD/\True) (bb (tO F a k b))
theorem Yf(F:Nat)(k:Nat)(a:I.bg)(b:Int):bb (tO F a k b)=Ud F k a b a.H.aS (a.H.aS.length:Int) a.H.aS:=(dv ⟨rfl,rfl,rfl,trivial⟩).symm
noncomputable def aod(F:Nat):aN aB:=(aoc F).bU 105 0 F ⟨[1,3,16,17,18],[.p (.B 0),.p (.l 3),.p (.l 3),.p (.i .i64),.p (.i .i64)],[.c 60 [.B 1],h_,.m 3 4],
 [⟨⟨.nm,[1,3],[.p (.B 0),.p (.l 3)],[.c 60 [.B 1],h_,.m 3 4]⟩,Unit,λ d r=>(((),d.1.2.1,()),(((),()),(d.2.2.1.1,d.2.2.1.2.1,d.2.2.1.2.2.1,d.2.2.1.2.2.2.1,d.2.2.1.2.2.2.2.1,d.2.2.1.2.2.2.2.2.1,d.2.2.1.2.2.2.2.2.2.1,d.2.2.1.2.2.2.2.2.2.2.1,d.2.2.1.2.2.2.2.2.2.2.2.1,d.2.2.1.2.2.2.2.2.2.2.2.2.1,d.2.2.1.2.2.2.2.2.2.2.2.2.2.1,d.2.2.1.2.2.2.2.2.2.2.2.2.2.2.1,d.2.2.1.2.2.2.2.2.2.2.2.2.2.2.2.1,d.2.2.1.2.2.2.2.2.2.2.2.2.2.2.2.2.1,(),()),d.2.2.2.1,()))⟩,
  ⟨⟨.rt,[2],[.p (.i .i64)],[.c 60 [.B 1],h_,.m 3 4]⟩,Int,λ d r=>((r,()),(((),()),(d.2.2.1.1,d.2.2.1.2.1,d.2.2.1.2.2.1,d.2.2.1.2.2.2.1,d.2.2.1.2.2.2.2.1,d.2.2.1.2.2.2.2.2.1,d.2.2.1.2.2.2.2.2.2.1,d.2.2.1.2.2.2.2.2.2.2.1,d.2.2.1.2.2.2.2.2.2.2.2.1,d.2.2.1.2.2.2.2.2.2.2.2.2.1,d.2.2.1.2.2.2.2.2.2.2.2.2.2.1,d.2.2.1.2.2.2.2.2.2.2.2.2.2.2.1,d.2.2.1.2.2.2.2.2.2.2.2.2.2.2.2.1,d.2.2.1.2.2.2.2.2.2.2.2.2.2.2.2.2.1,(),()),d.2.2.2.1,()))⟩],
 λ k d=>Ud F k (⟨(⟨d.2.2.1.1,d.2.2.1.2.1,d.2.2.1.2.2.1,d.2.2.1.2.2.2.1,d.2.2.1.2.2.2.2.1,d.1.2.1,d.2.2.1.2.2.2.2.2.2.1⟩:I.aR),(gP d.2.2.1.2.2.2.2.2.2.2),d.2.2.1.2.2.2.2.2.2.2.2.2.2.2.2.1,d.2.2.1.2.2.2.2.2.2.2.2.2.2.2.2.2.1,d.2.2.2.1⟩:I.bg) d.1.2.2.2.2.1 d.1.2.2.1 d.1.2.2.2.1 d.2.2.1.2.2.2.2.2.1⟩ (bI.bR (λ d=>du) λ k da db q h=>by
 obtain⟨_,(v0:List Int),(v1:List Int),(p:Int),(v3:Int),_⟩:=da
 obtain⟨⟨_,_⟩,⟨(v4:List Int),(v5:Int),(f:Int),(g:Int),(i:Int),(v9:List Int),(a:Int),(b:List I.ak),(c:List Int),(j:List (List I.Field)),(ec:List (List (List UInt8))),(l:List (List I.Target)),(m:List Int),(e:List Int),_,_⟩,(n:List (Int×Bool)),_⟩:=db
 obtain⟨o,_⟩:=dV h
 dsimp only at o
 obtain⟨rfl,rfl,rfl,_⟩:=o
 conv=>rhs;change dh (α:=Unit⊕Int) _ (Ud F (k+1) (⟨(⟨v4,v5,f,g,i,v0,a⟩:I.aR),(⟨(⟨b,c,j,ec,l⟩:I.aP)⟩:I.b4),m,e,n⟩:I.bg) v3 (v0) (v0.length:Int) (v0));rw[<-Yf F (k+1) (⟨(⟨v4,v5,f,g,i,v0,a⟩:I.aR),(⟨(⟨b,c,j,ec,l⟩:I.aP)⟩:I.b4),m,e,n⟩:I.bg) v3];simp only[tO,a6,Yf,Xv];simp only[bQ]
 kernel_rfl)
noncomputable def Uf(F:Nat)(k:Nat)(a:I.bg)(c:Int)(e2:Int)(FD:List Int)(b:List Int):=c7 ((a.aL.length:Int)=e2/\(a.H.aS:List Int)=FD/\(a.aL:List Int)=b/\True) (bb (wI F a k c))
theorem Yg(F:Nat)(k:Nat)(a:I.bg)(b:Int):bb (wI F a k b)=Uf F k a b (a.aL.length:Int) a.H.aS a.aL:=(dv ⟨rfl,rfl,rfl,trivial⟩).symm
noncomputable def aoe(F:Nat):aN aB:=(aod F).bU 105 2 F ⟨[1,3,59,60,61],[.p (.B 0),.p (.l 3),.p (.l 3),.p (.i .i64),.p (.i .i64)],[.c 60 [.B 1],h_,.m 3 4],
 [⟨⟨.nm,[],[],[.c 60 [.B 1],h_,.m 3 4]⟩,Unit,λ d r=>((),(((),()),(d.2.2.1.1,d.2.2.1.2.1,d.2.2.1.2.2.1,d.2.2.1.2.2.2.1,d.2.2.1.2.2.2.2.1,d.2.2.1.2.2.2.2.2.1,d.2.2.1.2.2.2.2.2.2.1,d.2.2.1.2.2.2.2.2.2.2.1,d.2.2.1.2.2.2.2.2.2.2.2.1,d.2.2.1.2.2.2.2.2.2.2.2.2.1,d.2.2.1.2.2.2.2.2.2.2.2.2.2.1,d.2.2.1.2.2.2.2.2.2.2.2.2.2.2.1,d.2.2.1.2.2.2.2.2.2.2.2.2.2.2.2.1,d.2.2.1.2.2.2.2.2.2.2.2.2.2.2.2.2.1,(),()),d.2.2.2.1,()))⟩,
  ⟨⟨.rt,[2],[.p (.i .i64)],[.c 60 [.B 1],h_,.m 3 4]⟩,Int,λ d r=>((r,()),(((),()),(d.2.2.1.1,d.2.2.1.2.1,d.2.2.1.2.2.1,d.2.2.1.2.2.2.1,d.2.2.1.2.2.2.2.1,d.2.2.1.2.2.2.2.2.1,d.2.2.1.2.2.2.2.2.2.1,d.2.2.1.2.2.2.2.2.2.2.1,d.2.2.1.2.2.2.2.2.2.2.2.1,d.2.2.1.2.2.2.2.2.2.2.2.2.1,d.2.2.1.2.2.2.2.2.2.2.2.2.2.1,d.2.2.1.2.2.2.2.2.2.2.2.2.2.2.1,d.2.2.1.2.2.2.2.2.2.2.2.2.2.2.2.1,d.2.2.1.2.2.2.2.2.2.2.2.2.2.2.2.2.1,(),()),d.2.2.2.1,()))⟩],
 λ k d=>Uf F k (⟨(⟨d.2.2.1.1,d.2.2.1.2.1,d.2.2.1.2.2.1,d.2.2.1.2.2.2.1,d.2.2.1.2.2.2.2.1,d.1.2.1,d.2.2.1.2.2.2.2.2.2.1⟩:I.aR),(gP d.2.2.1.2.2.2.2.2.2.2),d.2.2.1.2.2.2.2.2.2.2.2.2.2.2.2.1,d.1.2.2.1,d.2.2.2.1⟩:I.bg) d.1.2.2.2.2.1 d.1.2.2.2.1 d.2.2.1.2.2.2.2.2.1 d.2.2.1.2.2.2.2.2.2.2.2.2.2.2.2.2.1⟩ (bI.bR (λ d=>du) λ k da db q h=>by
 obtain⟨_,(v0:List Int),(v1:List Int),(p:Int),(v3:Int),_⟩:=da
 obtain⟨⟨_,_⟩,⟨(v4:List Int),(v5:Int),(e:Int),(f:Int),(g:Int),(v9:List Int),(a:Int),(b:List I.ak),(c:List Int),(i:List (List I.Field)),(ec:List (List (List UInt8))),(j:List (List I.Target)),(l:List Int),(o:List Int),_,_⟩,(m:List (Int×Bool)),_⟩:=db
 obtain⟨n,_⟩:=dV h
 dsimp only at n
 obtain⟨rfl,rfl,rfl,_⟩:=n
 conv=>rhs;change dh (α:=Unit⊕Int) _ (Uf F (k+1) (⟨(⟨v4,v5,e,f,g,v0,a⟩:I.aR),(⟨(⟨b,c,i,ec,j⟩:I.aP)⟩:I.b4),l,v1,m⟩:I.bg) v3 (v1.length:Int) (v0) (v1));rw[<-Yg F (k+1) (⟨(⟨v4,v5,e,f,g,v0,a⟩:I.aR),(⟨(⟨b,c,i,ec,j⟩:I.aP)⟩:I.b4),l,v1,m⟩:I.bg) v3];simp only[wI,a6,Yg];simp only[bQ]
 kernel_rfl)
noncomputable def aof(F:Nat):aN aB:=(aoe F).rt 105 ⟨[.p (.B 0)],[fC,.m 3 4],[.p (.i .i64)],[fC,.m 3 4],Int,λ d=>F3 F (⟨(dJ d.2.1),(gP d.2.1.2.2.2.2.2.2.2),d.2.1.2.2.2.2.2.2.2.2.2.2.2.2.1,d.2.1.2.2.2.2.2.2.2.2.2.2.2.2.2.1,d.2.2.1⟩:I.bg),λ d r=>((r,()),((d.2.1.1,d.2.1.2.1,d.2.1.2.2.1,d.2.1.2.2.2.1,d.2.1.2.2.2.2.1,d.2.1.2.2.2.2.2.1,d.2.1.2.2.2.2.2.2.1,d.2.1.2.2.2.2.2.2.2.1,d.2.1.2.2.2.2.2.2.2.2.1,d.2.1.2.2.2.2.2.2.2.2.2.1,d.2.1.2.2.2.2.2.2.2.2.2.2.1,d.2.1.2.2.2.2.2.2.2.2.2.2.2.1,d.2.1.2.2.2.2.2.2.2.2.2.2.2.2.1,d.2.1.2.2.2.2.2.2.2.2.2.2.2.2.2.1,(),()),d.2.2.1,()))⟩ λ da db=>by
 obtain⟨_,_⟩:=da;obtain⟨⟨(v0:List Int),(v1:Int),(e:Int),(v3:Int),(v4:Int),(v5:List Int),(f:Int),(g:List I.ak),(h:List Int),(v9:List (List I.Field)),(a:List (List (List UInt8))),(b:List (List I.Target)),(c:List Int),(i:List Int),_,_⟩,(ec:List (Int×Bool)),_⟩:=db;conv=>rhs;simp only[F3,a6,Yf,Yg]
 kernel_rfl
theorem aDS(F:Nat)(a:I.aR)(b:I.aP){cp:Type}(f:(Option I.bg)×Int->Option cp):(tP F a b).bind f=dj (jU (tP F a b)) (λ p=>f (some p.1,p.2)) (λ e=>f (none,e)):=aim _ _
noncomputable def aog(F:Nat):aN aB:=(aof F).P6 65 ⟨[jg,hz],[],[⟨⟨[.p (.B 0),.p (.i .i64)],[fC,.m 3 4]⟩,I.bg×Int,λ d r=>(((),r.2,()),((r.1.H.Words,r.1.H.av,r.1.H.aL,r.1.H.aU,r.1.H.aT,r.1.H.aS,r.1.H.Next,r.1.S.K.aY,r.1.S.K.aW,r.1.S.K.Fields,r.1.S.K.Names,r.1.S.K.aX,r.1.av,r.1.aL,(),()),r.1.dz,()))⟩,
 ⟨⟨[.p (.gE),.p (.i .i64)],[]⟩,Int,λ d r=>(((),r,()),())⟩],λ d=>jU (tP F (dJ d.1.1) (e8 d.1.2.1))⟩ λ da db=>by
 conv=>rhs;simp only[tP,a6,ain,aio,aip,aiq,air,ais];simp only[Fy]
 kernel_rfl
theorem ajk(F:Nat)(a:I.aR)(b:I.aP){cp:Type}(f:(Option I.bg)×Int->Option cp):(kC F a b).bind f=dj (jU (kC F a b)) (λ p=>f (some p.1,p.2)) (λ e=>f (none,e)):=aim _ _
noncomputable def aoh(F:Nat):aN aB:=(aog F).P6 33 ⟨[jg,hz],[],[⟨⟨[.p (.B 0),.p (.i .i64)],[fC,.m 3 4]⟩,I.bg×Int,λ d r=>(((),r.2,()),((r.1.H.Words,r.1.H.av,r.1.H.aL,r.1.H.aU,r.1.H.aT,r.1.H.aS,r.1.H.Next,r.1.S.K.aY,r.1.S.K.aW,r.1.S.K.Fields,r.1.S.K.Names,r.1.S.K.aX,r.1.av,r.1.aL,(),()),r.1.dz,()))⟩,
 ⟨⟨[.p (.gE),.p (.i .i64)],[]⟩,Int,λ d r=>(((),r,()),())⟩],λ d=>jU (kC F (dJ d.1.1) (e8 d.1.2.1))⟩ λ da db=>by
 obtain⟨⟨(v0:List Int),(v1:Int),(c:Int),(v3:Int),(v4:Int),(v5:List Int),(e:Int),_⟩,⟨(f:List I.ak),(g:List Int),(v9:List (List I.Field)),(a:List (List (List UInt8))),(b:List (List I.Target)),_⟩,_⟩:=da
 conv=>rhs;simp only[kC,a6,ain,aio,aip,aiq,air,ais,aDS];simp only[Fy]
 kernel_rfl
noncomputable def aoi(F:Nat):aN aB:=(aoh F).rt 35 ⟨[jg],[],[.p (.i .i64)],[],Int,λ d=>abP (dJ d.1.1),λ d r=>((r,()),())⟩ λ da db=>by
 conv=>rhs;simp only[abP,a6]
 kernel_rfl
noncomputable def aok(F:Nat):aN aB:=(aoi F).rt 19 ⟨[jg,hz],[],[.p (.i .i64),.p (.i .i64)],[],Int×Int,λ d=>an1 F (dJ d.1.1) (e8 d.1.2.1),λ d r=>((r.1,r.2,()),())⟩ λ da db=>by
 obtain⟨⟨(v0:List Int),(v1:Int),(c:Int),(v3:Int),(v4:Int),(v5:List Int),(e:Int),_⟩,⟨(f:List I.ak),(g:List Int),(v9:List (List I.Field)),(a:List (List (List UInt8))),(b:List (List I.Target)),_⟩,_⟩:=da;conv=>rhs;simp only[an1,a6,ajk]
 kernel_rfl
noncomputable def aol(F:Nat):aN aB:=(aok F).rt 47 ⟨[],[],[.p (.l 134)],[],List I.ak,λ d=>ack,λ d r=>((r,()),())⟩ λ da db=>by
 conv=>rhs;simp only[ack,a6]
 kernel_rfl
noncomputable def aom(F:Nat):aN aB:=(aol F).rt 48 ⟨[.p (.i .i64),.p (.i .i64)],[],[jg,.p (.i .i64)],[],I.aR×Int,λ d=>af8 d.1.1 d.1.2.1,λ d r=>(((r.1.Words,r.1.av,r.1.aL,r.1.aU,r.1.aT,r.1.aS,r.1.Next,()),r.2,()),())⟩ λ da db=>by
 conv=>rhs;simp only[af8,a6]
 kernel_rfl
noncomputable def aon(F:Nat):aN aB:=(aom F).rt 57 ⟨[hz,.p (.i .i64),.p (.i .i64)],[],[.p (.i .i64)],[],Int,λ d=>Vi (gP d.1.1) d.1.2.1 d.1.2.2.1,λ d r=>((r,()),())⟩ λ da db=>by
 conv=>rhs;simp only[Vi,a6]
 kernel_rfl
noncomputable def aoo(F:Nat):aN aB:=(aon F).rt 36 ⟨[jg],[],[.a [.R 0,.i .i64,.i .i64,.i .i64,.i .i64,.l 3,.i .i64]],[.r 3 false],I.aR,λ d=>nY (dJ d.1.1),λ d r=>((((),r.av,r.aL,r.aU,r.aT,r.aS,r.Next,()),()),(r.Words,()))⟩ λ da db=>by
 obtain⟨⟨(v0:List Int),(v1:Int),(a:Int),(v3:Int),(v4:Int),(v5:List Int),(b:Int),_⟩,_⟩:=da;conv=>rhs;simp only[nY,a6,Qb]
 kernel_rfl
noncomputable def aop(F:Nat):aN aB:=(aoo F).rt 85 ⟨[.p (.B 0),.p (.i .i64),.p (.i .i64),.p (.b)],[aiN,.r 3 true],[.p (.i .i64),.p (.b)],[aiN,.r 3 true],Int×Bool×I.aR,λ d=>Vh (⟨d.2.2.1,d.2.1.2.1,d.2.1.2.2.1,d.2.1.2.2.2.1,d.2.1.2.2.2.2.1,d.2.1.2.2.2.2.2.1,d.2.1.2.2.2.2.2.2.1⟩:I.aR) d.1.2.1 d.1.2.2.1 d.1.2.2.2.1,λ d r=>((r.1,r.2.1,()),(((),d.2.1.2.1,d.2.1.2.2.1,r.2.2.aU,r.2.2.aT,d.2.1.2.2.2.2.2.1,r.2.2.Next,()),r.2.2.Words,()))⟩ λ da db=>by
 conv=>rhs;simp only[Vh,a6]
 kernel_rfl
noncomputable def aoq(F:Nat):aN aB:=(aop F).rt 49 ⟨[jg,hz,.p (.i .i64),.p (.i .i64),.p (.b)],[],[jg,.p (.i .i64),.p (.i .i64)],[],I.aR×Int×Int,λ d=>af7 F (dJ d.1.1) (e8 d.1.2.1) d.1.2.2.1 d.1.2.2.2.1 d.1.2.2.2.2.1,λ d r=>(((r.1.Words,r.1.av,r.1.aL,r.1.aU,r.1.aT,r.1.aS,r.1.Next,()),r.2.1,r.2.2,()),())⟩ λ da db=>by
 obtain⟨⟨(v0:List Int),(v1:Int),(e:Int),(v3:Int),(v4:Int),(v5:List Int),(f:Int),_⟩,⟨(g:List I.ak),(h:List Int),(v9:List (List I.Field)),(a:List (List (List UInt8))),(b:List (List I.Target)),_⟩,(c:Int),(i:Int),(ec:Bool),_⟩:=da;conv=>rhs;simp only[af7,a6,ajk]
 kernel_rfl
noncomputable def aor(F:Nat):aN aB:=(aoq F).rt 34 ⟨[.p (.B 0),.p (.l 3)],[fC,.m 3 4],[.p (.i .i64)],[fC,.m 3 4],Int,λ d=>ER F (⟨(dJ d.2.1),(gP d.2.1.2.2.2.2.2.2.2),d.2.1.2.2.2.2.2.2.2.2.2.2.2.2.1,d.2.1.2.2.2.2.2.2.2.2.2.2.2.2.2.1,d.2.2.1⟩:I.bg) d.1.2.1,λ d r=>((r,()),((d.2.1.1,d.2.1.2.1,d.2.1.2.2.1,d.2.1.2.2.2.1,d.2.1.2.2.2.2.1,d.2.1.2.2.2.2.2.1,d.2.1.2.2.2.2.2.2.1,d.2.1.2.2.2.2.2.2.2.1,d.2.1.2.2.2.2.2.2.2.2.1,d.2.1.2.2.2.2.2.2.2.2.2.1,d.2.1.2.2.2.2.2.2.2.2.2.2.1,d.2.1.2.2.2.2.2.2.2.2.2.2.2.1,d.2.1.2.2.2.2.2.2.2.2.2.2.2.2.1,d.2.1.2.2.2.2.2.2.2.2.2.2.2.2.2.1,(),()),d.2.2.1,()))⟩ λ da db=>by
 conv=>rhs;simp only[ER,a6]
 kernel_rfl
noncomputable def aos(F:Nat):aN aB:=(aor F).bU 123 0 F ⟨[0,1,5],[.p (.l 136),.p (.l 136),.p (.i .i64)],[],
 [⟨⟨.nm,[],[],[]⟩,Unit,λ d r=>((),())⟩,
  ⟨⟨.rt,[4],[.p (.b)],[]⟩,Bool,λ d r=>((r,()),())⟩],
 λ k d=>bb (B7 d.1.1 d.1.2.1 k d.1.2.2.1)⟩ (bI.bR (λ d=>rfl) λ k da db q h=>by
 conv=>rhs;simp only[B7,a6];simp only[bQ]
 kernel_rfl)
noncomputable def aot(F:Nat):aN aB:=(aos F).rt 123 ⟨[.p (.l 136),.p (.l 136)],[],[.p (.b)],[],Bool,λ d=>E' F d.1.1 d.1.2.1,λ d r=>((r,()),())⟩ λ da db=>by
 conv=>rhs;simp only[E',a6]
 kernel_rfl
noncomputable def aov(F:Nat):aN aB:=(aot F).bU 148 0 F ⟨[0,1,5],[.p (.l 128),.p (.l 128),.p (.i .i64)],[],
 [⟨⟨.nm,[],[],[]⟩,Unit,λ d r=>((),())⟩,
  ⟨⟨.rt,[4],[.p (.b)],[]⟩,Bool,λ d r=>((r,()),())⟩],
 λ k d=>bb (pX d.1.1 d.1.2.1 k d.1.2.2.1)⟩ (bI.bR (λ d=>rfl) λ k da db q h=>by
 conv=>rhs;simp only[pX,a6];simp only[bQ]
 kernel_rfl)
noncomputable def aow(F:Nat):aN aB:=(aov F).rt 148 ⟨[.p (.l 128),.p (.l 128)],[],[.p (.b)],[],Bool,λ d=>vO F d.1.1 d.1.2.1,λ d r=>((r,()),())⟩ λ da db=>by
 conv=>rhs;simp only[vO,a6]
 kernel_rfl
noncomputable def aox(F:Nat):aN aB:=(aow F).bU 122 4 F ⟨[0,1,5,6,7,8,9,10,11],[.p (.l 134),.p (.l 134),.p (.i .i64),.p (.B 0),.p (.B 1),.p (.i .i64),.p (.B 2),.p (.B 3),.p (.i .i64)],[ia,ia,mc,mc],
 [⟨⟨.nm,[0,1,5,6,7,8],[.p (.l 134),.p (.l 134),.p (.i .i64),.p (.B 0),.p (.B 1),.p (.i .i64)],[ia,ia,mc,mc]⟩,Unit,λ d r=>((d.1.1,d.1.2.1,d.1.2.2.1,(),(),d.1.2.2.2.2.2.1,()),(d.2.1,d.2.2.1,d.2.2.2.1,d.2.2.2.2.1,()))⟩,
  ⟨⟨.rt,[4],[.p (.b)],[.d,.d,.d,.d]⟩,Bool,λ d r=>((r,()),((),(),(),(),()))⟩],
 λ k d=>bb (B6 (uO d.2.2.2.1) (uO d.2.2.2.2.1) k d.1.2.2.2.2.2.2.2.2.1)⟩ (bI.bR (λ d=>rfl) λ k da db q h=>by
 conv=>rhs;simp only[B6,a6];simp only[bQ]
 kernel_rfl)
noncomputable def aoy(F:Nat):aN aB:=(aox F).bU 122 2 F ⟨[0,1,5,6,7,8],[.p (.l 134),.p (.l 134),.p (.i .i64),.p (.B 0),.p (.B 1),.p (.i .i64)],[ia,ia],
 [⟨⟨.nm,[0,1,5],[.p (.l 134),.p (.l 134),.p (.i .i64)],[ia,ia]⟩,Unit,λ d r=>((d.1.1,d.1.2.1,d.1.2.2.1,()),(d.2.1,d.2.2.1,()))⟩,
  ⟨⟨.rt,[4],[.p (.b)],[.d,.d]⟩,Bool,λ d r=>((r,()),((),(),()))⟩],
 λ k d=>bb (B5 F (G' d.2.1) (G' d.2.2.1) k d.1.2.2.2.2.2.1)⟩ (bI.bR (λ d=>rfl) λ k da db q h=>by
 obtain⟨(v0:List I.ak),(v1:List I.ak),(c:Int),_,_,(v3:Int),_⟩:=da
 obtain⟨⟨(v4:List UInt8),(v5:List UInt8),(e:List I.Field),(f:List I.Method),_⟩,⟨(g:List UInt8),(v9:List UInt8),(a:List I.Field),(b:List I.Method),_⟩,_⟩:=db
 conv=>rhs;simp only[B5,a6,Xv,<-Bool.or_assoc];simp only[bQ]
 kernel_rfl)
noncomputable def aoz(F:Nat):aN aB:=(aoy F).bU 122 0 F ⟨[0,1,5],[.p (.l 134),.p (.l 134),.p (.i .i64)],[],
 [⟨⟨.nm,[],[],[]⟩,Unit,λ d r=>((),())⟩,
  ⟨⟨.rt,[4],[.p (.b)],[]⟩,Bool,λ d r=>((r,()),())⟩],
 λ k d=>bb (B4 F d.1.1 d.1.2.1 k d.1.2.2.1)⟩ (bI.bR (λ d=>rfl) λ k da db q h=>by
 conv=>rhs;simp only[B4,a6];simp only[bQ]
 kernel_rfl)
noncomputable def aoA(F:Nat):aN aB:=(aoz F).rt 122 ⟨[.p (.l 134),.p (.l 134)],[],[.p (.b)],[],Bool,λ d=>E_ F d.1.1 d.1.2.1,λ d r=>((r,()),())⟩ λ da db=>by
 conv=>rhs;simp only[E_,a6]
 kernel_rfl
noncomputable def Ua(k:Nat)(a:I.aP)(b:I.aP)(c:Int)(d:Int):=c7 ((a.aW.length:Int)=d/\True) (bb (yO a b k c))
theorem Yb(k:Nat)(a:I.aP)(b:I.aP)(c:Int):bb (yO a b k c)=Ua k a b c (a.aW.length:Int):=(dv ⟨rfl,trivial⟩).symm
noncomputable def aoB(F:Nat):aN aB:=(aoA F).bU 87 0 F ⟨[2,3,5,6],[.p (.B 0),.p (.B 1),.p (.i .i64),.p (.i .i64)],[dI,dI],
 [⟨⟨.nm,[2,3],[.p (.B 0),.p (.B 1)],[dI,dI]⟩,Unit,λ d r=>(((),(),()),(d.2.1,d.2.2.1,()))⟩,
  ⟨⟨.rt,[4],[.p (.b)],[.d,.d]⟩,Bool,λ d r=>((r,()),((),(),()))⟩],
 λ k d=>Ua k (e8 d.2.1) (e8 d.2.2.1) d.1.2.2.2.1 d.1.2.2.1⟩ (bI.bR (λ d=>du) λ k da db q h=>by
 obtain⟨_,_,(v0:Int),(v1:Int),_⟩:=da
 obtain⟨⟨(c:List I.ak),(v3:List Int),(v4:List (List I.Field)),(v5:List (List (List UInt8))),(e:List (List I.Target)),_⟩,⟨(f:List I.ak),(g:List Int),(v9:List (List I.Field)),(a:List (List (List UInt8))),(b:List (List I.Target)),_⟩,_⟩:=db
 obtain⟨i,_⟩:=dV h
 dsimp only at i
 obtain⟨rfl,_⟩:=i
 conv=>rhs;change dh (α:=Unit⊕Bool) _ (Ua (k+1) (⟨c,v3,v4,v5,e⟩:I.aP) (⟨f,g,v9,a,b⟩:I.aP) v1 (v3.length:Int));rw[<-Yb (k+1) (⟨c,v3,v4,v5,e⟩:I.aP) (⟨f,g,v9,a,b⟩:I.aP) v1];simp only[yO,a6,Yb];simp only[bQ]
 kernel_rfl)
noncomputable def aoC(F:Nat):aN aB:=(aoB F).bU 87 2 F ⟨[2,3,7],[.p (.B 0),.p (.B 1),.p (.i .i64)],[dI,dI],
 [⟨⟨.nm,[2,3],[.p (.B 0),.p (.B 1)],[dI,dI]⟩,Unit,λ d r=>(((),(),()),(d.2.1,d.2.2.1,()))⟩,
  ⟨⟨.rt,[4],[.p (.b)],[.d,.d]⟩,Bool,λ d r=>((r,()),((),(),()))⟩],
 λ k d=>bb (B9 F (e8 d.2.1) (e8 d.2.2.1) k d.1.2.2.1)⟩ (bI.bR (λ d=>rfl) λ k da db q h=>by
 conv=>rhs;simp only[B9,a6];simp only[bQ]
 kernel_rfl)
noncomputable def aoD(F:Nat):aN aB:=(aoC F).bU 87 6 F ⟨[2,3,8,9],[.p (.B 0),.p (.B 1),.p (.i .i64),.p (.i .i64)],[dI,dI],
 [⟨⟨.nm,[2,3,8],[.p (.B 0),.p (.B 1),.p (.i .i64)],[dI,dI]⟩,Unit,λ d r=>(((),(),d.1.2.2.1,()),(d.2.1,d.2.2.1,()))⟩,
  ⟨⟨.rt,[4],[.p (.b)],[.d,.d]⟩,Bool,λ d r=>((r,()),((),(),()))⟩],
 λ k d=>bb (Ca (e8 d.2.1) (e8 d.2.2.1) d.1.2.2.1 k d.1.2.2.2.1)⟩ (bI.bR (λ d=>rfl) λ k da db q h=>by
 conv=>rhs;simp only[Ca,a6];simp only[bQ]
 kernel_rfl)
noncomputable def aoE(F:Nat):aN aB:=(aoD F).bU 87 4 F ⟨[2,3,8],[.p (.B 0),.p (.B 1),.p (.i .i64)],[dI,dI],
 [⟨⟨.nm,[2,3],[.p (.B 0),.p (.B 1)],[dI,dI]⟩,Unit,λ d r=>(((),(),()),(d.2.1,d.2.2.1,()))⟩,
  ⟨⟨.rt,[4],[.p (.b)],[.d,.d]⟩,Bool,λ d r=>((r,()),((),(),()))⟩],
 λ k d=>bb (B_ F (e8 d.2.1) (e8 d.2.2.1) k d.1.2.2.1)⟩ (bI.bR (λ d=>rfl) λ k da db q h=>by
 conv=>rhs;simp only[B_,a6];simp only[bQ]
 kernel_rfl)
noncomputable def aoG(F:Nat):aN aB:=(aoE F).bU 87 10 F ⟨[2,3,10,11],[.p (.B 0),.p (.B 1),.p (.i .i64),.p (.i .i64)],[dI,dI],
 [⟨⟨.nm,[2,3,10],[.p (.B 0),.p (.B 1),.p (.i .i64)],[dI,dI]⟩,Unit,λ d r=>(((),(),d.1.2.2.1,()),(d.2.1,d.2.2.1,()))⟩,
  ⟨⟨.rt,[4],[.p (.b)],[.d,.d]⟩,Bool,λ d r=>((r,()),((),(),()))⟩],
 λ k d=>bb (Cc (e8 d.2.1) (e8 d.2.2.1) d.1.2.2.1 k d.1.2.2.2.1)⟩ (bI.bR (λ d=>rfl) λ k da db q h=>by
 conv=>rhs;simp only[Cc,a6];simp only[bQ]
 kernel_rfl)
noncomputable def aoH(F:Nat):aN aB:=(aoG F).bU 87 8 F ⟨[2,3,10],[.p (.B 0),.p (.B 1),.p (.i .i64)],[dI,dI],
 [⟨⟨.nm,[],[],[dI,dI]⟩,Unit,λ d r=>((),(d.2.1,d.2.2.1,()))⟩,
  ⟨⟨.rt,[4],[.p (.b)],[.d,.d]⟩,Bool,λ d r=>((r,()),((),(),()))⟩],
 λ k d=>bb (Cb F (e8 d.2.1) (e8 d.2.2.1) k d.1.2.2.1)⟩ (bI.bR (λ d=>rfl) λ k da db q h=>by
 conv=>rhs;simp only[Cb,a6];simp only[bQ]
 kernel_rfl)
noncomputable def aoI(F:Nat):aN aB:=(aoH F).rt 87 ⟨[hz,hz],[],[.p (.b)],[],Bool,λ d=>Fa F (e8 d.1.1) (e8 d.1.2.1),λ d r=>((r,()),())⟩ λ da db=>by
 obtain⟨⟨(v0:List I.ak),(v1:List Int),(a:List (List I.Field)),(v3:List (List (List UInt8))),(v4:List (List I.Target)),_⟩,⟨(v5:List I.ak),(b:List Int),(c:List (List I.Field)),(e:List (List (List UInt8))),(v9:List (List I.Target)),_⟩,_⟩:=da;conv=>rhs;simp only[Fa,a6,Yb]
 kernel_rfl
noncomputable def aoJ(F:Nat):aN aB:=(aoI F).bU 164 0 F ⟨[0,3],[.p (.s),.p (.i .i64)],[],
 [⟨⟨.nm,[0],[.p (.s)],[]⟩,Unit,λ d r=>((d.1.1,()),())⟩,
  ⟨⟨.rt,[2],[.p (.b)],[]⟩,Bool,λ d r=>((r,()),())⟩],
 λ k d=>bb (tj d.1.1 k d.1.2.1)⟩ (bI.bR (λ d=>rfl) λ k da db q h=>by
 conv=>rhs;simp only[tj,a6];simp only[bQ]
 kernel_rfl)
noncomputable def aoK(F:Nat):aN aB:=(aoJ F).rt 164 ⟨[.p (.s)],[],[.p (.b)],[],Bool,λ d=>oP F d.1.1,λ d r=>((r,()),())⟩ λ da db=>by
 conv=>rhs;simp only[oP,a6]
 kernel_rfl
noncomputable def aoL(F:Nat):aN aB:=(aoK F).rt 165 ⟨[.a [.i .i64,.s]],[],[.p (.b)],[],Bool,λ d=>vM F (Lb d.1.1),λ d r=>((r,()),())⟩ λ da db=>by
 conv=>rhs;simp only[vM,a6]
 kernel_rfl
noncomputable def aoM(F:Nat):aN aB:=(aoL F).rt 42 ⟨[.p (.i .i64),.p (.i .i64),.p (.i .i64)],[],[.p (.b)],[],Bool,λ d=>fL d.1.1 d.1.2.1 d.1.2.2.1,λ d r=>((r,()),())⟩ λ da db=>by
 conv=>rhs;simp only[fL,a6]
 kernel_rfl
noncomputable def aoN(F:Nat):aN aB:=(aoM F).bU 166 0 F ⟨[1,3],[.p (.B 0),.p (.i .i64)],[mc],
 [⟨⟨.nm,[1],[.p (.B 0)],[mc]⟩,Unit,λ d r=>(((),()),(d.2.1,()))⟩,
  ⟨⟨.rt,[2],[.p (.i .i64)],[.d]⟩,Int,λ d r=>((r,()),((),()))⟩],
 λ k d=>bb (BS F (uO d.2.1) k d.1.2.1)⟩ (bI.bR (λ d=>rfl) λ k da db q h=>by
 conv=>rhs;simp only[BS,a6];simp only[bQ]
 kernel_rfl)
noncomputable def aoO(F:Nat):aN aB:=(aoN F).bU 166 2 F ⟨[1,4],[.p (.B 0),.p (.i .i64)],[mc],
 [⟨⟨.nm,[],[],[mc]⟩,Unit,λ d r=>((),(d.2.1,()))⟩,
  ⟨⟨.rt,[2],[.p (.i .i64)],[.d]⟩,Int,λ d r=>((r,()),((),()))⟩],
 λ k d=>bb (BT F (uO d.2.1) k d.1.2.1)⟩ (bI.bR (λ d=>rfl) λ k da db q h=>by
 conv=>rhs;simp only[BT,a6];simp only[bQ]
 kernel_rfl)
noncomputable def aoP(F:Nat):aN aB:=(aoO F).rt 166 ⟨[Pw],[],[.p (.i .i64)],[],Int,λ d=>BR F (uO d.1.1),λ d r=>((r,()),())⟩ λ da db=>by
 conv=>rhs;simp only[BR,a6]
 kernel_rfl
theorem aDQ(F:Nat)(k:Nat)(a:I.ak)(b:Int):bb (E5 F a k b)=bb (yD F a k b):=by kernel_rfl
noncomputable def aoR(F:Nat):aN aB:=(aoP F).bU 145 2 F ⟨[0,3,4,5],[.p (.l 134),.p (.i .i64),.p (.B 0),.p (.i .i64)],[ia],
 [⟨⟨.nm,[0,3,4],[.p (.l 134),.p (.i .i64),.p (.B 0)],[ia]⟩,Unit,λ d r=>((d.1.1,d.1.2.1,(),()),(d.2.1,()))⟩,
  ⟨⟨.rt,[2],[.p (.i .i64)],[.d]⟩,Int,λ d r=>((r,()),((),()))⟩],
 λ k d=>bb (yD F (G' d.2.1) k d.1.2.2.2.1)⟩ (bI.bR (λ d=>rfl) λ k da db q h=>by
 conv=>rhs;simp only[yD,a6];simp only[bQ]
 kernel_rfl)
theorem aDR(F:Nat)(k:Nat)(a:I.ak)(b:Int):bb (E6 F a k b)=bb (yE F a k b):=by kernel_rfl
noncomputable def aoS(F:Nat):aN aB:=(aoR F).bU 145 4 F ⟨[0,3,4,6],[.p (.l 134),.p (.i .i64),.p (.B 0),.p (.i .i64)],[ia],
 [⟨⟨.nm,[0,3],[.p (.l 134),.p (.i .i64)],[ia]⟩,Unit,λ d r=>((d.1.1,d.1.2.1,()),(d.2.1,()))⟩,
  ⟨⟨.rt,[2],[.p (.i .i64)],[.d]⟩,Int,λ d r=>((r,()),((),()))⟩],
 λ k d=>bb (yE F (G' d.2.1) k d.1.2.2.2.1)⟩ (bI.bR (λ d=>rfl) λ k da db q h=>by
 conv=>rhs;simp only[yE,a6];simp only[bQ]
 kernel_rfl)
noncomputable def aoT(F:Nat):aN aB:=(aoS F).bU 145 0 F ⟨[0,3],[.p (.l 134),.p (.i .i64)],[],
 [⟨⟨.nm,[],[],[]⟩,Unit,λ d r=>((),())⟩,
  ⟨⟨.rt,[2],[.p (.i .i64)],[]⟩,Int,λ d r=>((r,()),())⟩],
 λ k d=>bb (BC F d.1.1 k d.1.2.1)⟩ (bI.bR (λ d=>rfl) λ k da db q h=>by
 obtain⟨(v0:List I.ak),(v1:Int),_⟩:=da
 conv=>rhs;simp only[BC,a6,aDQ,aDR];simp only[bQ]
 kernel_rfl)
noncomputable def aoU(F:Nat):aN aB:=(aoT F).rt 145 ⟨[.p (.l 134)],[],[.p (.i .i64)],[],Int,λ d=>H2 F d.1.1,λ d r=>((r,()),())⟩ λ da db=>by
 conv=>rhs;simp only[H2,a6]
 kernel_rfl
noncomputable def aoV(F:Nat):aN aB:=(aoU F).bU 121 0 F ⟨[0,1,5],[.p (.l 134),.p (.s),.p (.i .i64)],[],
 [⟨⟨.nm,[],[],[]⟩,Unit,λ d r=>((),())⟩,
  ⟨⟨.rt,[4],[.p (.i .i64)],[]⟩,Int,λ d r=>((r,()),())⟩],
 λ k d=>bb (BU d.1.1 d.1.2.1 k d.1.2.2.1)⟩ (bI.bR (λ d=>rfl) λ k da db q h=>by
 conv=>rhs;simp only[BU,a6];simp only[bQ]
 kernel_rfl)
noncomputable def aoW(F:Nat):aN aB:=(aoV F).rt 121 ⟨[.p (.l 134),.p (.s)],[],[.p (.i .i64)],[],Int,λ d=>oO F d.1.1 d.1.2.1,λ d r=>((r,()),())⟩ λ da db=>by
 conv=>rhs;simp only[oO,a6]
 kernel_rfl
noncomputable def aoX(F:Nat):aN aB:=(aoW F).bU 146 0 F ⟨[0,1,5],[.p (.l 134),.p (.i .i64),.p (.l 3)],[],
 [⟨⟨.nm,[5],[.p (.l 3)],[]⟩,List Int,λ d r=>((r,()),())⟩,
  ⟨⟨.rt,[4],[.p (.l 3)],[]⟩,List Int,λ d r=>((r,()),())⟩],
 λ k d=>bb (Ch F d.1.1 k d.1.2.1 d.1.2.2.1)⟩ (bI.bR (λ d=>rfl) λ k da db q h=>by
 conv=>rhs;simp only[Ch,a6];simp only[bQ]
 kernel_rfl)
noncomputable def aoY(F:Nat):aN aB:=(aoX F).rt 146 ⟨[.p (.l 134),.p (.i .i64)],[],[.p (.l 3)],[],List Int,λ d=>yR F d.1.1 d.1.2.1,λ d r=>((r,()),())⟩ λ da db=>by
 conv=>rhs;simp only[yR,a6]
 kernel_rfl
noncomputable def aoZ(F:Nat):aN aB:=(aoY F).bU 119 0 F ⟨[0,5,6,7],[.p (.l 134),.p (.R 0),.p (.l 3),.p (.i .i64)],[.r 136 false],
 [⟨⟨.nm,[5],[.p (.R 0)],[.r 136 false]⟩,List I.Field,λ d r=>(((),()),(r,()))⟩],
 λ k d=>td d.1.1 d.1.2.2.1 k d.2.1 d.1.2.2.2.1⟩ (bI.bR (λ d=>rfl) λ k da db q h=>by
 conv=>rhs;simp only[td,a6];simp only[bQ]
 kernel_rfl)
noncomputable def ao0(F:Nat):aN aB:=(aoZ F).rt 119 ⟨[.p (.l 134),.p (.i .i64)],[],[.p (.l 136)],[],List I.Field,λ d=>BB F d.1.1 d.1.2.1,λ d r=>((r,()),())⟩ λ da db=>by
 conv=>rhs;simp only[BB,a6]
 kernel_rfl
noncomputable def ao2(F:Nat):aN aB:=(ao0 F).bU 147 0 F ⟨[0,1,5],[.p (.l 134),.p (.l 128),.p (.i .i64)],[],
 [⟨⟨.nm,[],[],[]⟩,Unit,λ d r=>((),())⟩,
  ⟨⟨.rt,[4],[.p (.b)],[]⟩,Bool,λ d r=>((r,()),())⟩],
 λ k d=>bb (yQ F d.1.2.1 d.1.1 k d.1.2.2.1)⟩ (bI.bR (λ d=>rfl) λ k da db q h=>by
 conv=>rhs;simp only[yQ,a6];simp only[bQ]
 kernel_rfl)
noncomputable def ao3(F:Nat):aN aB:=(ao2 F).rt 147 ⟨[.p (.l 134),.p (.l 128)],[],[.p (.b)],[],Bool,λ d=>Cg F d.1.1 d.1.2.1,λ d r=>((r,()),())⟩ λ da db=>by
 conv=>rhs;simp only[Cg,a6]
 kernel_rfl
noncomputable def ao4(F:Nat):aN aB:=(ao3 F).bU 118 0 F ⟨[0,4],[.p (.l 134),.p (.i .i64)],[],
 [⟨⟨.nm,[0],[.p (.l 134)],[]⟩,Unit,λ d r=>((d.1.1,()),())⟩,
  ⟨⟨.rt,[2],[.p (.i .i64)],[]⟩,Int,λ d r=>((r,()),())⟩],
 λ k d=>bb (vJ F d.1.1 k d.1.2.1)⟩ (bI.bR (λ d=>rfl) λ k da db q h=>by
 conv=>rhs;simp only[vJ,a6];simp only[bQ]
 kernel_rfl)
noncomputable def ao5(F:Nat):aN aB:=(ao4 F).bU 118 2 F ⟨[0,5],[.p (.l 134),.p (.i .i64)],[],
 [⟨⟨.nm,[0],[.p (.l 134)],[]⟩,Unit,λ d r=>((d.1.1,()),())⟩,
  ⟨⟨.rt,[2],[.p (.i .i64)],[]⟩,Int,λ d r=>((r,()),())⟩],
 λ k d=>bb (BL d.1.1 k d.1.2.1)⟩ (bI.bR (λ d=>rfl) λ k da db q h=>by
 conv=>rhs;simp only[BL,a6];simp only[bQ]
 kernel_rfl)
noncomputable def ao6(F:Nat):aN aB:=(ao5 F).bU 118 4 F ⟨[0,6],[.p (.l 134),.p (.i .i64)],[],
 [⟨⟨.nm,[0],[.p (.l 134)],[]⟩,Unit,λ d r=>((d.1.1,()),())⟩,
  ⟨⟨.rt,[2],[.p (.i .i64)],[]⟩,Int,λ d r=>((r,()),())⟩],
 λ k d=>bb (yI F d.1.1 k d.1.2.1)⟩ (bI.bR (λ d=>rfl) λ k da db q h=>by
 conv=>rhs;simp only[yI,a6];simp only[bQ]
 kernel_rfl)
noncomputable def ao7(F:Nat):aN aB:=(ao6 F).bU 118 6 F ⟨[0,7],[.p (.l 134),.p (.i .i64)],[],
 [⟨⟨.nm,[0],[.p (.l 134)],[]⟩,Unit,λ d r=>((d.1.1,()),())⟩,
  ⟨⟨.rt,[2],[.p (.i .i64)],[]⟩,Int,λ d r=>((r,()),())⟩],
 λ k d=>bb (BM F d.1.1 k d.1.2.1)⟩ (bI.bR (λ d=>rfl) λ k da db q h=>by
 conv=>rhs;simp only[BM,a6];simp only[bQ]
 kernel_rfl)
noncomputable def ao8(F:Nat):aN aB:=(ao7 F).bU 118 10 F ⟨[0,10,11],[.p (.l 134),.p (.i .i64),.p (.i .i64)],[],
 [⟨⟨.nm,[0,10],[.p (.l 134),.p (.i .i64)],[]⟩,Unit,λ d r=>((d.1.1,d.1.2.1,()),())⟩,
  ⟨⟨.rt,[2],[.p (.i .i64)],[]⟩,Int,λ d r=>((r,()),())⟩],
 λ k d=>bb (BN F d.1.1 d.1.2.1 k d.1.2.2.1)⟩ (bI.bR (λ d=>rfl) λ k da db q h=>by
 conv=>rhs;simp only[BN,a6];simp only[bQ]
 kernel_rfl)
noncomputable def ao9(F:Nat):aN aB:=(ao8 F).bU 118 14 F ⟨[0,10,12,13,14],[.p (.l 134),.p (.i .i64),.p (.i .i64),.p (.B 0),.p (.i .i64)],[mc],
 [⟨⟨.nm,[0,10,12],[.p (.l 134),.p (.i .i64),.p (.i .i64)],[mc]⟩,Unit,λ d r=>((d.1.1,d.1.2.1,d.1.2.2.1,()),(d.2.1,()))⟩,
  ⟨⟨.rt,[2],[.p (.i .i64)],[.d]⟩,Int,λ d r=>((r,()),((),()))⟩],
 λ k d=>bb (BP F d.1.1 (uO d.2.1) k d.1.2.2.2.2.1)⟩ (bI.bR (λ d=>rfl) λ k da db q h=>by
 conv=>rhs;simp only[BP,a6];simp only[bQ]
 kernel_rfl)
noncomputable def ao_(F:Nat):aN aB:=(ao9 F).bU 118 12 F ⟨[0,10,12],[.p (.l 134),.p (.i .i64),.p (.i .i64)],[],
 [⟨⟨.nm,[0,10],[.p (.l 134),.p (.i .i64)],[]⟩,Unit,λ d r=>((d.1.1,d.1.2.1,()),())⟩,
  ⟨⟨.rt,[2],[.p (.i .i64)],[]⟩,Int,λ d r=>((r,()),())⟩],
 λ k d=>bb (BO F d.1.1 d.1.2.1 k d.1.2.2.1)⟩ (bI.bR (λ d=>rfl) λ k da db q h=>by
 conv=>rhs;simp only[BO,a6];simp only[bQ]
 kernel_rfl)
noncomputable def ao'(F:Nat):aN aB:=(ao_ F).bU 118 8 F ⟨[0,10],[.p (.l 134),.p (.i .i64)],[],
 [⟨⟨.nm,[0],[.p (.l 134)],[]⟩,Unit,λ d r=>((d.1.1,()),())⟩,
  ⟨⟨.rt,[2],[.p (.i .i64)],[]⟩,Int,λ d r=>((r,()),())⟩],
 λ k d=>bb (yJ F d.1.1 k d.1.2.1)⟩ (bI.bR (λ d=>rfl) λ k da db q h=>by
 conv=>rhs;simp only[yJ,a6];simp only[bQ]
 kernel_rfl)
noncomputable def apb(F:Nat):aN aB:=(ao' F).bU 118 20 F ⟨[0,15,16,17,18],[.p (.l 134),.p (.i .i64),.p (.l 136),.p (.i .i64),.p (.i .i64)],[],
 [⟨⟨.nm,[0,15,16,17],[.p (.l 134),.p (.i .i64),.p (.l 136),.p (.i .i64)],[]⟩,Unit,λ d r=>((d.1.1,d.1.2.1,d.1.2.2.1,d.1.2.2.2.1,()),())⟩,
  ⟨⟨.rt,[2],[.p (.i .i64)],[]⟩,Int,λ d r=>((r,()),())⟩],
 λ k d=>bb (BH d.1.2.2.1 d.1.2.2.2.1 k d.1.2.2.2.2.1)⟩ (bI.bR (λ d=>rfl) λ k da db q h=>by
 conv=>rhs;simp only[BH,a6];simp only[bQ]
 kernel_rfl)
noncomputable def apc(F:Nat):aN aB:=(apb F).bU 118 18 F ⟨[0,15,16,17],[.p (.l 134),.p (.i .i64),.p (.l 136),.p (.i .i64)],[],
 [⟨⟨.nm,[0,15],[.p (.l 134),.p (.i .i64)],[]⟩,Unit,λ d r=>((d.1.1,d.1.2.1,()),())⟩,
  ⟨⟨.rt,[2],[.p (.i .i64)],[]⟩,Int,λ d r=>((r,()),())⟩],
 λ k d=>bb (BG F d.1.2.2.1 k d.1.2.2.2.1)⟩ (bI.bR (λ d=>rfl) λ k da db q h=>by
 conv=>rhs;simp only[BG,a6];simp only[bQ]
 kernel_rfl)
noncomputable def T9(k:Nat)(a:I.ak)(b:Int)(c:Int):=c7 (True) (bb (th a b k c))
theorem X_(k:Nat)(a:I.ak)(b:Int)(c:Int):bb (th a b k c)=T9 k (⟨[],[],[],a.bf⟩:I.ak) b c:=(show bb (th a b k c)=bb (th (⟨[],[],[],a.bf⟩:I.ak) b k c) by kernel_rfl).trans (dv trivial).symm
noncomputable def apd(F:Nat):aN aB:=(apc F).bU 118 24 F ⟨[0,15,19,20,21],[.p (.l 134),.p (.i .i64),.p (.l 131),.p (.i .i64),.p (.i .i64)],[],
 [⟨⟨.nm,[0,15,19,20],[.p (.l 134),.p (.i .i64),.p (.l 131),.p (.i .i64)],[]⟩,Unit,λ d r=>((d.1.1,d.1.2.1,d.1.2.2.1,d.1.2.2.2.1,()),())⟩,
  ⟨⟨.rt,[2],[.p (.i .i64)],[]⟩,Int,λ d r=>((r,()),())⟩],
 λ k d=>T9 k (⟨[],[],[],d.1.2.2.1⟩:I.ak) d.1.2.2.2.1 d.1.2.2.2.2.1⟩ (bI.bR (λ d=>du) λ k da db q h=>by
 obtain⟨(v0:List I.ak),(v1:Int),(a:List I.Method),(v3:Int),(v4:Int),_⟩:=da
 conv=>rhs;change dh (α:=Unit⊕Int) _ (T9 (k+1) (⟨[],[],[],a⟩:I.ak) v3 v4);rw[<-X_ (k+1) (⟨[],[],[],a⟩:I.ak) v3 v4];simp only[th,a6,X_];simp only[bQ]
 kernel_rfl)
noncomputable def T8(F:Nat)(k:Nat)(a:I.ak)(b:Int):=c7 (True) (bb (tg F a k b))
theorem X9(F:Nat)(k:Nat)(a:I.ak)(b:Int):bb (tg F a k b)=T8 F k (⟨[],[],[],a.bf⟩:I.ak) b:=(show bb (tg F a k b)=bb (tg F (⟨[],[],[],a.bf⟩:I.ak) k b) by kernel_rfl).trans (dv trivial).symm
noncomputable def ape(F:Nat):aN aB:=(apd F).bU 118 22 F ⟨[0,15,19,20],[.p (.l 134),.p (.i .i64),.p (.l 131),.p (.i .i64)],[],
 [⟨⟨.nm,[0,15],[.p (.l 134),.p (.i .i64)],[]⟩,Unit,λ d r=>((d.1.1,d.1.2.1,()),())⟩,
  ⟨⟨.rt,[2],[.p (.i .i64)],[]⟩,Int,λ d r=>((r,()),())⟩],
 λ k d=>T8 F k (⟨[],[],[],d.1.2.2.1⟩:I.ak) d.1.2.2.2.1⟩ (bI.bR (λ d=>du) λ k da db q h=>by
 obtain⟨(v0:List I.ak),(v1:Int),(a:List I.Method),(v3:Int),_⟩:=da
 conv=>rhs;change dh (α:=Unit⊕Int) _ (T8 F (k+1) (⟨[],[],[],a⟩:I.ak) v3);rw[<-X9 F (k+1) (⟨[],[],[],a⟩:I.ak) v3];simp only[tg,a6,X_,X9];simp only[bQ]
 kernel_rfl)
noncomputable def apf(F:Nat):aN aB:=(ape F).bU 118 16 F ⟨[0,15],[.p (.l 134),.p (.i .i64)],[],
 [⟨⟨.nm,[0],[.p (.l 134)],[]⟩,Unit,λ d r=>((d.1.1,()),())⟩,
  ⟨⟨.rt,[2],[.p (.i .i64)],[]⟩,Int,λ d r=>((r,()),())⟩],
 λ k d=>bb (BQ F d.1.1 k d.1.2.1)⟩ (bI.bR (λ d=>rfl) λ k da db q h=>by
 obtain⟨(v0:List I.ak),(v1:Int),_⟩:=da
 conv=>rhs;simp only[BQ,a6,X9];simp only[bQ]
 kernel_rfl)
noncomputable def apg(F:Nat):aN aB:=(apf F).bU 118 32 F ⟨[0,22,23,24,25,26],[.p (.l 134),.p (.i .i64),.p (.l 3),.p (.i .i64),.p (.i .i64),.p (.i .i64)],[],
 [⟨⟨.nm,[0,22,23,24,25],[.p (.l 134),.p (.i .i64),.p (.l 3),.p (.i .i64),.p (.i .i64)],[]⟩,Unit,λ d r=>((d.1.1,d.1.2.1,d.1.2.2.1,d.1.2.2.2.1,d.1.2.2.2.2.1,()),())⟩,
  ⟨⟨.rt,[2],[.p (.i .i64)],[]⟩,Int,λ d r=>((r,()),())⟩],
 λ k d=>bb (yH F d.1.1 d.1.2.1 d.1.2.2.1 d.1.2.2.2.1 d.1.2.2.2.2.1 k d.1.2.2.2.2.2.1)⟩ (bI.bR (λ d=>rfl) λ k da db q h=>by
 obtain⟨(v0:List I.ak),(v1:Int),(a:List Int),(v3:Int),(v4:Int),(v5:Int),_⟩:=da
 conv=>rhs;simp only[yH,a6,Xv];simp only[bQ]
 kernel_rfl)
noncomputable def aph(F:Nat):aN aB:=(apg F).bU 118 30 F ⟨[0,22,23,24,25],[.p (.l 134),.p (.i .i64),.p (.l 3),.p (.i .i64),.p (.i .i64)],[],
 [⟨⟨.nm,[0,22,23,24],[.p (.l 134),.p (.i .i64),.p (.l 3),.p (.i .i64)],[]⟩,Unit,λ d r=>((d.1.1,d.1.2.1,d.1.2.2.1,d.1.2.2.2.1,()),())⟩,
  ⟨⟨.rt,[2],[.p (.i .i64)],[]⟩,Int,λ d r=>((r,()),())⟩],
 λ k d=>bb (BK F d.1.1 d.1.2.1 d.1.2.2.1 d.1.2.2.2.1 k d.1.2.2.2.2.1)⟩ (bI.bR (λ d=>rfl) λ k da db q h=>by
 conv=>rhs;simp only[BK,a6];simp only[bQ]
 kernel_rfl)
noncomputable def api(F:Nat):aN aB:=(aph F).bU 118 28 F ⟨[0,22,23,24],[.p (.l 134),.p (.i .i64),.p (.l 3),.p (.i .i64)],[],
 [⟨⟨.nm,[0,22],[.p (.l 134),.p (.i .i64)],[]⟩,Unit,λ d r=>((d.1.1,d.1.2.1,()),())⟩,
  ⟨⟨.rt,[2],[.p (.i .i64)],[]⟩,Int,λ d r=>((r,()),())⟩],
 λ k d=>bb (BJ F d.1.1 d.1.2.1 d.1.2.2.1 k d.1.2.2.2.1)⟩ (bI.bR (λ d=>rfl) λ k da db q h=>by
 conv=>rhs;simp only[BJ,a6];simp only[bQ]
 kernel_rfl)
noncomputable def apj(F:Nat):aN aB:=(api F).bU 118 26 F ⟨[0,22],[.p (.l 134),.p (.i .i64)],[],
 [⟨⟨.nm,[],[],[]⟩,Unit,λ d r=>((),())⟩,
  ⟨⟨.rt,[2],[.p (.i .i64)],[]⟩,Int,λ d r=>((r,()),())⟩],
 λ k d=>bb (BI F d.1.1 k d.1.2.1)⟩ (bI.bR (λ d=>rfl) λ k da db q h=>by
 conv=>rhs;simp only[BI,a6];simp only[bQ]
 kernel_rfl)
noncomputable def apk(F:Nat):aN aB:=(apj F).rt 118 ⟨[.p (.l 134)],[],[.p (.i .i64)],[],Int,λ d=>H3 F d.1.1,λ d r=>((r,()),())⟩ λ da db=>by
 conv=>rhs;simp only[H3,a6]
 kernel_rfl
noncomputable def Ub(k:Nat)(a:List (List UInt8))(b:I.Method)(c:Int):=c7 (True) (rp a b k c)
theorem Yc(k:Nat)(a:List (List UInt8))(b:I.Method)(c:Int):rp a b k c=Ub k a (⟨b.Name,false,[],(⟨0,[]⟩:I.Kind),0,0,[],[]⟩:I.Method) c:=(show rp a b k c=rp a (⟨b.Name,false,[],(⟨0,[]⟩:I.Kind),0,0,[],[]⟩:I.Method) k c by kernel_rfl).trans (dv trivial).symm
noncomputable def apm(F:Nat):aN aB:=(apk F).bU 120 4 F ⟨[0,6,7,8,9,10,11,12],[.p (.l 134),.p (.R 0),.p (.R 1),.p (.l 3),.p (.i .i64),.p (.i .i64),.p (.s),.p (.i .i64)],[.r 9 false,.r 166 false],
 [⟨⟨.nm,[0,6,7,8,9,10,11,12],[.p (.l 134),.p (.R 0),.p (.R 1),.p (.l 3),.p (.i .i64),.p (.i .i64),.p (.s),.p (.i .i64)],[.r 9 false,.r 166 false]⟩,Int,λ d r=>((d.1.1,(),(),d.1.2.2.2.1,d.1.2.2.2.2.1,d.1.2.2.2.2.2.1,d.1.2.2.2.2.2.2.1,r,()),(d.2.1,d.2.2.1,()))⟩],
 λ k d=>Ub k d.2.1 (⟨d.1.2.2.2.2.2.2.1,false,[],(⟨0,[]⟩:I.Kind),0,0,[],[]⟩:I.Method) d.1.2.2.2.2.2.2.2.1⟩ (bI.bR (λ d=>du) λ k da db q h=>by
 obtain⟨(v0:List I.ak),_,_,(v1:List Int),(b:Int),(v3:Int),(v4:List UInt8),(v5:Int),_⟩:=da
 obtain⟨(a:List (List UInt8)),(c:List I.Target),_⟩:=db
 conv=>rhs;change dh (α:=Int) _ (Ub (k+1) a (⟨v4,false,[],(⟨0,[]⟩:I.Kind),0,0,[],[]⟩:I.Method) v5);rw[<-Yc (k+1) a (⟨v4,false,[],(⟨0,[]⟩:I.Kind),0,0,[],[]⟩:I.Method) v5];simp only[rp,a6,Yc];simp only[bQ]
 kernel_rfl)
noncomputable def apn(F:Nat):aN aB:=(apm F).bU 120 2 F ⟨[0,6,7,8,9,10],[.p (.l 134),.p (.R 0),.p (.R 1),.p (.l 3),.p (.i .i64),.p (.i .i64)],[.r 9 false,.r 166 false],
 [⟨⟨.nm,[0,6,7,8,9],[.p (.l 134),.p (.R 0),.p (.R 1),.p (.l 3),.p (.i .i64)],[.r 9 false,.r 166 false]⟩,(List I.Target)×(List (List UInt8)),λ d r=>((d.1.1,(),(),d.1.2.2.2.1,d.1.2.2.2.2.1,()),(r.2,r.1,()))⟩],
 λ k d=>Cf F d.1.1 d.1.2.2.2.1 d.1.2.2.2.2.1 k d.2.2.1 d.2.1 d.1.2.2.2.2.2.1⟩ (bI.bR (λ d=>rfl) λ k da db q h=>by
 obtain⟨(v0:List I.ak),_,_,(v1:List Int),(a:Int),(v3:Int),_⟩:=da
 obtain⟨(v4:List (List UInt8)),(v5:List I.Target),_⟩:=db
 conv=>rhs;simp only[Cf,a6,Yc];simp only[bQ]
 kernel_rfl)
noncomputable def apo(F:Nat):aN aB:=(apn F).bU 120 0 F ⟨[0,6,7,8,9],[.p (.l 134),.p (.R 0),.p (.R 1),.p (.l 3),.p (.i .i64)],[.r 9 false,.r 166 false],
 [⟨⟨.nm,[6,7],[.p (.R 0),.p (.R 1)],[.r 9 false,.r 166 false]⟩,(List I.Target)×(List (List UInt8)),λ d r=>(((),(),()),(r.2,r.1,()))⟩],
 λ k d=>Cd F d.1.1 d.1.2.2.2.1 k d.2.2.1 d.2.1 d.1.2.2.2.2.1⟩ (bI.bR (λ d=>rfl) λ k da db q h=>by
 conv=>rhs;simp only[Cd,a6];simp only[bQ]
 kernel_rfl)
noncomputable def app(F:Nat):aN aB:=(apo F).rt 120 ⟨[.p (.l 134),.p (.i .i64)],[],[.p (.l 9),.p (.l 166)],[],(List (List UInt8))×(List I.Target),λ d=>H_ F d.1.1 d.1.2.1,λ d r=>((r.1,r.2,()),())⟩ λ da db=>by
 conv=>rhs;simp only[H_,a6]
 kernel_rfl
noncomputable def T'(F:Nat)(k:Nat)(a:List I.ak)(Ds:List (List I.Target))(Dt:List (List (List UInt8)))(b:List (List I.Field))(c:List Int)(d:Int)(e2:List I.ak)(e3:List Int)(e4:List (List I.Field))(e5:List (List (List UInt8)))(e6:List (List I.Target))(e7:List I.ak):=c7 (([]:List I.ak)=e2/\([]:List Int)=e3/\([]:List (List I.Field))=e4/\([]:List (List (List UInt8)))=e5/\([]:List (List I.Target))=e6/\(a:List I.ak)=e7/\True) (bb (rn F a k Ds Dt b c d))
theorem Ya(F:Nat)(k:Nat)(a:List I.ak)(Ds:List (List I.Target))(Dt:List (List (List UInt8)))(b:List (List I.Field))(c:List Int)(d:Int):bb (rn F a k Ds Dt b c d)=T' F k a Ds Dt b c d [] [] [] [] [] a:=(dv ⟨rfl,rfl,rfl,rfl,rfl,rfl,trivial⟩).symm
noncomputable def apq(F:Nat):aN aB:=(app F).bU 86 0 F ⟨[0,2,5,6],[.p (.l 134),.p (.B 0),.p (.B 1),.p (.i .i64)],[dI,aiK,.r 3 false,.r 124 false,.r 120 false,.r 121 false],
 [⟨⟨.nm,[2,5],[.p (.B 0),.p (.B 1)],[dI,aiK,.r 3 false,.r 124 false,.r 120 false,.r 121 false]⟩,(List (List I.Target))×(List (List (List UInt8)))×(List (List I.Field))×(List Int),λ d r=>(((),(),()),(d.2.1,(d.2.2.1.1,(),(),(),(),()),r.2.2.2,r.2.2.1,r.2.1,r.1,()))⟩,
  ⟨⟨.rt,[2,3],[.p (.B 0),.p (.i .i64)],[dI,.d,.d,.d,.d,.d]⟩,I.aP×Int,λ d r=>(((),r.2,()),((r.1.aY,r.1.aW,r.1.Fields,r.1.Names,r.1.aX,()),(),(),(),(),(),()))⟩],
 λ k d=>T' F k d.1.1 d.2.2.2.2.2.2.1 d.2.2.2.2.2.1 d.2.2.2.2.1 d.2.2.2.1 d.1.2.2.2.1 d.2.1.1 d.2.1.2.1 d.2.1.2.2.1 d.2.1.2.2.2.1 d.2.1.2.2.2.2.1 d.2.2.1.1⟩ (bI.bR (λ d=>du) λ k da db q h=>by
 obtain⟨(v0:List I.ak),_,_,(v1:Int),_⟩:=da
 obtain⟨⟨(f:List I.ak),(v3:List Int),(v4:List (List I.Field)),(v5:List (List (List UInt8))),(g:List (List I.Target)),_⟩,⟨(i:List I.ak),_,_,_,_,_⟩,(c:List Int),(v9:List (List I.Field)),(a:List (List (List UInt8))),(b:List (List I.Target)),_⟩:=db
 obtain⟨e,_⟩:=dV h
 dsimp only at e
 obtain⟨rfl,rfl,rfl,rfl,rfl,rfl,_⟩:=e
 conv=>rhs;change dh (α:=((List (List I.Target))×(List (List (List UInt8)))×(List (List I.Field))×(List Int))⊕(I.aP×Int)) _ (T' F (k+1) v0 b a v9 c v1 ([]) ([]) ([]) ([]) ([]) (v0));rw[<-Ya F (k+1) v0 b a v9 c v1];simp only[rn,a6,Ya];simp only[bQ]
 kernel_rfl)
noncomputable def apr(F:Nat):aN aB:=(apq F).rt 86 ⟨[.p (.l 134)],[],[hz,.p (.i .i64)],[],I.aP×Int,λ d=>H6 F d.1.1,λ d r=>(((r.1.aY,r.1.aW,r.1.Fields,r.1.Names,r.1.aX,()),r.2,()),())⟩ λ da db=>by
 obtain⟨(v0:List I.ak),_⟩:=da;conv=>rhs;simp only[H6,a6,Ya]
 kernel_rfl
noncomputable def aps(F:Nat):aN aB:=(apr F).rt 50 ⟨[hz],[],[.p (.i .i64)],[],Int,λ d=>vK F (e8 d.1.1),λ d r=>((r,()),())⟩ λ da db=>by
 conv=>rhs;simp only[vK,a6]
 kernel_rfl
noncomputable def apt(F:Nat):aN aB:=(aps F).rt 59 ⟨[hz,.p (.i .i64)],[],[.p (.b)],[],Bool,λ d=>E9 (e8 d.1.1) d.1.2.1,λ d r=>((r,()),())⟩ λ da db=>by
 conv=>rhs;simp only[E9,a6]
 kernel_rfl
noncomputable def apu(F:Nat):aN aB:=(apt F).rt 60 ⟨[hz,.p (.i .i64),.p (.i .i64)],[],[.p (.b)],[],Bool,λ d=>E8 (e8 d.1.1) d.1.2.1 d.1.2.2.1,λ d r=>((r,()),())⟩ λ da db=>by
 conv=>rhs;simp only[E8,a6]
 kernel_rfl
noncomputable def apv(F:Nat):aN aB:=(apu F).bU 95 0 F ⟨[2,3,4,5,10],[.p (.i .i64),.p (.i .i64),.p (.B 0),.p (.B 1),.p (.R 2)],[iK,dI,.r 3 false],
 [⟨⟨.nm,[2,3,10],[.p (.i .i64),.p (.i .i64),.p (.R 2)],[iK,dI,.r 3 false]⟩,(List Int)×Int,λ d r=>((r.2,d.1.2.1,(),()),(d.2.1,d.2.2.1,r.1,()))⟩,
  ⟨⟨.rt,[8,9],[.p (.l 3),.p (.b)],[.d,.d,.d]⟩,(List Int)×Bool,λ d r=>((r.1,r.2,()),((),(),(),()))⟩],
 λ k d=>bb (yP (dJ d.2.1) (e8 d.2.2.1) d.1.2.1 k d.2.2.2.1 d.1.1)⟩ (bI.bR (λ d=>rfl) λ k da db q h=>by
 conv=>rhs;simp only[yP,a6];simp only[bQ]
 kernel_rfl)
noncomputable def apx(F:Nat):aN aB:=(apv F).rt 95 ⟨[jg,hz,.p (.i .i64),.p (.i .i64)],[],[.p (.l 3),.p (.b)],[],(List Int)×Bool,λ d=>rq F (dJ d.1.1) (e8 d.1.2.1) d.1.2.2.1 d.1.2.2.2.1,λ d r=>((r.1,r.2,()),())⟩ λ da db=>by
 conv=>rhs;simp only[rq,a6]
 kernel_rfl
noncomputable def apy(F:Nat):aN aB:=(apx F).rt 62 ⟨[jg,hz],[],[.p (.l 3),.p (.l 3),.p (.b)],[],(List Int)×(List Int)×Bool,λ d=>oR F (dJ d.1.1) (e8 d.1.2.1),λ d r=>((r.1,r.2.1,r.2.2,()),())⟩ λ da db=>by
 conv=>rhs;simp only[oR,a6]
 kernel_rfl
noncomputable def apz(F:Nat):aN aB:=(apy F).rt 71 ⟨[hz,.p (.i .i64),.p (.i .i64)],[],[.p (.b)],[],Bool,λ d=>tl (e8 d.1.1) d.1.2.1 d.1.2.2.1,λ d r=>((r,()),())⟩ λ da db=>by
 conv=>rhs;simp only[tl,a6]
 kernel_rfl
noncomputable def apA(F:Nat):aN aB:=(apz F).bU 44 0 F ⟨[2,3,4,7,8],[.p (.i .i64),.p (.B 0),.p (.B 1),.p (.R 2),.p (.i .i64)],[iK,dI,.r 3 false],
 [⟨⟨.nm,[7],[.p (.R 2)],[iK,dI,.r 3 false]⟩,List Int,λ d r=>(((),()),(d.2.1,d.2.2.1,r,()))⟩],
 λ k d=>vL d.1.1 (dJ d.2.1) (e8 d.2.2.1) k d.2.2.2.1 d.1.2.2.2.2.1⟩ (bI.bR (λ d=>rfl) λ k da db q h=>by
 conv=>rhs;simp only[vL,a6];simp only[bQ]
 kernel_rfl)
noncomputable def apB(F:Nat):aN aB:=(apA F).rt 44 ⟨[jg,hz,.p (.i .i64)],[],[.p (.l 3)],[],List Int,λ d=>oQ F (dJ d.1.1) (e8 d.1.2.1) d.1.2.2.1,λ d r=>((r,()),())⟩ λ da db=>by
 conv=>rhs;simp only[oQ,a6]
 kernel_rfl
noncomputable def apC(F:Nat):aN aB:=(apB F).bU 43 0 F ⟨[0,1,5],[.p (.l 3),.p (.i .i64),.p (.i .i64)],[],
 [⟨⟨.nm,[],[],[]⟩,Unit,λ d r=>((),())⟩,
  ⟨⟨.rt,[4],[.p (.b)],[]⟩,Bool,λ d r=>((r,()),())⟩],
 λ k d=>bb (BV d.1.1 d.1.2.1 k d.1.2.2.1)⟩ (bI.bR (λ d=>rfl) λ k da db q h=>by
 conv=>rhs;simp only[BV,a6];simp only[bQ]
 kernel_rfl)
noncomputable def apD(F:Nat):aN aB:=(apC F).rt 43 ⟨[.p (.l 3),.p (.i .i64)],[],[.p (.b)],[],Bool,λ d=>j9 F d.1.1 d.1.2.1,λ d r=>((r,()),())⟩ λ da db=>by
 conv=>rhs;simp only[j9,a6]
 kernel_rfl
noncomputable def apE(F:Nat):aN aB:=(apD F).bU 51 0 F ⟨[2,3,6,8,9],[.p (.B 0),.p (.B 1),.p (.l 3),.p (.R 2),.p (.i .i64)],[iK,dI,.r 3 true],
 [⟨⟨.nm,[2,3,6,8],[.p (.B 0),.p (.B 1),.p (.l 3),.p (.R 2)],[iK,dI,.r 3 true]⟩,Unit,λ d r=>(((),(),d.1.2.2.1,(),()),(d.2.1,d.2.2.1,d.2.2.2.1,()))⟩,
  ⟨⟨.rt,[4],[.p (.i .i64)],[.d,.d,.d]⟩,Int,λ d r=>((r,()),((),(),(),()))⟩],
 λ k d=>bb (BD (dJ d.2.1) d.2.2.2.1 k d.1.2.2.2.2.1)⟩ (bI.bR (λ d=>rfl) λ k da db q h=>by
 conv=>rhs;simp only[BD,a6];simp only[bQ]
 kernel_rfl)
noncomputable def apF(F:Nat):aN aB:=(apE F).bU 51 4 F ⟨[2,3,6,8,10,11],[.p (.B 0),.p (.B 1),.p (.l 3),.p (.R 2),.p (.i .i64),.p (.i .i64)],[iK,dI,.r 3 true],
 [⟨⟨.nm,[2,3,6,8,10],[.p (.B 0),.p (.B 1),.p (.l 3),.p (.R 2),.p (.i .i64)],[iK,dI,.r 3 true]⟩,Unit,λ d r=>(((),(),d.1.2.2.1,(),d.1.2.2.2.2.1,()),(d.2.1,d.2.2.1,d.2.2.2.1,()))⟩,
  ⟨⟨.rt,[4],[.p (.i .i64)],[.d,.d,.d]⟩,Int,λ d r=>((r,()),((),(),(),()))⟩],
 λ k d=>bb (BE (dJ d.2.1) d.2.2.2.1 d.1.2.2.2.2.1 k d.1.2.2.2.2.2.1)⟩ (bI.bR (λ d=>rfl) λ k da db q h=>by
 conv=>rhs;simp only[BE,a6];simp only[bQ]
 kernel_rfl)
noncomputable def apG(F:Nat):aN aB:=(apF F).bU 51 2 F ⟨[2,3,6,8,10],[.p (.B 0),.p (.B 1),.p (.l 3),.p (.R 2),.p (.i .i64)],[iK,dI,.r 3 true],
 [⟨⟨.nm,[2,3,6,8],[.p (.B 0),.p (.B 1),.p (.l 3),.p (.R 2)],[iK,dI,.r 3 true]⟩,Unit,λ d r=>(((),(),d.1.2.2.1,(),()),(d.2.1,d.2.2.1,d.2.2.2.1,()))⟩,
  ⟨⟨.rt,[4],[.p (.i .i64)],[.d,.d,.d]⟩,Int,λ d r=>((r,()),((),(),(),()))⟩],
 λ k d=>bb (yF F (dJ d.2.1) d.2.2.2.1 k d.1.2.2.2.2.1)⟩ (bI.bR (λ d=>rfl) λ k da db q h=>by
 conv=>rhs;simp only[yF,a6];simp only[bQ]
 kernel_rfl)
noncomputable def apI(F:Nat):aN aB:=(apG F).bU 51 8 F ⟨[2,3,6,8,12,13,14],[.p (.B 0),.p (.B 1),.p (.l 3),.p (.l 3),.p (.i .i64),.p (.l 3),.p (.i .i64)],[iK,dI],
 [⟨⟨.nm,[2,3,6,8,12],[.p (.B 0),.p (.B 1),.p (.l 3),.p (.l 3),.p (.i .i64)],[iK,dI]⟩,Unit,λ d r=>(((),(),d.1.2.2.1,d.1.2.2.2.1,d.1.2.2.2.2.1,()),(d.2.1,d.2.2.1,()))⟩,
  ⟨⟨.rt,[4],[.p (.i .i64)],[.d,.d]⟩,Int,λ d r=>((r,()),((),(),()))⟩],
 λ k d=>bb (yG F (dJ d.2.1) d.1.2.2.2.1 d.1.2.2.2.2.2.1 k d.1.2.2.2.2.2.2.1)⟩ (bI.bR (λ d=>rfl) λ k da db q h=>by
 conv=>rhs;simp only[yG,a6];simp only[bQ]
 kernel_rfl)
noncomputable def apJ(F:Nat):aN aB:=(apI F).bU 51 6 F ⟨[2,3,6,8,12],[.p (.B 0),.p (.B 1),.p (.l 3),.p (.l 3),.p (.i .i64)],[iK,dI],
 [⟨⟨.nm,[2,3,6],[.p (.B 0),.p (.B 1),.p (.l 3)],[iK,dI]⟩,Unit,λ d r=>(((),(),d.1.2.2.1,()),(d.2.1,d.2.2.1,()))⟩,
  ⟨⟨.rt,[4],[.p (.i .i64)],[.d,.d]⟩,Int,λ d r=>((r,()),((),(),()))⟩],
 λ k d=>bb (BF F (dJ d.2.1) (e8 d.2.2.1) d.1.2.2.2.1 k d.1.2.2.2.2.1)⟩ (bI.bR (λ d=>rfl) λ k da db q h=>by
 conv=>rhs;simp only[BF,a6];simp only[bQ]
 kernel_rfl)
noncomputable def apK(F:Nat):aN aB:=(apJ F).bU 51 10 F ⟨[2,3,6,15],[.p (.B 0),.p (.B 1),.p (.l 3),.p (.i .i64)],[iK,dI],
 [⟨⟨.nm,[2,3,6],[.p (.B 0),.p (.B 1),.p (.l 3)],[iK,dI]⟩,Unit,λ d r=>(((),(),d.1.2.2.1,()),(d.2.1,d.2.2.1,()))⟩,
  ⟨⟨.rt,[4],[.p (.i .i64)],[.d,.d]⟩,Int,λ d r=>((r,()),((),(),()))⟩],
 λ k d=>bb (vI (dJ d.2.1) k d.1.2.2.2.1)⟩ (bI.bR (λ d=>rfl) λ k da db q h=>by
 conv=>rhs;simp only[vI,a6];simp only[bQ]
 kernel_rfl)
noncomputable def T5(F:Nat)(k:Nat)(a:I.aR)(b:I.aP)(eg:(List Int)×(List Int)×Bool)(c:Int):=c7 (True) (bb (pU F a b eg k c))
theorem X6(F:Nat)(k:Nat)(a:I.aR)(b:I.aP)(eg:(List Int)×(List Int)×Bool)(c:Int):bb (pU F a b eg k c)=T5 F k a b ([],eg.2.1,false) c:=(show bb (pU F a b eg k c)=bb (pU F a b ([],eg.2.1,false) k c) by kernel_rfl).trans (dv trivial).symm
noncomputable def apL(F:Nat):aN aB:=(apK F).bU 51 12 F ⟨[2,3,6,16],[.p (.B 0),.p (.B 1),.p (.l 3),.p (.i .i64)],[iK,dI],
 [⟨⟨.nm,[2,3,6],[.p (.B 0),.p (.B 1),.p (.l 3)],[iK,dI]⟩,Unit,λ d r=>(((),(),d.1.2.2.1,()),(d.2.1,d.2.2.1,()))⟩,
  ⟨⟨.rt,[4],[.p (.i .i64)],[.d,.d]⟩,Int,λ d r=>((r,()),((),(),()))⟩],
 λ k d=>T5 F k (dJ d.2.1) (e8 d.2.2.1) ([],d.1.2.2.1,false) d.1.2.2.2.1⟩ (bI.bR (λ d=>du) λ k da db q h=>by
 obtain⟨_,_,(v0:List Int),(v1:Int),_⟩:=da
 obtain⟨⟨(e:List Int),(v3:Int),(v4:Int),(v5:Int),(f:Int),(g:List Int),(i:Int),_⟩,⟨(v9:List I.ak),(a:List Int),(b:List (List I.Field)),(c:List (List (List UInt8))),(j:List (List I.Target)),_⟩,_⟩:=db
 conv=>rhs;change dh (α:=Unit⊕Int) _ (T5 F (k+1) (⟨e,v3,v4,v5,f,g,i⟩:I.aR) (⟨v9,a,b,c,j⟩:I.aP) ([],v0,false) v1);rw[<-X6 F (k+1) (⟨e,v3,v4,v5,f,g,i⟩:I.aR) (⟨v9,a,b,c,j⟩:I.aP) ([],v0,false) v1];simp only[pU,a6,X6];simp only[bQ]
 kernel_rfl)
noncomputable def T7(F:Nat)(k:Nat)(a:I.aR)(eg:(List Int)×(List Int)×Bool)(b:Int)(c:List Int)(sl:Int):=c7 (True) (bb (rm F a eg b c k sl))
theorem X8(F:Nat)(k:Nat)(a:I.aR)(eg:(List Int)×(List Int)×Bool)(b:Int)(c:List Int)(sl:Int):bb (rm F a eg b c k sl)=T7 F k a ([],eg.2.1,false) b c sl:=(show bb (rm F a eg b c k sl)=bb (rm F a ([],eg.2.1,false) b c k sl) by kernel_rfl).trans (dv trivial).symm
noncomputable def apM(F:Nat):aN aB:=(apL F).bU 51 16 F ⟨[2,3,6,17,18,19],[.p (.B 0),.p (.B 1),.p (.l 3),.p (.i .i64),.p (.l 3),.p (.i .i64)],[iK,dI],
 [⟨⟨.nm,[2,3,6,17],[.p (.B 0),.p (.B 1),.p (.l 3),.p (.i .i64)],[iK,dI]⟩,Unit,λ d r=>(((),(),d.1.2.2.1,d.1.2.2.2.1,()),(d.2.1,d.2.2.1,()))⟩,
  ⟨⟨.rt,[4],[.p (.i .i64)],[.d,.d]⟩,Int,λ d r=>((r,()),((),(),()))⟩],
 λ k d=>T7 F k (dJ d.2.1) ([],d.1.2.2.1,false) d.1.2.2.2.1 d.1.2.2.2.2.1 d.1.2.2.2.2.2.1⟩ (bI.bR (λ d=>du) λ k da db q h=>by
 obtain⟨_,_,(v0:List Int),(v1:Int),(b:List Int),(v3:Int),_⟩:=da
 obtain⟨⟨(v4:List Int),(v5:Int),(c:Int),(e:Int),(f:Int),(v9:List Int),(a:Int),_⟩,⟨(g:List I.ak),(i:List Int),(j:List (List I.Field)),(ec:List (List (List UInt8))),(l:List (List I.Target)),_⟩,_⟩:=db
 conv=>rhs;change dh (α:=Unit⊕Int) _ (T7 F (k+1) (⟨v4,v5,c,e,f,v9,a⟩:I.aR) ([],v0,false) v1 b v3);rw[<-X8 F (k+1) (⟨v4,v5,c,e,f,v9,a⟩:I.aR) ([],v0,false) v1 b v3];simp only[rm,a6,X8];simp only[bQ]
 kernel_rfl)
noncomputable def T6(F:Nat)(k:Nat)(a:I.aR)(b:I.aP)(eg:(List Int)×(List Int)×Bool)(c:Int):=c7 (True) (bb (tf F a b eg k c))
theorem X7(F:Nat)(k:Nat)(a:I.aR)(b:I.aP)(eg:(List Int)×(List Int)×Bool)(c:Int):bb (tf F a b eg k c)=T6 F k a b ([],eg.2.1,false) c:=(show bb (tf F a b eg k c)=bb (tf F a b ([],eg.2.1,false) k c) by kernel_rfl).trans (dv trivial).symm
noncomputable def apN(F:Nat):aN aB:=(apM F).bU 51 14 F ⟨[2,3,6,17],[.p (.B 0),.p (.B 1),.p (.l 3),.p (.i .i64)],[iK,dI],
 [⟨⟨.nm,[],[],[iK,dI]⟩,Unit,λ d r=>((),(d.2.1,d.2.2.1,()))⟩,
  ⟨⟨.rt,[4],[.p (.i .i64)],[.d,.d]⟩,Int,λ d r=>((r,()),((),(),()))⟩],
 λ k d=>T6 F k (dJ d.2.1) (e8 d.2.2.1) ([],d.1.2.2.1,false) d.1.2.2.2.1⟩ (bI.bR (λ d=>du) λ k da db q h=>by
 obtain⟨_,_,(v0:List Int),(v1:Int),_⟩:=da
 obtain⟨⟨(e:List Int),(v3:Int),(v4:Int),(v5:Int),(f:Int),(g:List Int),(i:Int),_⟩,⟨(v9:List I.ak),(a:List Int),(b:List (List I.Field)),(c:List (List (List UInt8))),(j:List (List I.Target)),_⟩,_⟩:=db
 conv=>rhs;change dh (α:=Unit⊕Int) _ (T6 F (k+1) (⟨e,v3,v4,v5,f,g,i⟩:I.aR) (⟨v9,a,b,c,j⟩:I.aP) ([],v0,false) v1);rw[<-X7 F (k+1) (⟨e,v3,v4,v5,f,g,i⟩:I.aR) (⟨v9,a,b,c,j⟩:I.aP) ([],v0,false) v1];simp only[tf,a6,X8,X7];simp only[bQ]
 kernel_rfl)
noncomputable def apO(F:Nat):aN aB:=(apN F).rt 51 ⟨[jg,hz],[],[.p (.i .i64)],[],Int,λ d=>E7 F (dJ d.1.1) (e8 d.1.2.1),λ d r=>((r,()),())⟩ λ da db=>by
 obtain⟨⟨(v0:List Int),(v1:Int),(c:Int),(v3:Int),(v4:Int),(v5:List Int),(e:Int),_⟩,⟨(f:List I.ak),(g:List Int),(v9:List (List I.Field)),(a:List (List (List UInt8))),(b:List (List I.Target)),_⟩,_⟩:=da;conv=>rhs;simp only[E7,a6,X6,X7]
 kernel_rfl
noncomputable def apP(F:Nat):aN aB:=(apO F).rt 20 ⟨[jg,hz],[],[.p (.i .i64)],[],Int,λ d=>pW F (dJ d.1.1) (e8 d.1.2.1),λ d r=>((r,()),())⟩ λ da db=>by
 conv=>rhs;simp only[pW,a6]
 kernel_rfl
noncomputable def apQ(F:Nat):aN aB:=(apP F).rt 14 ⟨[jg],[],[.p (.i .i64)],[],Int,λ d=>acs (dJ d.1.1),λ d r=>((r,()),())⟩ λ da db=>by
 conv=>rhs;simp only[acs,a6]
 kernel_rfl
noncomputable def apR(F:Nat):aN aB:=(apQ F).bU 18 0 F ⟨[0,1,5],[.p (.l 3),.p (.l 3),.p (.i .i64)],[],
 [⟨⟨.nm,[],[],[]⟩,Unit,λ d r=>((),())⟩,
  ⟨⟨.rt,[4],[.p (.b)],[]⟩,Bool,λ d r=>((r,()),())⟩],
 λ k d=>bb (vN d.1.1 d.1.2.1 k d.1.2.2.1)⟩ (bI.bR (λ d=>rfl) λ k da db q h=>by
 conv=>rhs;simp only[vN,a6];simp only[bQ]
 kernel_rfl)
noncomputable def apT(F:Nat):aN aB:=(apR F).rt 18 ⟨[.p (.l 3),.p (.l 3)],[],[.p (.b)],[],Bool,λ d=>k1 F d.1.1 d.1.2.1,λ d r=>((r,()),())⟩ λ da db=>by
 conv=>rhs;simp only[k1,a6]
 kernel_rfl
noncomputable def apU(F:Nat):aN aB:=(apT F).rt 32 ⟨[jg,jg],[],[.p (.b)],[],Bool,λ d=>B8 F (dJ d.1.1) (dJ d.1.2.1),λ d r=>((r,()),())⟩ λ da db=>by
 conv=>rhs;simp only[B8,a6]
 kernel_rfl
noncomputable def apV(F:Nat):aN aB:=(apU F).rt 17 ⟨[jg,.p (.i .i64),.p (.i .i64),jg],[],[.p (.b)],[],Bool,λ d=>nE F (dJ d.1.1) d.1.2.1 d.1.2.2.1 (dJ d.1.2.2.2.1),λ d r=>((r,()),())⟩ λ da db=>by
 conv=>rhs;simp only[nE,a6]
 kernel_rfl
noncomputable def T_(F:Nat)(k:Nat)(a:List Int)(b:(List Int)×(List Int)×Bool)(c:Int):=c7 (True) (bb (pV F a b k c))
theorem X'(F:Nat)(k:Nat)(b:List Int)(a:(List Int)×(List Int)×Bool)(c:Int):bb (pV F b a k c)=T_ F k b (a.1,a.2.1,false) c:=(show bb (pV F b a k c)=bb (pV F b (a.1,a.2.1,false) k c) by kernel_rfl).trans (dv trivial).symm
noncomputable def apW(F:Nat):aN aB:=(apV F).bU 40 0 F ⟨[2,7,8,10],[.p (.l 3),.p (.l 3),.p (.l 3),.p (.i .i64)],[],
 [⟨⟨.nm,[],[],[]⟩,Unit,λ d r=>((),())⟩,
  ⟨⟨.rt,[6],[.p (.i .i64)],[]⟩,Int,λ d r=>((r,()),())⟩],
 λ k d=>T_ F k d.1.1 (d.1.2.1,d.1.2.2.1,false) d.1.2.2.2.1⟩ (bI.bR (λ d=>du) λ k da db q h=>by
 obtain⟨(v0:List Int),(v1:List Int),(a:List Int),(v3:Int),_⟩:=da
 conv=>rhs;change dh (α:=Unit⊕Int) _ (T_ F (k+1) v0 (v1,a,false) v3);rw[<-X' F (k+1) v0 (v1,a,false) v3];simp only[pV,a6,X'];simp only[bQ]
 kernel_rfl)
noncomputable def apX(F:Nat):aN aB:=(apW F).rt 40 ⟨[jg,hz,.p (.l 3)],[],[.p (.i .i64)],[],Int,λ d=>yK F (dJ d.1.1) (e8 d.1.2.1) d.1.2.2.1,λ d r=>((r,()),())⟩ λ da db=>by
 obtain⟨⟨(v0:List Int),(v1:Int),(e:Int),(v3:Int),(v4:Int),(v5:List Int),(f:Int),_⟩,⟨(g:List I.ak),(h:List Int),(v9:List (List I.Field)),(a:List (List (List UInt8))),(b:List (List I.Target)),_⟩,(c:List Int),_⟩:=da;conv=>rhs;simp only[yK,a6,X']
 kernel_rfl
noncomputable def Mc(F:Nat):aN aB:=(apX F).rt 13 ⟨[jg,hz,.p (.l 3)],[],[.p (.i .i64)],[],Int,λ d=>s7 F (dJ d.1.1) (e8 d.1.2.1) d.1.2.2.1,λ d r=>((r,()),())⟩ λ da db=>by
 conv=>rhs;simp only[s7,a6]
 kernel_rfl
end Go.Proofs.YteeliipnilghaaaGreat
namespace I
def s3(n:Int):Nat->List Int->Int->Option (List Int)
 |0,_,_=>none
 |k+1,l,i=>cond (decide (i<n)) ((bD 8 l [i]).bind λ l'=>s3 n k l' (ar (i+1))) (some l)
def s0(F:Nat)(n:Int):Option (List Int):=s3 n F [] 0
end I
namespace Go.Proofs.YteeliipnilghaaaGreat
open Go Go.RowKit aq I a8
set_option maxHeartbeats 4000000
set_option maxRecDepth 20000
def AR(a:Nat):cY Int where
 size:=1
 rd _ _ cs q:=cs=[.pointer (some ⟨a,q.toNat,none⟩)]
 len h:=by subst h;rfl
 one h v b:=by subst h;simp at b;subst b;rfl
 law _ h:=h
theorem aDx{F:Nat->Prop}{w:World}{g:Nat}{i:Int}:(AR g).rd F w [.pointer (some ⟨g,0+i.toNat*1,none⟩)] i:=by
 show[_]=[_]
 rw[ji,js]
theorem azq:(Tryz.prog.info? 109).map (λ i=>(i.zero,i.size,i.bytes))=some (some (.pointer none),1,8):=by kernel_rfl
theorem as4{W:World}{X:List Nat}{F:Nat}{A:iC}{n c:Nat}{r:List Int}{M0:List Nat}(z:n<=9223372036854775807)(o:0<n->A=some ⟨dm A,0,none⟩)(b:bs W M0 X W [] [])(h:I.s0 F (n:Int)=some r) :
 Calls Tryz.prog 39 [.slice A n c].toArray W (λ e w'=>∃cb:Option Addr,∃l:Nat,∃xs:List Value,e= .returned (.q cb l r)/\bs W M0 X w' [a7.row 109 1 (.q cb l r) r xs] [bA.rows (AR (dm A)) xs r]):=by
 refine enter Tryz.func39 rfl Tryz.ntmps39 rfl λ a ad=>?_;rw[I.s0]at h
 refine p7 [] [(0,.slice A n c)] ad λ a ad=>p7 [] [(3,.slice none 0 0)] ad λ a ad=>?_
 have b:=b.Kg (α:=Int) 109 1;have b:=b.more (y:=bA.rows (AR (dm A)) [] []) rfl
 refine wp_seq_k λ K p=>p7 [] [(6,.i n),(7,.i 0)] ad λ a ad=>?_
 refine MI (λ a w=>∃(d:iC)(c1:Nat)(vw:oM),Fr ⟨18,[]⟩ [(3,.q d c1 r)] a/\bs W M0 X w [a7.row 109 1 (.q d c1 r) r vw] [bA.rows (AR (dm A)) vw r]) (λ K q=>?_) ?_
 ·refine SM (λ(m:Nat) a w=>∃(d:iC)(c1:Nat)(l1:EZ)(vw:oM)(i:Int),Fr ⟨18,[]⟩ [(0,.slice A n c),(3,.q d c1 l1),(6,.i n),(7,.i i)] a/\bs W M0 X w [a7.row 109 1 (.q d c1 l1) l1 vw] [bA.rows (AR (dm A)) vw l1]/\0<=i/\I.s3 n m l1 i=some r) F ⟨none,0,[],[],0,ad.cut,b,kj _,h⟩ ?_ ?_
  ·rintro a w ⟨d,c1,l1,vw,i,ad,b,hi,h⟩;exact absurd h (by simp[I.s3])
  rintro m a w ⟨d,c1,l1,vw,i,ad,b,hi,h⟩ K s;rw[I.s3]at h
  refine p7 [] [(8,.bool (decide (i<n)))] ad λ a ad=>?_
  refine wp_seq_k λ K t=>MK (ad.g rfl) h (λ af h=>?_) (λ af h=>?_)
  ·refine wp_skip<|t _ _<|wp_seq_k λ K u=>?_
   have v:i<(n:Int):=of_decide_eq_true af
   obtain⟨g,rfl⟩:∃g,A=some ⟨g,0,none⟩:=⟨_,o (by omega)⟩
   obtain⟨j,C1,h⟩:=I.fM h
   refine MI (λ a w=>∃(f:iC)(c2:Nat)(k:oM),Fr ⟨18,[]⟩ [(0,.slice (some ⟨g,0,none⟩) n c),(3,.q f c2 j),(6,.i n),(7,.i i)] a/\bs W M0 X w [a7.row 109 1 (.q f c2 j) j k] [bA.rows (AR g) k j]) (λ K x=>?_) ?_
   ·refine p7 [] [(4,.i i)] ad λ a ad=>?_
    refine oU<|k5 3 [] [(10,.q d c1 l1),(11,.slice (some ⟨g,0,none⟩) n c),(12,.i i)] ad λ a ad=>fH wn (pN Tryz.underlying22 Tryz.sizeOf3 rfl (ad.g rfl) (ad.g rfl) rfl ⟨hi,v⟩) ad rfl rfl λ a ad=>?_
    refine ail (cs:=[.pointer (some ⟨g,0+i.toNat*1,none⟩)]) wn (EP (vs:=[(0,.pointer (some ⟨g,0+i.toNat*1,none⟩))]) Tryz.underlying73 Tryz.sizeOf109 Tryz.zeroValue109 rfl rfl rfl ⟨⟨(ad.g rfl),rfl⟩,trivial⟩ (by kernel_rfl)) ad b rfl rfl λ a B w _ ad b=>?_
    refine KS (T:=AR g) (ml:=[i]) 1 0 0 b rfl rfl rfl Tryz.underlying73 azq rfl rfl C1 rfl rfl ⟨_,_,rfl,aDx,rfl⟩ wn rfl (ad.g rfl) (ad.g rfl) ad rfl rfl λ a f c2 k w ad b=>?_
    refine k5 1 [] [(3,.q f c2 j)] ad λ a ad=>wpList_nil ?_
    exact x _ _ ⟨f,c2,k,ad.cut,b.hS [0]⟩
   rintro a w ⟨f,c2,k,ad,b⟩
   refine u _ _<|ady [] [(7,.i (I.ar (i+1)))] ad λ a ad=>?_
   exact s _ _ ⟨f,c2,j,k,I.ar (i+1),ad.cut,b,by rw[show I.ar (i+1)=i+1 by unfold I.ar;omega];omega,h⟩
  ·refine wp_exit<|sY (sY (HE ?_));obtain rfl:=oi h;exact q _ _ ⟨d,c1,vw,ad.cut,b⟩
 rintro a w ⟨d,c1,vw,ad,b⟩
 refine p _ _<|K7 [] [(2,.q d c1 r)] ad λ a ad=>wp_ret ?_;refine Ax Tryz.results39 ad rfl ?_;exact⟨d,c1,vw,rfl,b⟩
theorem ai2{n:Int}:∀ {k:Nat}{l r:List Int}{i:Int},I.s3 n k l i=some r->n<=9223372036854775807->0<=i->(∀q∈l,0<=q/\q<n)-> ∀q∈r,0<=q/\q<n
 |0,l,r,i,h,_,_,_=>by simp[I.s3]at h
 |k+1,l,r,i,h,b,hi,a=>by
  rw[I.s3]at h;cases af:decide (i<n)with
  |false=>rw[af]at h;obtain rfl:=oi h;exact a
  |true=>
   rw[af]at h
   have c:=of_decide_eq_true af
   obtain⟨d,J,h⟩:=I.fM h
   have e:I.ar (i+1)=i+1:=by unfold I.ar;omega
   rw[e]at h
   refine ai2 h b (by omega) λ q aJ=>?_
   have:d=l++[i]:=by
    unfold bD at J;split at J
    ·exact(oi J).symm
    ·cases J
   rw[this]at aJ
   rcases b3.1 aJ with aJ |aJ
   ·exact a q aJ
   ·cases dK.1 aJ;exact⟨hi,c⟩
theorem ai8{ρ:List Value}{bl:List (aC bk.El)}{F:Nat->Prop}{w:World}{g n c:Nat}(b:ρ[0]? =some (.slice (some ⟨g,0,none⟩) n c))(e:bW bl[0]? =0):∀ {r:List Int}{xs:List Value},(∀q∈r,0<=q/\q<(n:Int))->dx (AR g) F w xs r->tc ρ bl 0 0 1 r xs
 |[],xs,_,h=>h
 |q::r,xs,d,h=>by
  obtain⟨cs,ys,rfl,a,J⟩:=h;have a:cs=[.pointer (some ⟨g,q.toNat,none⟩)]:=a;subst a;have:=d q (by simp);exact⟨_,_,rfl,⟨trivial,_,b,gD _,λ _=>⟨_,_,_,rfl,this.1,this.2,by simp[dm]⟩⟩,ai8 b e (λ q f=>d q (by simp[f])) J⟩
@[reducible] noncomputable def Oz(F:Nat):h2 bk:=⟨[.p (.R 0)],[.r 3 true],[.p (.P 0 1)],[.r 3 true],List Int,λ d=>s0 F d.2.1.length,λ d r=>((r,()),(d.2.1,()))⟩
theorem atH(F:Nat):(Oz F).hL.Bx aB 39:=by
 intro da db eM h W M0 X ρ w vs a b;obtain⟨⟨⟩,⟨⟩⟩:=da;obtain⟨l,⟨⟩⟩:=db;have h:dh _ (I.s0 F (l:List Int).length)=some eM:=h;obtain⟨r,n,rfl⟩:=cd.1 h;have a:Mem bk W M0 X [.r 3 0 0 l] ρ w:=a;have b:a1 bk (bi X [.r 3 0 0 l] ρ w) w ρ [.r 3 0 0 l] [.r 0 0] vs:=b;obtain⟨O,d⟩:=a.r_ (i:=0) rfl;obtain⟨A,c,xs,rfl,B,_⟩:=a.ok 0 _ _ rfl d;simp only[a1,ao]at b;obtain⟨v,_,rfl,⟨_,u,o,_,b⟩,rfl⟩:=b;rw[d]at o;cases o;obtain rfl:=b rfl;have f:=B.cap;have P:h4 (α:=Int) l<=c:=f.1;have p:h4 (α:=Int) l<=9223372036854775807:=by have:=f.2.1;simp only[maxLen]at this;omega
 have s:0<h4 (α:=Int) l->A=some ⟨dm A,0,none⟩:=λ Q=>by
  obtain⟨g,rfl⟩:=f.2.2.2 (by omega);rfl
 refine⟨⟨.ret (.pp 0 0 1 r),[.r 3 0 0 l],[]⟩,by kernel_rfl,?_⟩;refine(as4 (X:=[]) (M0:=[]) p s (bs.start [] [] w [] [] (by simp) (by simp[bT]) (by simp) (by simp[bT]) (by simp)) n).mono λ e w' ⟨cb,j,ys,C,aj⟩=>?_;refine⟨ρ,a.eQ aj.bS,Mem.sG aj.bS,λ k D _=>aj.bS.block k D (by simp),?_⟩;subst C;show ao _ _ _ _ _ (.pp 0 0 1 r) _
 simp only[ao];have ap:(a7.row 109 1 (.slice cb r.length j) r ys).ok w':=aj.e 0 rfl;obtain⟨_,_,e1,e2,e3,e4,e5⟩:=KN ap;simp only[Value.slice.injEq,true_and]at e1;obtain⟨rfl,rfl⟩:=e1;refine⟨cb,j,rfl,e2,e4,λ t=>?_⟩;have E:0<r.length:=kV.2 t;have G:cb≠none:=λ e=>by have:=e4 e;omega
 have m:=e5 G;have x:∀q∈r,0<=q/\q<((h4 (α:=Int) l:Nat):Int):=ai2 n (Int.ofNat_le.2 p) (kj _) (by simp);have H:0<h4 (α:=Int) l:=by
  obtain⟨q,J⟩:=List.exists_mem_of_ne_nil r t;have:=x q J;omega
 have K:=s H;obtain⟨g,rfl⟩:∃g,A=some ⟨g,0,none⟩:=⟨_,K⟩
 obtain⟨g',rfl⟩:∃g',cb=some ⟨g',0,none⟩:=⟨_,m⟩
 have y:=aj.lt g' (by simp[bT,a7.row,Value.ownBlock]);have R:w.heap.size<=g':=y.2.resolve_left (by simp);have S:W.heap.size<=w.heap.size:=a.bS.size;refine⟨rfl,⟨λ L=>?_,λ ap=>?_,y.1⟩,ys,ai8 d rfl x (aj.d 0 rfl),?_⟩
 ·have:g'<W.heap.size:=(a.hP _ L).1;omega
 ·have:g'<w.heap.size:=(a.lt _ ap).1;omega
 ·have M:w'.ownsRow 0 109 1 (.slice (some ⟨g',0,none⟩) r.length j) r.length ys:=ap
  have:=uI E (Or.inl M)
  obtain⟨T,z,U,N,_⟩:=this
  simp only[aD,Addr.mk.injEq,and_true]at z
  subst z
  exact N
theorem ac6(F:Nat):j6 aB 39 ((Oz F).run aB):=λ ys bl r a=>MR (atH F) ys bl r (AB a)
end Go.Proofs.YteeliipnilghaaaGreat
namespace Go.Proofs.YteeliipnilghaaaGreat
open Go Go.RowKit aq I a8
@[reducible] def Gl:h2 bk:=⟨[],[],[.p .b],[],Bool,λ _=>some true,λ _ r=>((r,()),())⟩
theorem auG:Gl.Eq lK (FK lK (Mc 2000).t.ks (λ _ _=>none) 100) (λ _ _=>none) 16:=λ da db=>by
 kernel_rfl
theorem MP(g:Nat)(h:List (aF bk.El)->List (aC bk.El)->D (fj bk.El)):j6 aB g h=j6 lK g h:=by kernel_rfl
theorem asX:j6 lK 16 (Gl.run lK):=
 have a:vF lK (λ _ _=>none):=λ g fn c _ _ _=>uc (λ _=>rfl) c
 have hc:=((Mc 2000).ok jH).ce
 have b:Mf lK (Mc 2000).t.ks:=⟨hc.b7,λ g h d=>(MP g h)▸hc.ok g h d⟩
 λ ys bl r e=>Fw MZ (k6 MZ b a 100) a rfl (c:=Gl.hL) (ed.Eq.v auG) ys bl r (AB e)
theorem aGp:Gl.run aB=Gl.run lK:=by kernel_rfl
noncomputable def apY(F:Nat):aN aB:=(Mc F).add 16 (Gl.run aB) (aGp▸(MP 16 _)▸asX)
noncomputable def apZ(F:Nat):aN aB:=(apY F).add 39 ((Oz F).run aB) (ac6 F)
end Go.Proofs.YteeliipnilghaaaGreat
namespace Go.Proofs.YteeliipnilghaaaGreat
open Go Go.RowKit aq I a8
set_option maxRecDepth 100000
@[reducible] def GG:bF:=.c 24 [.R 2,.i .i64,.i .i64,.i .i64,.i .i64,.l 3,.i .i64]
@[reducible] def Aq:bF:=.c 24 [.R 1,.i .i64,.i .i64,.i .i64,.i .i64,.l 3,.i .i64]
@[reducible] def aiQ:cD:=.a [.l 3,.i .i64,.i .i64,.i .i64,.i .i64,.l 3,.i .i64]
@[reducible] def GH:bF:=.c 108 [.B 1,.l 134,.l 3,.l 124,.l 120,.l 121,.M 3]
@[reducible] def GI:bF:=.c 108 [.B 0,.l 134,.l 3,.l 124,.l 120,.l 121,.M 3]
@[reducible] def aiR:cD:=.a [.l 134,.l 3,.l 124,.l 120,.l 121]
abbrev anT:=(Unit×(Unit×List ak×List Int×List (List I.Field)×List (List (List UInt8))×List (List I.Target)×Unit×Unit)×(Unit×Int×Int×Int×Int×List Int×Int×Unit)×List Int×List (Int×Int)×Unit)
abbrev RH:=(Unit×List ak×List Int×List (List I.Field)×List (List (List UInt8))×List (List I.Target)×Unit×Unit)
abbrev LZ:=(Unit×Int×Int×Int×Int×List Int×Int×Unit)
def abU(F:Nat)(a:Int)(g:List ak)(h:List Int)(i:List (List I.Field))(j:List (List (List UInt8)))(k:List (List I.Target))(e:Int)(l:Int)(m:Int)(c:Int)(n:List Int)(o:Int)(b:List Int)(d:List (Int×Int)):Option ((Int×Unit)×RH×LZ×List Int×List (Int×Int)×Unit):=
 cond (decide (a=0)||decide (e<a)) (some ((a,()),((),g,h,i,j,k,(),()),((),e,l,m,c,n,o,()),b,d,())) (
cond ((cF d a).isSome) (some ((((cF d a).getD 0),()),((),g,h,i,j,k,(),()),((),e,l,m,c,n,o,()),b,d,())) (
(idx b (ar (a+1))).bind λ f=>
(if(0 :Int)<=c/\c<=(↑b.length:Int)/\(↑b.length:Int)<=(↑b.length:Int)then some ()else none).bind λ Lr=>
(if(0 :Int)<=a/\a<=ar (a+ar (3+f))/\ar (a+ar (3+f))<=(↑b.length:Int)then some ()else none).bind λ p=>
(DT (decide (0<b.length))).bind λ q=>
some ((c,()),((),g,h,i,j,k,(),()),((),e,l,m,(ar (c+ar (3+f))),n,o,()),(gF b c.toNat (lu ((↑b.length:Int)-c).toNat (List.drop a.toNat (lu (ar (a+ar (3+f))).toNat b)))),(gC d a c),())))
noncomputable def ap0(F:Nat):aN aB:=(apZ F).fn 69 ⟨[.p (.B 0),.p (.i .i64)],[GH,GG,.r 3 true,.m 3 3],[.p (.i .i64)],[GH,GG,.r 3 true,.m 3 3],λ d=>abU F d.1.2.1 d.2.1.2.1 d.2.1.2.2.1 d.2.1.2.2.2.1 d.2.1.2.2.2.2.1 d.2.1.2.2.2.2.2.1 d.2.2.1.2.1 d.2.2.1.2.2.1 d.2.2.1.2.2.2.1 d.2.2.1.2.2.2.2.1 d.2.2.1.2.2.2.2.2.1 d.2.2.1.2.2.2.2.2.2.1 d.2.2.2.1 d.2.2.2.2.1⟩ λ da db=>by kernel_rfl
def RK(F:Nat):Nat->(Int)->(Int)->(Int)->(List ak)->(List Int)->(List (List I.Field))->(List (List (List UInt8)))->(List (List I.Target))->(Int)->(Int)->(Int)->(Int)->(List Int)->(Int)->(List Int)->(List (Int×Int))->Option anT
 |0,_,_,_,_,_,_,_,_,_,_,_,_,_,_,_,_=>none
 |aO+1,c,j,b,e,f,g,h,i,k,l,m,n,o,p,d,q=>
  cond (decide (b<j)) ((idx d c).bind λ r=>
(rY (b4.mk (aP.mk e f g h i)) r b).bind λ s=>
cond s ((idx d (ar (ar (c+3)+b))).bind λ t=>
(abU F t e f g h i k l m n o p d q).bind λ a=>
(idx a.2.2.2.1 (ar (ar (c+3)+b))).bind λ u=>
RK F aO c j (ar (b+1)) a.2.1.2.1 a.2.1.2.2.1 a.2.1.2.2.2.1 a.2.1.2.2.2.2.1 a.2.1.2.2.2.2.2.1 a.2.2.1.2.1 a.2.2.1.2.2.1 a.2.2.1.2.2.2.1 a.2.2.1.2.2.2.2.1 a.2.2.1.2.2.2.2.2.1 a.2.2.1.2.2.2.2.2.2.1 (List.set a.2.2.2.1 (ar (ar (c+3)+b)).toNat a.1.1) a.2.2.2.2.1) (
RK F aO c j (ar (b+1)) e f g h i k l m n o p d q)) (
some ((),((),e,f,g,h,i,(),()),((),k,l,m,n,o,p,()),d,q,()))
noncomputable def ap1(F:Nat):aN aB:=(ap0 F).fB 70 0 F ⟨[0,1,16,17],[.p (.B 0),.p (.i .i64),.p (.i .i64),.p (.i .i64)],[GH,GG,.r 3 true,.m 3 3],[⟨.nm,[],[],[GH,GG,.r 3 true,.m 3 3]⟩],λ k d=>RK F k d.1.2.1 d.1.2.2.1 d.1.2.2.2.1 d.2.1.2.1 d.2.1.2.2.1 d.2.1.2.2.2.1 d.2.1.2.2.2.2.1 d.2.1.2.2.2.2.2.1 d.2.2.1.2.1 d.2.2.1.2.2.1 d.2.2.1.2.2.2.1 d.2.2.1.2.2.2.2.1 d.2.2.1.2.2.2.2.2.1 d.2.2.1.2.2.2.2.2.2.1 d.2.2.2.1 d.2.2.2.2.1⟩ ⟨λ d=>by kernel_rfl,λ k da db=>by kernel_rfl⟩
def abV(F:Nat)(b:Int)(d:List ak)(e:List Int)(f:List (List I.Field))(g:List (List (List UInt8)))(h:List (List I.Target))(i:Int)(j:Int)(k:Int)(l:Int)(m:List Int)(n:Int)(c:List Int)(o:List (Int×Int)):Option anT:=
 (idx c (ar (b+1))).bind λ p=>
(RK F F b p 0 d e f g h i j k l m n c o).bind λ a=>
some ((),((),a.2.1.2.1,a.2.1.2.2.1,a.2.1.2.2.2.1,a.2.1.2.2.2.2.1,a.2.1.2.2.2.2.2.1,(),()),((),a.2.2.1.2.1,a.2.2.1.2.2.1,a.2.2.1.2.2.2.1,a.2.2.1.2.2.2.2.1,a.2.2.1.2.2.2.2.2.1,a.2.2.1.2.2.2.2.2.2.1,()),a.2.2.2.1,a.2.2.2.2.1,())
noncomputable def ap3(F:Nat):aN aB:=(ap1 F).fn 70 ⟨[.p (.B 0),.p (.i .i64)],[GH,GG,.r 3 true,.m 3 3],[],[GH,GG,.r 3 true,.m 3 3],λ d=>abV F d.1.2.1 d.2.1.2.1 d.2.1.2.2.1 d.2.1.2.2.2.1 d.2.1.2.2.2.2.1 d.2.1.2.2.2.2.2.1 d.2.2.1.2.1 d.2.2.1.2.2.1 d.2.2.1.2.2.2.1 d.2.2.1.2.2.2.2.1 d.2.2.1.2.2.2.2.2.1 d.2.2.1.2.2.2.2.2.2.1 d.2.2.2.1 d.2.2.2.2.1⟩ λ da db=>by kernel_rfl
def abR(F:Nat):Nat->(Int)->(List Int)->(Int)->(Int)->(Int)->(Int)->(Int)->(Int)->(List Int)->(Int)->(List Int)->(List ak)->(List Int)->(List (List I.Field))->(List (List (List UInt8)))->(List (List I.Target))->(List (Int×Int))->(List Int)->Option ((Unit×Unit×Int×Unit)×
 LZ×List Int×RH×List (Int×Int)×List Int×Unit)
 |0,_,_,_,_,_,_,_,_,_,_,_,_,_,_,_,_,_,_=>none
 |aO+1,d,e,f,b,g,h,i,j,k,sO,l,m,n,o,p,q,r,c=>
  cond (decide (b<f)) ((idx e b).bind λ s=>
(idx c s).bind λ t=>
(abU F t m n o p q g h i j k sO l r).bind λ a=>
abR F aO d e f (ar (b+1)) a.2.2.1.2.1 a.2.2.1.2.2.1 a.2.2.1.2.2.2.1 a.2.2.1.2.2.2.2.1 a.2.2.1.2.2.2.2.2.1 a.2.2.1.2.2.2.2.2.2.1 a.2.2.2.1 a.2.1.2.1 a.2.1.2.2.1 a.2.1.2.2.2.1 a.2.1.2.2.2.2.1 a.2.1.2.2.2.2.2.1 a.2.2.2.2.1 (c.set s.toNat a.1.1)) (
some (((),(),d,()),((),g,h,i,j,k,sO,()),l,((),m,n,o,p,q,(),()),r,c,()))
noncomputable def ap4(F:Nat):aN aB:=(ap3 F).fB 38 0 F ⟨[0,6,7,22,23,24],[.p (.B 0),.p (.B 2),.p (.i .i64),.p (.P 4 1),.p (.i .i64),.p (.i .i64)],[Aq,.r 3 true,GI,.m 3 3,.r 3 true],[⟨.nm,[0,6,7],[.p (.B 0),.p (.B 2),.p (.i .i64)],[Aq,.r 3 true,GI,.m 3 3,.r 3 true]⟩],λ k d=>abR F k d.1.2.2.1 d.1.2.2.2.1 d.1.2.2.2.2.1 d.1.2.2.2.2.2.1 d.2.1.2.1 d.2.1.2.2.1 d.2.1.2.2.2.1 d.2.1.2.2.2.2.1 d.2.1.2.2.2.2.2.1 d.2.1.2.2.2.2.2.2.1 d.2.2.1 d.2.2.2.1.2.1 d.2.2.2.1.2.2.1 d.2.2.2.1.2.2.2.1 d.2.2.2.1.2.2.2.2.1 d.2.2.2.1.2.2.2.2.2.1 d.2.2.2.2.1 d.2.2.2.2.2.1⟩ ⟨λ d=>by kernel_rfl,λ k da db=>by kernel_rfl⟩
def abS(F:Nat):Nat->(Int)->(List Int)->(Int)->(Int)->(Int)->(Int)->(Int)->(Int)->(List Int)->(Int)->(List Int)->(List ak)->(List Int)->(List (List I.Field))->(List (List (List UInt8)))->(List (List I.Target))->(List (Int×Int))->Option ((Unit×Unit×Int×Unit)×
 LZ×List Int×RH×List (Int×Int)×Unit)
 |0,_,_,_,_,_,_,_,_,_,_,_,_,_,_,_,_,_=>none
 |aO+1,h,i,j,f,k,l,m,n,o,p,q,r,s,b,c,d,e=>
  cond (decide (f<j)) ((idx i f).bind λ g=>
(abV F g r s b c d k l m n o p q e).bind λ a=>
abS F aO h i j (ar (f+1)) a.2.2.1.2.1 a.2.2.1.2.2.1 a.2.2.1.2.2.2.1 a.2.2.1.2.2.2.2.1 a.2.2.1.2.2.2.2.2.1 a.2.2.1.2.2.2.2.2.2.1 a.2.2.2.1 a.2.1.2.1 a.2.1.2.2.1 a.2.1.2.2.2.1 a.2.1.2.2.2.2.1 a.2.1.2.2.2.2.2.1 a.2.2.2.2.1) (
some (((),(),h,()),((),k,l,m,n,o,p,()),q,((),r,s,b,c,d,(),()),e,()))
noncomputable def ap5(F:Nat):aN aB:=(ap4 F).fB 38 2 F ⟨[0,6,7,39,40,41],[.p (.B 0),.p (.B 2),.p (.i .i64),.p (.l 3),.p (.i .i64),.p (.i .i64)],[Aq,.r 3 true,GI,.m 3 3],[⟨.nm,[0,6,7],[.p (.B 0),.p (.B 2),.p (.i .i64)],[Aq,.r 3 true,GI,.m 3 3]⟩],λ k d=>abS F k d.1.2.2.1 d.1.2.2.2.1 d.1.2.2.2.2.1 d.1.2.2.2.2.2.1 d.2.1.2.1 d.2.1.2.2.1 d.2.1.2.2.2.1 d.2.1.2.2.2.2.1 d.2.1.2.2.2.2.2.1 d.2.1.2.2.2.2.2.2.1 d.2.2.1 d.2.2.2.1.2.1 d.2.2.2.1.2.2.1 d.2.2.2.1.2.2.2.1 d.2.2.2.1.2.2.2.2.1 d.2.2.2.1.2.2.2.2.2.1 d.2.2.2.2.1⟩ ⟨λ d=>by kernel_rfl,λ k da db=>by kernel_rfl⟩
def abT(F:Nat):Nat->(Int)->(Int)->(Int)->(Int)->(Int)->(List Int)->(Int)->(List Int)->(List ak)->(List Int)->(List (List I.Field))->(List (List (List UInt8)))->(List (List I.Target))->(List (Int×Int))->Option ((Unit×Unit)×LZ×List Int×RH×List (Int×Int)×Unit)
 |0,_,_,_,_,_,_,_,_,_,_,_,_,_,_=>none
 |aO+1,b,d,e,f,c,g,h,i,j,k,l,m,n,o=>
  cond (decide (b<c)) ((abV F b j k l m n d e f c g h i o).bind λ a=>
(idx a.2.2.2.1 (ar (b+1))).bind λ p=>
abT F aO (ar (b+ar (3+p))) a.2.2.1.2.1 a.2.2.1.2.2.1 a.2.2.1.2.2.2.1 a.2.2.1.2.2.2.2.1 a.2.2.1.2.2.2.2.2.1 a.2.2.1.2.2.2.2.2.2.1 a.2.2.2.1 a.2.1.2.1 a.2.1.2.2.1 a.2.1.2.2.2.1 a.2.1.2.2.2.2.1 a.2.1.2.2.2.2.2.1 a.2.2.2.2.1) (
some (((),()),((),d,e,f,c,g,h,()),i,((),j,k,l,m,n,(),()),o,()))
noncomputable def ap6(F:Nat):aN aB:=(ap5 F).fB 38 4 F ⟨[0,6,12],[.p (.B 0),.p (.B 2),.p (.i .i64)],[Aq,.r 3 true,GI,.m 3 3],[⟨.nm,[0],[.p (.B 0)],[Aq,.r 3 true,GI,.m 3 3]⟩],λ k d=>abT F k d.1.2.2.1 d.2.1.2.1 d.2.1.2.2.1 d.2.1.2.2.2.1 d.2.1.2.2.2.2.1 d.2.1.2.2.2.2.2.1 d.2.1.2.2.2.2.2.2.1 d.2.2.1 d.2.2.2.1.2.1 d.2.2.2.1.2.2.1 d.2.2.2.1.2.2.2.1 d.2.2.2.1.2.2.2.2.1 d.2.2.2.1.2.2.2.2.2.1 d.2.2.2.2.1⟩ ⟨λ d=>by kernel_rfl,λ k da db=>by kernel_rfl⟩
def L1(F:Nat)(f:List ak)(g:List Int)(h:List (List I.Field))(Ev:List (List (List UInt8)))(i:List (List I.Target))(d:List Int)(j:Int)(k:Int)(l:Int)(e:Int)(m:List Int)(n:Int)(o:List Int)(p:List Int):Option (Unit×LZ×List Int×List Int×Unit):=
 (abR F F e d (↑d.length:Int) 0 j k l e m n o f g h Ev i [] p).bind λ a=>
(abS F F a.1.2.2.1 a.2.1.2.2.2.2.2.1 (↑(h4 a.2.1.2.2.2.2.2.1):Int) 0 a.2.1.2.1 a.2.1.2.2.1 a.2.1.2.2.2.1
 a.2.1.2.2.2.2.1 a.2.1.2.2.2.2.2.1 a.2.1.2.2.2.2.2.2.1 a.2.2.1 a.2.2.2.1.2.1 a.2.2.2.1.2.2.1 a.2.2.2.1.2.2.2.1
 a.2.2.2.1.2.2.2.2.1 a.2.2.2.1.2.2.2.2.2.1 a.2.2.2.2.1).bind λ b=>
(abT F F b.1.2.2.1 b.2.1.2.1 b.2.1.2.2.1 b.2.1.2.2.2.1 b.2.1.2.2.2.2.1 b.2.1.2.2.2.2.2.1 b.2.1.2.2.2.2.2.2.1 b.2.2.1
 b.2.2.2.1.2.1 b.2.2.2.1.2.2.1 b.2.2.2.1.2.2.2.1 b.2.2.2.1.2.2.2.2.1 b.2.2.2.1.2.2.2.2.2.1 b.2.2.2.2.1).bind λ c=>
(if(0 :Int)<=1/\1<=ar (c.2.1.2.1+1)/\ar (c.2.1.2.1+1)<=(↑(h4 c.2.2.1):Int)then some ()else none).bind λ q=>
(DT (decide (1<ar (c.2.1.2.1+1)))).bind λ r=>
some ((),((),c.2.1.2.1,c.2.1.2.2.1,1,c.2.1.2.2.2.2.1,([]),c.2.1.2.2.2.2.2.2.1,()),(gF c.2.2.1 (Int.toNat 1) (eH (ar (c.2.1.2.1+1)-1).toNat 0)),a.2.2.2.2.2.1,())
noncomputable def ap7(F:Nat):aN aB:=(ap6 F).fn 38 ⟨[.p (.B 0),aiR,.p (.P 2 1)],[Aq,.r 3 true,.r 3 true],[],[Aq,.r 3 true,.r 3 true],λ d=>L1 F d.1.2.1.1 d.1.2.1.2.1 d.1.2.1.2.2.1 d.1.2.1.2.2.2.1 d.1.2.1.2.2.2.2.1 d.1.2.2.1 d.2.1.2.1 d.2.1.2.2.1 d.2.1.2.2.2.1 d.2.1.2.2.2.2.1 d.2.1.2.2.2.2.2.1 d.2.1.2.2.2.2.2.2.1 d.2.2.1 d.2.2.2.1⟩ λ da db=>by kernel_rfl
def abO(F:Nat)(i:List Int)(b:Int)(c:Int)(d:Int)(e:Int)(j:List Int)(k:Int)(w:List ak)(x:List Int)(y:List (List I.Field))(z:List (List (List UInt8)))(A:List (List I.Target))(l:List Int):Option (((List Int×Int×Int×Int×Int×List Int×Int×Unit)×List Int×Int×Unit)×Unit):=
 dj (jU (kC F (aR.mk i b c d e j k) (aP.mk w x y z A))) (λ a=>
cond (decide (a.2=0)) ((ER F
 (bg.mk (aR.mk a.1.H.Words a.1.H.av a.1.H.aL a.1.H.aU a.1.H.aT a.1.H.aS a.1.H.Next)
  (b4.mk (aP.mk a.1.S.K.aY a.1.S.K.aW a.1.S.K.Fields a.1.S.K.Names a.1.S.K.aX)) a.1.av a.1.aL a.1.dz)
 l).bind λ r=>
cond (decide (r=0)) (cond (decide (ar (ar (ar (ar (b+c)+1)-e)-ar (d-1))<0)) (some (((([]),0,0,0,0,([]),0,()),([]),8,()),())) (
cond (!decide (r=0)) (some (((([]),0,0,0,0,([]),0,()),([]),r,()),())) (
(nY (aR.mk i b c d e j k)).bind λ m=>
(bD 8 [] l).bind λ s=>
(s0 F (↑s.length:Int)).bind λ B=>
(L1 F a.1.S.K.aY a.1.S.K.aW a.1.S.K.Fields a.1.S.K.Names a.1.S.K.aX B m.av m.aL m.aU m.aT m.aS m.Next m.Words s).bind λ f=>
some (((f.2.2.1,f.2.1.2.1,f.2.1.2.2.1,f.2.1.2.2.2.1,f.2.1.2.2.2.2.1,f.2.1.2.2.2.2.2.1,f.2.1.2.2.2.2.2.2.1,()),f.2.2.2.1,0,()),())))) (
cond (!decide (r=0)) (some (((([]),0,0,0,0,([]),0,()),([]),r,()),())) (
(nY (aR.mk i b c d e j k)).bind λ n=>
(bD 8 [] l).bind λ t=>
(s0 F (↑t.length:Int)).bind λ C=>
(L1 F a.1.S.K.aY a.1.S.K.aW a.1.S.K.Fields a.1.S.K.Names a.1.S.K.aX C n.av n.aL n.aU n.aT n.aS n.Next n.Words t).bind λ nn=>
some (((nn.2.2.1,nn.2.1.2.1,nn.2.1.2.2.1,nn.2.1.2.2.2.1,nn.2.1.2.2.2.2.1,nn.2.1.2.2.2.2.2.1,nn.2.1.2.2.2.2.2.2.1,()),nn.2.2.2.1,0,()),())))) (
cond (decide (a.2=0)) (cond (decide (ar (ar (ar (ar (b+c)+1)-e)-ar (d-1))<0)) (some (((([]),0,0,0,0,([]),0,()),([]),8,()),())) (
cond (!decide (a.2=0)) (some (((([]),0,0,0,0,([]),0,()),([]),a.2,()),())) (
(nY (aR.mk i b c d e j k)).bind λ o=>
(bD 8 [] l).bind λ u=>
(s0 F (↑u.length:Int)).bind λ D=>
(L1 F a.1.S.K.aY a.1.S.K.aW a.1.S.K.Fields a.1.S.K.Names a.1.S.K.aX D o.av o.aL o.aU o.aT o.aS o.Next o.Words u).bind λ g=>
some (((g.2.2.1,g.2.1.2.1,g.2.1.2.2.1,g.2.1.2.2.2.1,g.2.1.2.2.2.2.1,g.2.1.2.2.2.2.2.1,g.2.1.2.2.2.2.2.2.1,()),g.2.2.2.1,0,()),())))) (
cond (!decide (a.2=0)) (some (((([]),0,0,0,0,([]),0,()),([]),a.2,()),())) (
(nY (aR.mk i b c d e j k)).bind λ p=>
(bD 8 [] l).bind λ v=>
(s0 F (↑v.length:Int)).bind λ E=>
(L1 F a.1.S.K.aY a.1.S.K.aW a.1.S.K.Fields a.1.S.K.Names a.1.S.K.aX E p.av p.aL p.aU p.aT p.aS p.Next p.Words v).bind λ h=>
some (((h.2.2.1,h.2.1.2.1,h.2.1.2.2.1,h.2.1.2.2.2.1,h.2.1.2.2.2.2.1,h.2.1.2.2.2.2.2.1,h.2.1.2.2.2.2.2.2.1,()),h.2.2.2.1,0,()),()))))) (λ q=>
cond (decide (q=0)) none (
cond (decide (q=0)) (cond (decide (ar (ar (ar (ar (b+c)+1)-e)-ar (d-1))<0)) (some (((([]),0,0,0,0,([]),0,()),([]),8,()),())) (
cond (!decide (q=0)) (some (((([]),0,0,0,0,([]),0,()),([]),q,()),())) (
(nY (aR.mk i b c d e j k)).bind λ G=>
(bD 8 [] l).bind λ H=>
none))) (
cond (!decide (q=0)) (some (((([]),0,0,0,0,([]),0,()),([]),q,()),())) (
(nY (aR.mk i b c d e j k)).bind λ J=>
(bD 8 [] l).bind λ K=>
none))))
noncomputable def ap8(F:Nat):aN aB:=(ap7 F).fn 12 ⟨[aiQ,aiR,.p (.l 3)],[],[aiQ,.p (.l 3),.p (.i .i64)],[],λ d=>abO F d.1.1.1 d.1.1.2.1 d.1.1.2.2.1 d.1.1.2.2.2.1 d.1.1.2.2.2.2.1 d.1.1.2.2.2.2.2.1 d.1.1.2.2.2.2.2.2.1 d.1.2.1.1 d.1.2.1.2.1 d.1.2.1.2.2.1 d.1.2.1.2.2.2.1 d.1.2.1.2.2.2.2.1 d.1.2.2.1⟩ λ da db=>by kernel_rfl
def B0(F:Nat):Nat->(List Int)->(Int)->(Int)->Option ((Int×Unit)×Unit⊕Unit×Unit)
 |0,_,_,_=>none
 |aO+1,b,c,a=>
  cond (decide (a<(↑b.length:Int))) ((idx b a).bind λ d=>
cond (decide (d=c)) (some (.inl ((a,()),()))) (
B0 F aO b c (ar (a+1)))) (
some (.inr ((),())))
noncomputable def ap9(F:Nat):aN aB:=(ap8 F).fB 29 0 F ⟨[0,1,5],[.p (.l 3),.p (.i .i64),.p (.i .i64)],[],[⟨.rt,[4],[.p (.i .i64)],[]⟩,⟨.nm,[],[],[]⟩],λ k d=>B0 F k d.1.1 d.1.2.1 d.1.2.2.1⟩ ⟨λ d=>by kernel_rfl,λ k da db=>by kernel_rfl⟩
def BZ(F:Nat)(a:List Int)(b:Int):Option ((Int×Unit)×Unit):=
 dj (B0 F F a b 0) (λ c=>
some ((c.1.1,()),())) (λ d=>
some (((-1),()),()))
noncomputable def ap_(F:Nat):aN aB:=(ap9 F).fn 29 ⟨[.p (.l 3),.p (.i .i64)],[],[.p (.i .i64)],[],λ d=>BZ F d.1.1 d.1.2.1⟩ λ da db=>by kernel_rfl
noncomputable def ap'(F:Nat):aN aB:=(ap_ F).CC 43
noncomputable def aqa(F:Nat):aN aB:=(ap' F).CC 29
end Go.Proofs.YteeliipnilghaaaGreat
namespace Go.Proofs.YteeliipnilghaaaGreat
open Go Go.RowKit aq I a8
set_option maxRecDepth 100000
@[reducible] def eF:bF:=.c 24 [.l 3,.i .i64,.i .i64,.i .i64,.i .i64,.l 3,.i .i64]
@[reducible] def GK:bF:=.c 24 [.R 7,.i .i64,.i .i64,.i .i64,.i .i64,.l 3,.i .i64]
@[reducible] def Px:bF:=.c 24 [.R 6,.i .i64,.i .i64,.i .i64,.i .i64,.l 3,.i .i64]
@[reducible] def Kr:cD:=.a [.l 3,.i .i64,.i .i64,.i .i64,.i .i64,.l 3,.i .i64]
@[reducible] def jT:bF:=.c 30 [.l 134,.l 3,.l 124,.l 120,.l 121]
@[reducible] def XR:cD:=.a [.l 134,.l 3,.l 124,.l 120,.l 121]
abbrev anU:=(Unit×
 (List Int×Int×Int×Int×Int×List Int×Int×Unit)×
  (List ak×List Int×List (List I.Field)×List (List (List UInt8))×List (List I.Target)×Unit)×
   (Unit×Unit)×(List Int×Unit)×(Unit×Unit)×List Int×(Unit×Int×Int×Int×Int×List Int×Int×Unit)×List Int×Unit)
abbrev Bs:=(List ak×List Int×List (List I.Field)×List (List (List UInt8))×List (List I.Target)×Unit)
abbrev anV:=(List Int×Unit×Unit×Unit×Unit×(Unit×Unit×Unit)×Int×Unit)
abbrev anW:=(List Int×Unit×Unit×Unit×Unit×(Unit×Unit×Unit)×Unit)
abbrev j5:=(List Int×Int×Int×Int×Int×List Int×Int×Unit)
abbrev abM:=(Unit×Int×Int×Int×Int×List Int×Int×Unit)
def H'(F:Nat)(a:Int)(b:List Int)(c:List Int):Option ((Int×Unit)×(List Int×Unit)×(Unit×Unit)×List Int×Unit):=
 (BZ F b a).bind λ d=>
cond (decide (a=0)||decide (d.1.1<0)) (some ((a,()),(b,()),((),()),c,())) (
(idx c d.1.1).bind λ e=>
some ((e,()),(b,()),((),()),c,()))
noncomputable def aqc(F:Nat):aN aB:=(aqa F).fn 72 ⟨[.p (.i .i64),.p (.B 0),.p (.B 1)],[.c 22 [.l 3],.c 22 [.R 2],.r 3 true],[.p (.i .i64)],[.c 22 [.l 3],.c 22 [.R 2],.r 3 true],λ d=>H' F d.1.1 d.2.1.1 d.2.2.2.1⟩ λ da db=>by kernel_rfl
def tm(F:Nat):Nat->(Int)->(Int)->(Int)->(List Int)->(Int)->(Int)->(Int)->(Int)->(List Int)->(Int)->(List ak)->(List Int)->(List (List I.Field))->(List (List (List UInt8)))->(List (List I.Target))->(List Int)->(List Int)->(Int)->(Int)->(Int)->(Int)->(List Int)->(Int)->(List Int)->Option anU
 |0,_,_,_,_,_,_,_,_,_,_,_,_,_,_,_,_,_,_,_,_,_,_,_,_=>none
 |aO+1,e,b,a,c,k,l,m,n,o,p,f,g,h,i,j,q,r,s,t,u,v,w,x,d=>
  (idx c (ar (e+1))).bind λ A=>
cond (decide (a<ar (3+A))) ((idx c (ar (e+a))).bind λ y=>
cond (decide (3<=a)) ((idx c e).bind λ B=>
(tl (aP.mk f g h i j) B (ar (a-3))).bind λ C=>
cond C ((H' F y q r).bind λ z=>
(idx d (ar (b+a))).bind λ D=>
tm F aO e b (ar (a+1)) c k l m n o p f g h i j z.2.1.1 z.2.2.2.1 s t u v w x (d.set (ar (b+a)).toNat z.1.1)) (
(idx d (ar (b+a))).bind λ E=>
tm F aO e b (ar (a+1)) c k l m n o p f g h i j q r s t u v w x (d.set (ar (b+a)).toNat y))) (
(idx d (ar (b+a))).bind λ G=>
tm F aO e b (ar (a+1)) c k l m n o p f g h i j q r s t u v w x (d.set (ar (b+a)).toNat y))) (
some ((),(c,k,l,m,n,o,p,()),(f,g,h,i,j,()),((),()),(q,()),((),()),r,((),s,t,u,v,w,x,()),d,()))
noncomputable def aqd(F:Nat):aN aB:=(aqc F).fB 73 0 F ⟨[0,1,2,3,4,5,8],[.p (.i .i64),.p (.i .i64),.p (.B 0),.p (.B 1),.p (.B 2),.p (.B 6),.p (.i .i64)],[eF,jT,.c 110 [.F 72 [3,4]],.c 22 [.l 3],.c 22 [.R 5],.r 3 true,GK,.r 3 true],[⟨.nm,[],[],[eF,jT,.c 110 [.F 72 [3,4]],.c 22 [.l 3],.c 22 [.R 5],.r 3 true,GK,.r 3 true]⟩],λ k d=>tm F k d.1.1 d.1.2.1 d.1.2.2.2.2.2.2.1 d.2.1.1 d.2.1.2.1 d.2.1.2.2.1 d.2.1.2.2.2.1 d.2.1.2.2.2.2.1 d.2.1.2.2.2.2.2.1 d.2.1.2.2.2.2.2.2.1 d.2.2.1.1 d.2.2.1.2.1 d.2.2.1.2.2.1 d.2.2.1.2.2.2.1 d.2.2.1.2.2.2.2.1 d.2.2.2.2.1.1 d.2.2.2.2.2.2.1 d.2.2.2.2.2.2.2.1.2.1 d.2.2.2.2.2.2.2.1.2.2.1 d.2.2.2.2.2.2.2.1.2.2.2.1 d.2.2.2.2.2.2.2.1.2.2.2.2.1 d.2.2.2.2.2.2.2.1.2.2.2.2.2.1 d.2.2.2.2.2.2.2.1.2.2.2.2.2.2.1 d.2.2.2.2.2.2.2.2.1⟩ ⟨λ d=>by kernel_rfl,λ k da db=>by kernel_rfl⟩
def Ia(F:Nat)(p:Int)(Bl:Int)(q:List Int)(r:Int)(s:Int)(t:Int)(u:Int)(v:List Int)(w:Int)(b:List ak)(c:List Int)(d:List (List I.Field))(e:List (List (List UInt8)))(f:List (List I.Target))(g:List Int)(h:List Int)(i:Int)(j:Int)(k:Int)(l:Int)(m:List Int)(n:Int)(o:List Int):Option anU:=
 (tm F F p Bl 0 q r s t u v w b c d e f g h i j k l m n o).bind λ a=>
some ((),(a.2.1.1,a.2.1.2.1,a.2.1.2.2.1,a.2.1.2.2.2.1,a.2.1.2.2.2.2.1,a.2.1.2.2.2.2.2.1,a.2.1.2.2.2.2.2.2.1,()),(a.2.2.1.1,a.2.2.1.2.1,a.2.2.1.2.2.1,a.2.2.1.2.2.2.1,a.2.2.1.2.2.2.2.1,()),((),()),(a.2.2.2.2.1.1,()),((),()),a.2.2.2.2.2.2.1,((),a.2.2.2.2.2.2.2.1.2.1,a.2.2.2.2.2.2.2.1.2.2.1,a.2.2.2.2.2.2.2.1.2.2.2.1,a.2.2.2.2.2.2.2.1.2.2.2.2.1,a.2.2.2.2.2.2.2.1.2.2.2.2.2.1,a.2.2.2.2.2.2.2.1.2.2.2.2.2.2.1,()),a.2.2.2.2.2.2.2.2.1,())
noncomputable def aqe(F:Nat):aN aB:=(aqd F).fn 73 ⟨[.p (.i .i64),.p (.i .i64),.p (.B 0),.p (.B 1),.p (.B 2),.p (.B 6)],[eF,jT,.c 110 [.F 72 [3,4]],.c 22 [.l 3],.c 22 [.R 5],.r 3 true,GK,.r 3 true],[],[eF,jT,.c 110 [.F 72 [3,4]],.c 22 [.l 3],.c 22 [.R 5],.r 3 true,GK,.r 3 true],λ d=>Ia F d.1.1 d.1.2.1 d.2.1.1 d.2.1.2.1 d.2.1.2.2.1 d.2.1.2.2.2.1 d.2.1.2.2.2.2.1 d.2.1.2.2.2.2.2.1 d.2.1.2.2.2.2.2.2.1 d.2.2.1.1 d.2.2.1.2.1 d.2.2.1.2.2.1 d.2.2.1.2.2.2.1 d.2.2.1.2.2.2.2.1 d.2.2.2.2.1.1 d.2.2.2.2.2.2.1 d.2.2.2.2.2.2.2.1.2.1 d.2.2.2.2.2.2.2.1.2.2.1 d.2.2.2.2.2.2.2.1.2.2.2.1 d.2.2.2.2.2.2.2.1.2.2.2.2.1 d.2.2.2.2.2.2.2.1.2.2.2.2.2.1 d.2.2.2.2.2.2.2.1.2.2.2.2.2.2.1 d.2.2.2.2.2.2.2.2.1⟩ λ da db=>by kernel_rfl
def Ci(F:Nat):Nat->(Int)->(List Int)->(Int)->(Int)->(List Int)->(Int)->(Int)->(Int)->(Int)->(List Int)->(Int)->(List ak)->(List Int)->(List (List I.Field))->(List (List (List UInt8)))->(List (List I.Target))->(List Int)->(List Int)->(Int)->(Int)->(Int)->(Int)->(List Int)->(Int)->(List Int)->Option ((Int×List Int×Unit×Unit×Unit×Unit×Unit×Int×Unit)×
 j5×
  Bs×(List Int×Unit)×j5×(Unit×Unit)×List Int×Unit)
 |0,_,_,_,_,_,_,_,_,_,_,_,_,_,_,_,_,_,_,_,_,_,_,_,_,_=>none
 |aO+1,d,e,a,b,c,f,g,h,i,j,k,l,gn,m,n,o,gp,kT,p,mn,q,r,s,t,u=>
  cond (decide (b<(↑gp.length:Int))) ((bD 8 u [a]).bind λ v=>
(idx gp b).bind λ w=>
(idx c (ar (w+1))).bind λ x=>
Ci F aO d e (ar (a+ar (3+x))) (ar (b+1)) c f g h i j k l gn m n o gp kT p mn q r s t v) (
some ((d,e,(),(),(),(),(),a,()),(c,f,g,h,i,j,k,()),(l,gn,m,n,o,()),(gp,()),(kT,p,mn,q,r,s,t,()),((),()),u,()))
noncomputable def aqf(F:Nat):aN aB:=(aqe F).fB 45 0 F ⟨[3,4,5,6,7,10,12,13,14],[.p (.i .i64),.p (.l 3),.p (.B 0),.p (.B 1),.p (.B 2),.p (.B 3),.p (.B 4),.p (.i .i64),.p (.i .i64)],[eF,jT,.c 22 [.l 3],eF,.c 22 [.R 5],.r 3 false],[⟨.nm,[3,4,5,6,7,10,12,13],[.p (.i .i64),.p (.l 3),.p (.B 0),.p (.B 1),.p (.B 2),.p (.B 3),.p (.B 4),.p (.i .i64)],[eF,jT,.c 22 [.l 3],eF,.c 22 [.R 5],.r 3 false]⟩],λ k d=>Ci F k d.1.1 d.1.2.1 d.1.2.2.2.2.2.2.2.1 d.1.2.2.2.2.2.2.2.2.1 d.2.1.1 d.2.1.2.1 d.2.1.2.2.1 d.2.1.2.2.2.1 d.2.1.2.2.2.2.1 d.2.1.2.2.2.2.2.1 d.2.1.2.2.2.2.2.2.1 d.2.2.1.1 d.2.2.1.2.1 d.2.2.1.2.2.1 d.2.2.1.2.2.2.1 d.2.2.1.2.2.2.2.1 d.2.2.2.1.1 d.2.2.2.2.1.1 d.2.2.2.2.1.2.1 d.2.2.2.2.1.2.2.1 d.2.2.2.2.1.2.2.2.1 d.2.2.2.2.1.2.2.2.2.1 d.2.2.2.2.1.2.2.2.2.2.1 d.2.2.2.2.1.2.2.2.2.2.2.1 d.2.2.2.2.2.2.1⟩ ⟨λ d=>by kernel_rfl,λ k da db=>by kernel_rfl⟩
def Fc(F:Nat):Nat->(Int)->(List Int)->(Int)->(List Int)->(Int)->(Int)->(Int)->(Int)->(List Int)->(Int)->(List Int)->(List Int)->(Int)->(Int)->(Int)->(Int)->(List Int)->(Int)->(List Int)->(Int)->(Int)->(Int)->(Int)->(List Int)->(Int)->(List Int)->(List ak)->(List Int)->(List (List I.Field))->(List (List (List UInt8)))->(List (List I.Target))->Option ((List Int×Unit×Unit×Unit×Unit×Unit×(Unit×Unit×Unit×Unit×Unit)×Unit)×
 j5×
  (List Int×Unit)×
   j5×
    (Unit×Unit)×List Int×(Unit×Unit)×abM×List Int×Bs×Unit)
 |0,_,_,_,_,_,_,_,_,_,_,_,_,_,_,_,_,_,_,_,_,_,_,_,_,_,_,_,_,_,_,_=>none
 |aO+1,c,d,b,e,f,g,h,i,j,k,l,m,n,o,Ev,p,q,r,s,t,u,v,w,x,y,z,A,B,C,D,E=>
  cond (decide (b<c)) ((Ia F b b e f g h i j k A B C D E l s t u v w x y z).bind λ a=>
(idx a.2.1.1 (ar (b+1))).bind λ G=>
Fc F aO c d (ar (b+ar (3+G))) a.2.1.1 a.2.1.2.1 a.2.1.2.2.1 a.2.1.2.2.2.1 a.2.1.2.2.2.2.1 a.2.1.2.2.2.2.2.1 a.2.1.2.2.2.2.2.2.1 a.2.2.2.2.1.1 m n o Ev p q r a.2.2.2.2.2.2.1 a.2.2.2.2.2.2.2.1.2.1 a.2.2.2.2.2.2.2.1.2.2.1 a.2.2.2.2.2.2.2.1.2.2.2.1 a.2.2.2.2.2.2.2.1.2.2.2.2.1 a.2.2.2.2.2.2.2.1.2.2.2.2.2.1 a.2.2.2.2.2.2.2.1.2.2.2.2.2.2.1 a.2.2.2.2.2.2.2.2.1 a.2.2.1.1 a.2.2.1.2.1 a.2.2.1.2.2.1 a.2.2.1.2.2.2.1 a.2.2.1.2.2.2.2.1) (
some ((d,(),(),(),(),(),((),(),(),(),()),()),(e,f,g,h,i,j,k,()),(l,()),(m,n,o,Ev,p,q,r,()),((),()),s,((),()),((),t,u,v,w,x,y,()),z,(A,B,C,D,E,()),()))
noncomputable def aqg(F:Nat):aN aB:=(aqf F).fB 45 2 F ⟨[3,4,5,7,10,12,15,16,17,18],[.p (.i .i64),.p (.l 3),.p (.B 0),.p (.B 1),.p (.B 2),.p (.B 3),.p (.B 5),.p (.B 6),.f 73 [.B 0,.B 8,.B 5,.B 6],.p (.i .i64)],[eF,.c 22 [.l 3],eF,.c 22 [.R 4],.r 3 true,.c 110 [.F 72 [1,3]],GK,.r 3 true,jT],[⟨.nm,[4,7,10,12,15,16,17],[.p (.l 3),.p (.B 1),.p (.B 2),.p (.B 3),.p (.B 5),.p (.B 6),.f 73 [.B 0,.B 8,.B 5,.B 6]],[eF,.c 22 [.l 3],eF,.c 22 [.R 4],.r 3 true,.c 110 [.F 72 [1,3]],GK,.r 3 true,jT]⟩],λ k d=>Fc F k d.1.1 d.1.2.1 d.1.2.2.2.2.2.2.2.2.2.1 d.2.1.1 d.2.1.2.1 d.2.1.2.2.1 d.2.1.2.2.2.1 d.2.1.2.2.2.2.1 d.2.1.2.2.2.2.2.1 d.2.1.2.2.2.2.2.2.1 d.2.2.1.1 d.2.2.2.1.1 d.2.2.2.1.2.1 d.2.2.2.1.2.2.1 d.2.2.2.1.2.2.2.1 d.2.2.2.1.2.2.2.2.1 d.2.2.2.1.2.2.2.2.2.1 d.2.2.2.1.2.2.2.2.2.2.1 d.2.2.2.2.2.1 d.2.2.2.2.2.2.2.1.2.1 d.2.2.2.2.2.2.2.1.2.2.1 d.2.2.2.2.2.2.2.1.2.2.2.1 d.2.2.2.2.2.2.2.1.2.2.2.2.1 d.2.2.2.2.2.2.2.1.2.2.2.2.2.1 d.2.2.2.2.2.2.2.1.2.2.2.2.2.2.1 d.2.2.2.2.2.2.2.2.1 d.2.2.2.2.2.2.2.2.2.1.1 d.2.2.2.2.2.2.2.2.2.1.2.1 d.2.2.2.2.2.2.2.2.2.1.2.2.1 d.2.2.2.2.2.2.2.2.2.1.2.2.2.1 d.2.2.2.2.2.2.2.2.2.1.2.2.2.2.1⟩ ⟨λ d=>by kernel_rfl,λ k da db=>by kernel_rfl⟩
def Cj(F:Nat):Nat->(List Int)->(Int)->(List Int)->(List Int)->(Int)->(Int)->(Int)->(Int)->(List Int)->(Int)->(List Int)->(Int)->(Int)->(Int)->(Int)->(List Int)->(Int)->(List Int)->(List Int)->(Int)->(Int)->(Int)->(Int)->(List Int)->(Int)->(List ak)->(List Int)->(List (List I.Field))->(List (List (List UInt8)))->(List (List I.Target))->Option ((List Int×Unit×Unit×Unit×Unit)×
 (List Int×Unit)×
  j5×
   (Unit×Unit)×
    List Int×
     (Unit×Unit)×
      abM×
       List Int×j5×Bs×Unit)
 |0,_,_,_,_,_,_,_,_,_,_,_,_,_,_,_,_,_,_,_,_,_,_,_,_,_,_,_,_,_,_=>none
 |aO+1,w,r,s,x,y,z,A,B,C,D,t,E,G,H,b,c,d,e,f,g,h,i,j,k,l,m,n,o,p,q=>
  cond (decide (r<(↑s.length:Int))) ((idx s r).bind λ u=>
(idx t r).bind λ v=>
(Ia F u v f g h i j k l m n o p q s t E G H b c d e).bind λ a=>
Cj F aO w (ar (r+1)) a.2.2.2.2.1.1 x y z A B C D a.2.2.2.2.2.2.1 a.2.2.2.2.2.2.2.1.2.1 a.2.2.2.2.2.2.2.1.2.2.1 a.2.2.2.2.2.2.2.1.2.2.2.1 a.2.2.2.2.2.2.2.1.2.2.2.2.1 a.2.2.2.2.2.2.2.1.2.2.2.2.2.1 a.2.2.2.2.2.2.2.1.2.2.2.2.2.2.1 a.2.2.2.2.2.2.2.2.1 a.2.1.1 a.2.1.2.1 a.2.1.2.2.1 a.2.1.2.2.2.1 a.2.1.2.2.2.2.1 a.2.1.2.2.2.2.2.1 a.2.1.2.2.2.2.2.2.1 a.2.2.1.1 a.2.2.1.2.1 a.2.2.1.2.2.1 a.2.2.1.2.2.2.1 a.2.2.1.2.2.2.2.1) (
some ((w,(),(),(),()),(s,()),(x,y,z,A,B,C,D,()),((),()),t,((),()),((),E,G,H,b,c,d,()),e,(f,g,h,i,j,k,l,()),(m,n,o,p,q,()),()))
noncomputable def aqh(F:Nat):aN aB:=(aqg F).fB 45 4 F ⟨[4,7,10,12,15,16,17,19],[.p (.l 3),.p (.B 0),.p (.B 1),.p (.B 2),.p (.B 4),.p (.B 5),.f 73 [.B 7,.B 8,.B 4,.B 5],.p (.i .i64)],[.c 22 [.l 3],eF,.c 22 [.R 3],.r 3 true,.c 110 [.F 72 [0,2]],Px,.r 3 true,eF,jT],[⟨.nm,[4,10,15,16],[.p (.l 3),.p (.B 1),.p (.B 4),.p (.B 5)],[.c 22 [.l 3],eF,.c 22 [.R 3],.r 3 true,.c 110 [.F 72 [0,2]],Px,.r 3 true,eF,jT]⟩],λ k d=>Cj F k d.1.1 d.1.2.2.2.2.2.2.2.1 d.2.1.1 d.2.2.1.1 d.2.2.1.2.1 d.2.2.1.2.2.1 d.2.2.1.2.2.2.1 d.2.2.1.2.2.2.2.1 d.2.2.1.2.2.2.2.2.1 d.2.2.1.2.2.2.2.2.2.1 d.2.2.2.2.1 d.2.2.2.2.2.2.1.2.1 d.2.2.2.2.2.2.1.2.2.1 d.2.2.2.2.2.2.1.2.2.2.1 d.2.2.2.2.2.2.1.2.2.2.2.1 d.2.2.2.2.2.2.1.2.2.2.2.2.1 d.2.2.2.2.2.2.1.2.2.2.2.2.2.1 d.2.2.2.2.2.2.2.1 d.2.2.2.2.2.2.2.2.1.1 d.2.2.2.2.2.2.2.2.1.2.1 d.2.2.2.2.2.2.2.2.1.2.2.1 d.2.2.2.2.2.2.2.2.1.2.2.2.1 d.2.2.2.2.2.2.2.2.1.2.2.2.2.1 d.2.2.2.2.2.2.2.2.1.2.2.2.2.2.1 d.2.2.2.2.2.2.2.2.1.2.2.2.2.2.2.1 d.2.2.2.2.2.2.2.2.2.1.1 d.2.2.2.2.2.2.2.2.2.1.2.1 d.2.2.2.2.2.2.2.2.2.1.2.2.1 d.2.2.2.2.2.2.2.2.2.1.2.2.2.1 d.2.2.2.2.2.2.2.2.2.1.2.2.2.2.1⟩ ⟨λ d=>by kernel_rfl,λ k da db=>by kernel_rfl⟩
def Ck(F:Nat):Nat->(List Int)->(Int)->(List Int)->(Int)->(Int)->(Int)->(Int)->(List Int)->(Int)->(List Int)->(List Int)->(Int)->(Int)->(Int)->(Int)->(List Int)->(Int)->(List Int)->(List Int)->Option ((Unit×Unit×Unit×Unit)×j5×(Unit×Unit)×(List Int×Unit)×(Unit×Unit)×List Int×abM×List Int×List Int×Unit)
 |0,_,_,_,_,_,_,_,_,_,_,_,_,_,_,_,_,_,_,_=>none
 |aO+1,a,b,d,e,f,g,h,i,j,k,l,m,n,o,p,q,r,s,t=>
  cond (decide (b<(↑a.length:Int))) ((idx a b).bind λ u=>
(H' F u k l).bind λ c=>
(bD 8 t [c.1.1]).bind λ v=>
Ck F aO a (ar (b+1)) d e f g h i j c.2.1.1 c.2.2.2.1 m n o p q r s v) (
some (((),(),(),()),(d,e,f,g,h,i,j,()),((),()),(k,()),((),()),l,((),m,n,o,p,q,r,()),s,t,()))
noncomputable def aqi(F:Nat):aN aB:=(aqh F).fB 45 6 F ⟨[4,10,15,16,20,21],[.p (.l 3),.p (.B 0),.p (.B 1),.p (.B 5),.p (.R 7),.p (.i .i64)],[eF,.c 110 [.F 72 [2,3]],.c 22 [.l 3],.c 22 [.R 4],.r 3 true,Px,.r 3 true,.r 3 false],[⟨.nm,[10,16,20],[.p (.B 0),.p (.B 5),.p (.R 7)],[eF,.c 110 [.F 72 [2,3]],.c 22 [.l 3],.c 22 [.R 4],.r 3 true,Px,.r 3 true,.r 3 false]⟩],λ k d=>Ck F k d.1.1 d.1.2.2.2.2.2.1 d.2.1.1 d.2.1.2.1 d.2.1.2.2.1 d.2.1.2.2.2.1 d.2.1.2.2.2.2.1 d.2.1.2.2.2.2.2.1 d.2.1.2.2.2.2.2.2.1 d.2.2.2.1.1 d.2.2.2.2.2.1 d.2.2.2.2.2.2.1.2.1 d.2.2.2.2.2.2.1.2.2.1 d.2.2.2.2.2.2.1.2.2.2.1 d.2.2.2.2.2.2.1.2.2.2.2.1 d.2.2.2.2.2.2.1.2.2.2.2.2.1 d.2.2.2.2.2.2.1.2.2.2.2.2.2.1 d.2.2.2.2.2.2.2.1 d.2.2.2.2.2.2.2.2.1⟩ ⟨λ d=>by kernel_rfl,λ k da db=>by kernel_rfl⟩
def Fb(F:Nat)(f:List Int)(g:Int)(h:Int)(i:Int)(j:Int)(k:List Int)(l:Int)(m:List ak)(n:List Int)(o:List (List I.Field))(p:List (List (List UInt8)))(q:List (List I.Target))(r:List Int)(e:Int)(s:List Int):Option ((j5×List Int×Unit)×Unit):=
 (Ci F F e s e 0 f g h i j k l m n o p q r [] 0 0 0 0 [] 0 []).bind λ a=>
(ui 0 8 (↑(h4 a.2.1.1):Int)).bind λ t=>
(Fc F F a.1.1 a.1.2.1 (ar (a.2.1.2.1+1)) a.2.1.1 a.2.1.2.1 a.2.1.2.2.1 a.2.1.2.2.2.1 a.2.1.2.2.2.2.1
 a.2.1.2.2.2.2.2.1 a.2.1.2.2.2.2.2.2.1 a.2.2.2.1.1 a.2.2.2.2.1.1 a.2.2.2.2.1.2.1 a.2.2.2.2.1.2.2.1
 a.2.2.2.2.1.2.2.2.1 a.2.2.2.2.1.2.2.2.2.1 a.2.2.2.2.1.2.2.2.2.2.1 a.2.2.2.2.1.2.2.2.2.2.2.1 a.2.2.2.2.2.2.1
 a.2.1.2.1 a.2.1.2.2.1 1 a.1.2.2.2.2.2.2.2.1 [] a.2.1.2.2.2.2.2.2.1 t a.2.2.1.1 a.2.2.1.2.1 a.2.2.1.2.2.1
 a.2.2.1.2.2.2.1 a.2.2.1.2.2.2.2.1).bind λ b=>
(Cj F F b.1.1 0 b.2.2.1.1 b.2.2.2.1.1 b.2.2.2.1.2.1 b.2.2.2.1.2.2.1 b.2.2.2.1.2.2.2.1 b.2.2.2.1.2.2.2.2.1
 b.2.2.2.1.2.2.2.2.2.1 b.2.2.2.1.2.2.2.2.2.2.1 b.2.2.2.2.2.1 b.2.2.2.2.2.2.2.1.2.1 b.2.2.2.2.2.2.2.1.2.2.1
 b.2.2.2.2.2.2.2.1.2.2.2.1 b.2.2.2.2.2.2.2.1.2.2.2.2.1 b.2.2.2.2.2.2.2.1.2.2.2.2.2.1 b.2.2.2.2.2.2.2.1.2.2.2.2.2.2.1
 b.2.2.2.2.2.2.2.2.1 b.2.1.1 b.2.1.2.1 b.2.1.2.2.1 b.2.1.2.2.2.1 b.2.1.2.2.2.2.1 b.2.1.2.2.2.2.2.1
 b.2.1.2.2.2.2.2.2.1 b.2.2.2.2.2.2.2.2.2.1.1 b.2.2.2.2.2.2.2.2.2.1.2.1 b.2.2.2.2.2.2.2.2.2.1.2.2.1
 b.2.2.2.2.2.2.2.2.2.1.2.2.2.1 b.2.2.2.2.2.2.2.2.2.1.2.2.2.2.1).bind λ c=>
(Ck F F c.1.1 0 c.2.2.1.1 c.2.2.1.2.1 c.2.2.1.2.2.1 c.2.2.1.2.2.2.1 c.2.2.1.2.2.2.2.1 c.2.2.1.2.2.2.2.2.1
 c.2.2.1.2.2.2.2.2.2.1 c.2.1.1 c.2.2.2.2.1 c.2.2.2.2.2.2.1.2.1 c.2.2.2.2.2.2.1.2.2.1 c.2.2.2.2.2.2.1.2.2.2.1
 c.2.2.2.2.2.2.1.2.2.2.2.1 c.2.2.2.2.2.2.1.2.2.2.2.2.1 c.2.2.2.2.2.2.1.2.2.2.2.2.2.1 c.2.2.2.2.2.2.2.1 []).bind λ d=>
some (((d.2.2.2.2.2.2.2.1,d.2.2.2.2.2.2.1.2.1,d.2.2.2.2.2.2.1.2.2.1,d.2.2.2.2.2.2.1.2.2.2.1,d.2.2.2.2.2.2.1.2.2.2.2.1,d.2.2.2.2.2.2.1.2.2.2.2.2.1,d.2.2.2.2.2.2.1.2.2.2.2.2.2.1,()),d.2.2.2.2.2.2.2.2.1,()),())
noncomputable def aqj(F:Nat):aN aB:=(aqi F).fn 45 ⟨[Kr,XR,.p (.l 3),.p (.i .i64),.p (.l 3)],[],[Kr,.p (.l 3)],[],λ d=>Fb F d.1.1.1 d.1.1.2.1 d.1.1.2.2.1 d.1.1.2.2.2.1 d.1.1.2.2.2.2.1 d.1.1.2.2.2.2.2.1 d.1.1.2.2.2.2.2.2.1 d.1.2.1.1 d.1.2.1.2.1 d.1.2.1.2.2.1 d.1.2.1.2.2.2.1 d.1.2.1.2.2.2.2.1 d.1.2.2.1 d.1.2.2.2.1 d.1.2.2.2.2.1⟩ λ da db=>by kernel_rfl
def H5(F:Nat)(g:Int)(a:List Int)(h:Int)(b:Int)(c:Int)(d:Int)(e:List Int)(f:Int)(i:List Int):Option (Unit×j5×(Unit×Unit)×List Int×Unit):=
 cond (decide (1<=g)&&decide (g<=h)) ((j9 F i g).bind λ j=>
cond (!j) ((bD 8 i [g]).bind λ k=>
some ((),(a,h,b,c,d,e,f,()),((),()),k,())) (
some ((),(a,h,b,c,d,e,f,()),((),()),i,()))) (
some ((),(a,h,b,c,d,e,f,()),((),()),i,()))
noncomputable def aqk(F:Nat):aN aB:=(aqj F).fn 41 ⟨[.p (.i .i64),.p (.B 0),.p (.B 1)],[eF,.c 22 [.R 2],.r 3 false],[],[eF,.c 22 [.R 2],.r 3 false],λ d=>H5 F d.1.1 d.2.1.1 d.2.1.2.1 d.2.1.2.2.1 d.2.1.2.2.2.1 d.2.1.2.2.2.2.1 d.2.1.2.2.2.2.2.1 d.2.1.2.2.2.2.2.2.1 d.2.2.2.1⟩ λ da db=>by kernel_rfl
def Sm(F:Nat):Nat->(List Int)->(Int)->(List Int)->(Int)->(Int)->(Int)->(Int)->(List Int)->(Int)->(List ak)->(List Int)->(List (List I.Field))->(List (List (List UInt8)))->(List (List I.Target))->(List Int)->(Int)->(Int)->(Int)->(Int)->(List Int)->(Int)->(List Int)->Option (anW×
 j5×
  Bs×j5×(Unit×Unit)×List Int×Unit)
 |0,_,_,_,_,_,_,_,_,_,_,_,_,_,_,_,_,_,_,_,_,_,_=>none
 |aO+1,w,b,c,d,e,f,g,h,i,j,k,l,m,n,o,p,q,r,s,t,u,v=>
  cond (decide (b<(↑w.length:Int))) ((idx w b).bind λ x=>
(H5 F x c d e f g h i v).bind λ a=>
Sm F aO w (ar (b+1)) a.2.1.1 a.2.1.2.1 a.2.1.2.2.1 a.2.1.2.2.2.1 a.2.1.2.2.2.2.1 a.2.1.2.2.2.2.2.1 a.2.1.2.2.2.2.2.2.1 j k l m n o p q r s t u a.2.2.2.1) (
some ((w,(),(),(),(),((),(),()),()),(c,d,e,f,g,h,i,()),(j,k,l,m,n,()),(o,p,q,r,s,t,u,()),((),()),v,()))
noncomputable def aql(F:Nat):aN aB:=(aqk F).fB 15 0 F ⟨[2,3,4,6,8,9,10],[.p (.l 3),.p (.B 0),.p (.B 1),.p (.B 2),.p (.B 3),.f 41 [.B 0,.B 3],.p (.i .i64)],[eF,jT,eF,.c 22 [.R 4],.r 3 false],[⟨.nm,[2,3,4,6,8,9],[.p (.l 3),.p (.B 0),.p (.B 1),.p (.B 2),.p (.B 3),.f 41 [.B 0,.B 3]],[eF,jT,eF,.c 22 [.R 4],.r 3 false]⟩],λ k d=>Sm F k d.1.1 d.1.2.2.2.2.2.2.1 d.2.1.1 d.2.1.2.1 d.2.1.2.2.1 d.2.1.2.2.2.1 d.2.1.2.2.2.2.1 d.2.1.2.2.2.2.2.1 d.2.1.2.2.2.2.2.2.1 d.2.2.1.1 d.2.2.1.2.1 d.2.2.1.2.2.1 d.2.2.1.2.2.2.1 d.2.2.1.2.2.2.2.1 d.2.2.2.1.1 d.2.2.2.1.2.1 d.2.2.2.1.2.2.1 d.2.2.2.1.2.2.2.1 d.2.2.2.1.2.2.2.2.1 d.2.2.2.1.2.2.2.2.2.1 d.2.2.2.1.2.2.2.2.2.2.1 d.2.2.2.2.2.1⟩ ⟨λ d=>by kernel_rfl,λ k da db=>by kernel_rfl⟩
def Sp(F:Nat):Nat->(List Int)->(Int)->(List Int)->(Int)->(List Int)->(Int)->(Int)->(Int)->(Int)->(List Int)->(Int)->(List ak)->(List Int)->(List (List I.Field))->(List (List (List UInt8)))->(List (List I.Target))->(List Int)->(Int)->(Int)->(Int)->(Int)->(List Int)->(Int)->(List Int)->Option (anV×
 j5×
  Bs×j5×(Unit×Unit)×List Int×Unit)
 |0,_,_,_,_,_,_,_,_,_,_,_,_,_,_,_,_,_,_,_,_,_,_,_,_=>none
 |aO+1,e,f,b,c,d,g,h,i,j,k,l,m,n,o,p,q,r,s,t,u,v,w,x,y=>
  cond (decide (c<(↑b.length:Int))) ((idx b c).bind λ z=>
(idx d z).bind λ A=>
(H5 F A d g h i j k l y).bind λ a=>
Sp F aO e f b (ar (c+1)) a.2.1.1 a.2.1.2.1 a.2.1.2.2.1 a.2.1.2.2.2.1 a.2.1.2.2.2.2.1 a.2.1.2.2.2.2.2.1 a.2.1.2.2.2.2.2.2.1 m n o p q r s t u v w x a.2.2.2.1) (
some ((e,(),(),(),(),((),(),()),f,()),(d,g,h,i,j,k,l,()),(m,n,o,p,q,()),(r,s,t,u,v,w,x,()),((),()),y,()))
noncomputable def aqn(F:Nat):aN aB:=(aql F).fB 15 4 F ⟨[2,3,4,6,8,9,11,12,13],[.p (.l 3),.p (.B 0),.p (.B 1),.p (.B 2),.p (.B 3),.f 41 [.B 0,.B 3],.p (.i .i64),.p (.l 3),.p (.i .i64)],[eF,jT,eF,.c 22 [.R 4],.r 3 false],[⟨.nm,[2,3,4,6,8,9,11],[.p (.l 3),.p (.B 0),.p (.B 1),.p (.B 2),.p (.B 3),.f 41 [.B 0,.B 3],.p (.i .i64)],[eF,jT,eF,.c 22 [.R 4],.r 3 false]⟩],λ k d=>Sp F k d.1.1 d.1.2.2.2.2.2.2.1 d.1.2.2.2.2.2.2.2.1 d.1.2.2.2.2.2.2.2.2.1 d.2.1.1 d.2.1.2.1 d.2.1.2.2.1 d.2.1.2.2.2.1 d.2.1.2.2.2.2.1 d.2.1.2.2.2.2.2.1 d.2.1.2.2.2.2.2.2.1 d.2.2.1.1 d.2.2.1.2.1 d.2.2.1.2.2.1 d.2.2.1.2.2.2.1 d.2.2.1.2.2.2.2.1 d.2.2.2.1.1 d.2.2.2.1.2.1 d.2.2.2.1.2.2.1 d.2.2.2.1.2.2.2.1 d.2.2.2.1.2.2.2.2.1 d.2.2.2.1.2.2.2.2.2.1 d.2.2.2.1.2.2.2.2.2.2.1 d.2.2.2.2.2.1⟩ ⟨λ d=>by kernel_rfl,λ k da db=>by kernel_rfl⟩
def Sn(F:Nat):Nat->(List Int)->(Int)->(List Int)->(Int)->(Int)->(Int)->(Int)->(List Int)->(Int)->(List ak)->(List Int)->(List (List I.Field))->(List (List (List UInt8)))->(List (List I.Target))->(List Int)->(Int)->(Int)->(Int)->(Int)->(List Int)->(Int)->(List Int)->Option (anW×
 j5×
  Bs×j5×(Unit×Unit)×List Int×Unit)
 |0,_,_,_,_,_,_,_,_,_,_,_,_,_,_,_,_,_,_,_,_,_,_=>none
 |aO+1,n,b,c,d,e,f,g,o,h,i,j,k,l,m,p,q,r,s,t,u,v,w=>
  cond (decide (b<(↑o.length:Int))) ((idx o b).bind λ x=>
(oQ F (aR.mk c d e f g o h) (aP.mk i j k l m) x).bind λ y=>
(Sp F F n b y 0 c d e f g o h i j k l m p q r s t u v w).bind λ a=>
Sn F aO a.1.1 (ar (a.1.2.2.2.2.2.2.1+1)) a.2.1.1 a.2.1.2.1 a.2.1.2.2.1 a.2.1.2.2.2.1 a.2.1.2.2.2.2.1 a.2.1.2.2.2.2.2.1 a.2.1.2.2.2.2.2.2.1 a.2.2.1.1 a.2.2.1.2.1 a.2.2.1.2.2.1 a.2.2.1.2.2.2.1 a.2.2.1.2.2.2.2.1 a.2.2.2.1.1 a.2.2.2.1.2.1 a.2.2.2.1.2.2.1 a.2.2.2.1.2.2.2.1 a.2.2.2.1.2.2.2.2.1 a.2.2.2.1.2.2.2.2.2.1 a.2.2.2.1.2.2.2.2.2.2.1 a.2.2.2.2.2.1) (
some ((n,(),(),(),(),((),(),()),()),(c,d,e,f,g,o,h,()),(i,j,k,l,m,()),(p,q,r,s,t,u,v,()),((),()),w,()))
noncomputable def aqo(F:Nat):aN aB:=(aqn F).fB 15 2 F ⟨[2,3,4,6,8,9,11],[.p (.l 3),.p (.B 0),.p (.B 1),.p (.B 2),.p (.B 3),.f 41 [.B 0,.B 3],.p (.i .i64)],[eF,jT,eF,.c 22 [.R 4],.r 3 false],[⟨.nm,[2,3,4,6,8,9],[.p (.l 3),.p (.B 0),.p (.B 1),.p (.B 2),.p (.B 3),.f 41 [.B 0,.B 3]],[eF,jT,eF,.c 22 [.R 4],.r 3 false]⟩],λ k d=>Sn F k d.1.1 d.1.2.2.2.2.2.2.1 d.2.1.1 d.2.1.2.1 d.2.1.2.2.1 d.2.1.2.2.2.1 d.2.1.2.2.2.2.1 d.2.1.2.2.2.2.2.1 d.2.1.2.2.2.2.2.2.1 d.2.2.1.1 d.2.2.1.2.1 d.2.2.1.2.2.1 d.2.2.1.2.2.2.1 d.2.2.1.2.2.2.2.1 d.2.2.2.1.1 d.2.2.2.1.2.1 d.2.2.2.1.2.2.1 d.2.2.2.1.2.2.2.1 d.2.2.2.1.2.2.2.2.1 d.2.2.2.1.2.2.2.2.2.1 d.2.2.2.1.2.2.2.2.2.2.1 d.2.2.2.2.2.1⟩ ⟨λ d=>by kernel_rfl,λ k da db=>by kernel_rfl⟩
def Sr(F:Nat):Nat->(List Int)->(Int)->(List Int)->(Int)->(List Int)->(Int)->(Int)->(Int)->(Int)->(List Int)->(Int)->(List ak)->(List Int)->(List (List I.Field))->(List (List (List UInt8)))->(List (List I.Target))->(List Int)->(Int)->(Int)->(Int)->(Int)->(List Int)->(Int)->(List Int)->Option (anV×
 j5×
  Bs×j5×(Unit×Unit)×List Int×Unit)
 |0,_,_,_,_,_,_,_,_,_,_,_,_,_,_,_,_,_,_,_,_,_,_,_,_=>none
 |aO+1,e,f,b,c,d,g,h,i,j,k,l,m,n,o,p,q,r,s,t,u,v,w,x,y=>
  cond (decide (c<(↑b.length:Int))) ((idx b c).bind λ z=>
(idx d z).bind λ A=>
(H5 F A d g h i j k l y).bind λ a=>
Sr F aO e f b (ar (c+1)) a.2.1.1 a.2.1.2.1 a.2.1.2.2.1 a.2.1.2.2.2.1 a.2.1.2.2.2.2.1 a.2.1.2.2.2.2.2.1 a.2.1.2.2.2.2.2.2.1 m n o p q r s t u v w x a.2.2.2.1) (
some ((e,(),(),(),(),((),(),()),f,()),(d,g,h,i,j,k,l,()),(m,n,o,p,q,()),(r,s,t,u,v,w,x,()),((),()),y,()))
noncomputable def aqp(F:Nat):aN aB:=(aqo F).fB 15 8 F ⟨[2,3,4,6,8,9,14,15,16],[.p (.l 3),.p (.B 0),.p (.B 1),.p (.B 2),.p (.B 3),.f 41 [.B 0,.B 3],.p (.i .i64),.p (.l 3),.p (.i .i64)],[eF,jT,eF,.c 22 [.R 4],.r 3 false],[⟨.nm,[2,3,4,6,8,9,14],[.p (.l 3),.p (.B 0),.p (.B 1),.p (.B 2),.p (.B 3),.f 41 [.B 0,.B 3],.p (.i .i64)],[eF,jT,eF,.c 22 [.R 4],.r 3 false]⟩],λ k d=>Sr F k d.1.1 d.1.2.2.2.2.2.2.1 d.1.2.2.2.2.2.2.2.1 d.1.2.2.2.2.2.2.2.2.1 d.2.1.1 d.2.1.2.1 d.2.1.2.2.1 d.2.1.2.2.2.1 d.2.1.2.2.2.2.1 d.2.1.2.2.2.2.2.1 d.2.1.2.2.2.2.2.2.1 d.2.2.1.1 d.2.2.1.2.1 d.2.2.1.2.2.1 d.2.2.1.2.2.2.1 d.2.2.1.2.2.2.2.1 d.2.2.2.1.1 d.2.2.2.1.2.1 d.2.2.2.1.2.2.1 d.2.2.2.1.2.2.2.1 d.2.2.2.1.2.2.2.2.1 d.2.2.2.1.2.2.2.2.2.1 d.2.2.2.1.2.2.2.2.2.2.1 d.2.2.2.2.2.1⟩ ⟨λ d=>by kernel_rfl,λ k da db=>by kernel_rfl⟩
def Sq(F:Nat):Nat->(List Int)->(Int)->(List Int)->(Int)->(Int)->(Int)->(Int)->(List Int)->(Int)->(List ak)->(List Int)->(List (List I.Field))->(List (List (List UInt8)))->(List (List I.Target))->(List Int)->(Int)->(Int)->(Int)->(Int)->(List Int)->(Int)->(List Int)->Option ((List Int×Unit×Unit×Unit×Unit×Unit)×
 j5×
  Bs×j5×(Unit×Unit)×List Int×Unit)
 |0,_,_,_,_,_,_,_,_,_,_,_,_,_,_,_,_,_,_,_,_,_,_=>none
 |aO+1,o,b,c,d,e,f,g,h,i,j,k,l,m,n,p,q,r,s,t,u,v,w=>
  cond (decide (b<(↑w.length:Int))) ((idx w b).bind λ x=>
(oQ F (aR.mk c d e f g h i) (aP.mk j k l m n) x).bind λ y=>
(Sr F F o b y 0 c d e f g h i j k l m n p q r s t u v w).bind λ a=>
Sq F aO a.1.1 (ar (a.1.2.2.2.2.2.2.1+1)) a.2.1.1 a.2.1.2.1 a.2.1.2.2.1 a.2.1.2.2.2.1 a.2.1.2.2.2.2.1 a.2.1.2.2.2.2.2.1 a.2.1.2.2.2.2.2.2.1 a.2.2.1.1 a.2.2.1.2.1 a.2.2.1.2.2.1 a.2.2.1.2.2.2.1 a.2.2.1.2.2.2.2.1 a.2.2.2.1.1 a.2.2.2.1.2.1 a.2.2.2.1.2.2.1 a.2.2.2.1.2.2.2.1 a.2.2.2.1.2.2.2.2.1 a.2.2.2.1.2.2.2.2.2.1 a.2.2.2.1.2.2.2.2.2.2.1 a.2.2.2.2.2.1) (
some ((o,(),(),(),(),()),(c,d,e,f,g,h,i,()),(j,k,l,m,n,()),(p,q,r,s,t,u,v,()),((),()),w,()))
noncomputable def aqq(F:Nat):aN aB:=(aqp F).fB 15 6 F ⟨[2,3,4,6,8,9,14],[.p (.l 3),.p (.B 0),.p (.B 1),.p (.B 2),.p (.B 3),.f 41 [.B 0,.B 3],.p (.i .i64)],[eF,jT,eF,.c 22 [.R 4],.r 3 false],[⟨.nm,[2,3,4,6,8],[.p (.l 3),.p (.B 0),.p (.B 1),.p (.B 2),.p (.B 3)],[eF,jT,eF,.c 22 [.R 4],.r 3 false]⟩],λ k d=>Sq F k d.1.1 d.1.2.2.2.2.2.2.1 d.2.1.1 d.2.1.2.1 d.2.1.2.2.1 d.2.1.2.2.2.1 d.2.1.2.2.2.2.1 d.2.1.2.2.2.2.2.1 d.2.1.2.2.2.2.2.2.1 d.2.2.1.1 d.2.2.1.2.1 d.2.2.1.2.2.1 d.2.2.1.2.2.2.1 d.2.2.1.2.2.2.2.1 d.2.2.2.1.1 d.2.2.2.1.2.1 d.2.2.2.1.2.2.1 d.2.2.2.1.2.2.2.1 d.2.2.2.1.2.2.2.2.1 d.2.2.2.1.2.2.2.2.2.1 d.2.2.2.1.2.2.2.2.2.2.1 d.2.2.2.2.2.1⟩ ⟨λ d=>by kernel_rfl,λ k da db=>by kernel_rfl⟩
def Sl(F:Nat)(d:List Int)(e:Int)(f:Int)(g:Int)(h:Int)(i:List Int)(j:Int)(k:List ak)(l:List Int)(m:List (List I.Field))(n:List (List (List UInt8)))(o:List (List I.Target))(p:List Int):Option ((j5×List Int×Unit)×Unit):=
 (Sm F F p 0 d e f g h i j k l m n o [] 0 0 0 0 [] 0 []).bind λ a=>
(Sn F F a.1.1 0 a.2.1.1 a.2.1.2.1 a.2.1.2.2.1 a.2.1.2.2.2.1 a.2.1.2.2.2.2.1 a.2.1.2.2.2.2.2.1
 a.2.1.2.2.2.2.2.2.1 a.2.2.1.1 a.2.2.1.2.1 a.2.2.1.2.2.1 a.2.2.1.2.2.2.1 a.2.2.1.2.2.2.2.1 a.2.2.2.1.1
 a.2.2.2.1.2.1 a.2.2.2.1.2.2.1 a.2.2.2.1.2.2.2.1 a.2.2.2.1.2.2.2.2.1 a.2.2.2.1.2.2.2.2.2.1
 a.2.2.2.1.2.2.2.2.2.2.1 a.2.2.2.2.2.1).bind λ b=>
(Sq F F b.1.1 0 b.2.1.1 b.2.1.2.1 b.2.1.2.2.1 b.2.1.2.2.2.1 b.2.1.2.2.2.2.1 b.2.1.2.2.2.2.2.1
 b.2.1.2.2.2.2.2.2.1 b.2.2.1.1 b.2.2.1.2.1 b.2.2.1.2.2.1 b.2.2.1.2.2.2.1 b.2.2.1.2.2.2.2.1 b.2.2.2.1.1
 b.2.2.2.1.2.1 b.2.2.2.1.2.2.1 b.2.2.2.1.2.2.2.1 b.2.2.2.1.2.2.2.2.1 b.2.2.2.1.2.2.2.2.2.1
 b.2.2.2.1.2.2.2.2.2.2.1 b.2.2.2.2.2.1).bind λ c=>
(Fb F c.2.1.1 c.2.1.2.1 c.2.1.2.2.1 c.2.1.2.2.2.1 c.2.1.2.2.2.2.1 c.2.1.2.2.2.2.2.1 c.2.1.2.2.2.2.2.2.1
 c.2.2.1.1 c.2.2.1.2.1 c.2.2.1.2.2.1 c.2.2.1.2.2.2.1 c.2.2.1.2.2.2.2.1 c.2.2.2.2.2.1 c.2.1.2.2.2.2.1 c.1.1).bind λ AV=>
some (((AV.1.1.1,AV.1.1.2.1,AV.1.1.2.2.1,AV.1.1.2.2.2.1,AV.1.1.2.2.2.2.1,AV.1.1.2.2.2.2.2.1,AV.1.1.2.2.2.2.2.2.1,()),AV.1.2.1,()),())
noncomputable def aqr(F:Nat):aN aB:=(aqq F).fn 15 ⟨[Kr,XR,.p (.l 3)],[],[Kr,.p (.l 3)],[],λ d=>Sl F d.1.1.1 d.1.1.2.1 d.1.1.2.2.1 d.1.1.2.2.2.1 d.1.1.2.2.2.2.1 d.1.1.2.2.2.2.2.1 d.1.1.2.2.2.2.2.2.1 d.1.2.1.1 d.1.2.1.2.1 d.1.2.1.2.2.1 d.1.2.1.2.2.2.1 d.1.2.1.2.2.2.2.1 d.1.2.2.1⟩ λ da db=>by kernel_rfl
def asb(F:Nat)(i:List Int)(e:Int)(f:Int)(g:Int)(h:Int)(j:List Int)(k:Int)(l:List ak)(m:List Int)(QN:List (List I.Field))(n:List (List (List UInt8)))(QP:List (List I.Target))(o:List Int):Option ((Bool×Unit)×Unit):=
 (abO F i e f g h j k l m QN n QP o).bind λ a=>
(s7 F (aR.mk i e f g h j k) (aP.mk l m QN n QP) o).bind λ d=>
cond (decide (d=0)) (cond (decide (ar (ar (ar (ar (ar (e+f)+1)-h)-g)+1)<0)) ((nE F (aR.mk a.1.1.1 a.1.1.2.1 a.1.1.2.2.1 a.1.1.2.2.2.1 a.1.1.2.2.2.2.1 a.1.1.2.2.2.2.2.1 a.1.1.2.2.2.2.2.2.1)
 a.1.2.2.1 8 (aR.mk [] 0 0 0 0 [] 0)).bind λ p=>
cond p ((k1 F a.1.2.1 []).bind λ q=>
some ((q,()),())) (
some ((false,()),()))) (
cond (decide (d=0)) ((Sl F i e f g h j k l m QN n QP o).bind λ b=>
(nE F (aR.mk a.1.1.1 a.1.1.2.1 a.1.1.2.2.1 a.1.1.2.2.2.1 a.1.1.2.2.2.2.1 a.1.1.2.2.2.2.2.1 a.1.1.2.2.2.2.2.2.1)
 a.1.2.2.1 d
 (aR.mk b.1.1.1 b.1.1.2.1 b.1.1.2.2.1 b.1.1.2.2.2.1 b.1.1.2.2.2.2.1 b.1.1.2.2.2.2.2.1 b.1.1.2.2.2.2.2.2.1)).bind λ r=>
cond r ((k1 F a.1.2.1 b.1.2.1).bind λ s=>
some ((s,()),())) (
some ((false,()),()))) (
(nE F (aR.mk a.1.1.1 a.1.1.2.1 a.1.1.2.2.1 a.1.1.2.2.2.1 a.1.1.2.2.2.2.1 a.1.1.2.2.2.2.2.1 a.1.1.2.2.2.2.2.2.1)
 a.1.2.2.1 d (aR.mk [] 0 0 0 0 [] 0)).bind λ t=>
cond t ((k1 F a.1.2.1 []).bind λ u=>
some ((u,()),())) (
some ((false,()),()))))) (
cond (decide (d=0)) ((Sl F i e f g h j k l m QN n QP o).bind λ c=>
(nE F (aR.mk a.1.1.1 a.1.1.2.1 a.1.1.2.2.1 a.1.1.2.2.2.1 a.1.1.2.2.2.2.1 a.1.1.2.2.2.2.2.1 a.1.1.2.2.2.2.2.2.1)
 a.1.2.2.1 d
 (aR.mk c.1.1.1 c.1.1.2.1 c.1.1.2.2.1 c.1.1.2.2.2.1 c.1.1.2.2.2.2.1 c.1.1.2.2.2.2.2.1 c.1.1.2.2.2.2.2.2.1)).bind λ v=>
cond v ((k1 F a.1.2.1 c.1.2.1).bind λ w=>
some ((w,()),())) (
some ((false,()),()))) (
(nE F (aR.mk a.1.1.1 a.1.1.2.1 a.1.1.2.2.1 a.1.1.2.2.2.1 a.1.1.2.2.2.2.1 a.1.1.2.2.2.2.2.1 a.1.1.2.2.2.2.2.2.1)
 a.1.2.2.1 d (aR.mk [] 0 0 0 0 [] 0)).bind λ x=>
cond x ((k1 F a.1.2.1 []).bind λ y=>
some ((y,()),())) (
some ((false,()),()))))
@[reducible] noncomputable def aMb(F:Nat):ed bk:=⟨[Kr,XR,.p (.l 3)],[],[.p (.b)],[],λ d=>asb F d.1.1.1 d.1.1.2.1 d.1.1.2.2.1 d.1.1.2.2.2.1 d.1.1.2.2.2.2.1 d.1.1.2.2.2.2.2.1 d.1.1.2.2.2.2.2.2.1 d.1.2.1.1 d.1.2.1.2.1 d.1.2.1.2.2.1 d.1.2.1.2.2.2.1 d.1.2.1.2.2.2.2.1 d.1.2.2.1⟩
end Go.Proofs.YteeliipnilghaaaGreat
namespace Go.Proofs.YteeliipnilghaaaGreat
open Go Go.RowKit aq I a8
set_option maxRecDepth 100000
@[reducible] def aMk:bF:=.c 24 [.l 3,.i .i64,.i .i64,.i .i64,.i .i64,.l 3,.i .i64]
@[reducible] def aDk:cD:=.a [.l 3,.i .i64,.i .i64,.i .i64,.i .i64,.l 3,.i .i64]
@[reducible] def aMl:bF:=.c 30 [.l 134,.l 3,.l 124,.l 120,.l 121]
@[reducible] def aDl:cD:=.a [.l 134,.l 3,.l 124,.l 120,.l 121]
abbrev abK:=(List ak×List Int×List (List I.Field)×List (List (List UInt8))×List (List I.Target)×Unit)
abbrev abL:=(List Int×Int×Int×Int×Int×List Int×Int×Unit)
def E1(F:Nat)(b:Int)(a:List Int):Option ((Int×Unit)×(Unit×Unit)×List Int×Unit):=
 cond (decide (b=0)) (some ((0,()),((),()),a,())) (
(BZ F a b).bind λ c=>
cond (decide (c.1.1<0)) ((bD 8 a [b]).bind λ d=>
some (((ar (ar ((↑d.length:Int)-1)+1)),()),((),()),d,())) (
some (((ar (c.1.1+1)),()),((),()),a,())))
def Sh(F:Nat):Nat->(List Int)->(Int)->(List Int)->(Int)->(Int)->(Int)->(Int)->(List Int)->(Int)->(List ak)->(List Int)->(List (List I.Field))->(List (List (List UInt8)))->(List (List I.Target))->(List Int)->(List Int)->Option ((Unit×Unit×Unit×Unit×(Unit×Unit)×Unit)×
 abL×abK×(Unit×Unit)×List Int×List Int×Unit)
 |0,_,_,_,_,_,_,_,_,_,_,_,_,_,_,_,_=>none
 |aO+1,a,b,c,d,e,LI,f,g,h,i,vn,j,k,l,m,n=>
  cond (decide (b<(↑a.length:Int))) ((idx a b).bind λ p=>
(E1 F p m).bind λ o=>
(bD 8 n [o.1.1]).bind λ q=>
Sh F aO a (ar (b+1)) c d e LI f g h i vn j k l o.2.2.1 q) (
some (((),(),(),(),((),()),()),(c,d,e,LI,f,g,h,()),(i,vn,j,k,l,()),((),()),m,n,()))
def Ml(F:Nat):Nat->(Int)->(Int)->(Int)->(List Int)->(Int)->(Int)->(Int)->(Int)->(List Int)->(Int)->(List ak)->(List Int)->(List (List I.Field))->(List (List (List UInt8)))->(List (List I.Target))->(List Int)->(List Int)->Option ((Unit×Unit×Unit×Unit×(Unit×Unit)×Int×Unit)×
 abL×abK×(Unit×Unit)×List Int×List Int×Unit)
 |0,_,_,_,_,_,_,_,_,_,_,_,_,_,_,_,_,_=>none
 |aO+1,g,b,c,a,h,i,j,k,l,m,gn,d,e,f,gp,kT,n=>
  (idx a (ar (b+1))).bind λ mn=>
cond (decide (c<mn)) ((idx a (ar (ar (b+3)+c))).bind λ o=>
(idx a b).bind λ q=>
(tl (aP.mk gn d e f gp) q c).bind λ r=>
cond r ((E1 F o kT).bind λ p=>
(bD 8 n [p.1.1]).bind λ s=>
Ml F aO g b (ar (c+1)) a h i j k l m gn d e f gp p.2.2.1 s) (
(bD 8 n [o]).bind λ t=>
Ml F aO g b (ar (c+1)) a h i j k l m gn d e f gp kT t)) (
some (((),(),(),(),((),()),g,()),(a,h,i,j,k,l,m,()),(gn,d,e,f,gp,()),((),()),kT,n,()))
def E2(F:Nat):Nat->(Int)->(List Int)->(Int)->(Int)->(Int)->(Int)->(List Int)->(Int)->(List ak)->(List Int)->(List (List I.Field))->(List (List (List UInt8)))->(List (List I.Target))->(List Int)->(List Int)->Option ((Unit×Unit)×abL×abK×(Unit×Unit)×List Int×List Int×Unit)
 |0,_,_,_,_,_,_,_,_,_,_,_,_,_,_,_=>none
 |aO+1,e,b,f,Ev,g,h,i,j,k,l,m,n,o,c,p=>
  cond (decide (e<(↑c.length:Int))) ((idx c e).bind λ d=>
(idx b d).bind λ q=>
(idx b (ar (d+1))).bind λ r=>
(idx b (ar (d+2))).bind λ s=>
(bD 8 p [q,r,s]).bind λ t=>
(Ml F F e d 0 b f Ev g h i j k l m n o c t).bind λ a=>
E2 F aO (ar (a.1.2.2.2.2.2.1+1)) a.2.1.1 a.2.1.2.1 a.2.1.2.2.1 a.2.1.2.2.2.1 a.2.1.2.2.2.2.1 a.2.1.2.2.2.2.2.1 a.2.1.2.2.2.2.2.2.1 a.2.2.1.1 a.2.2.1.2.1 a.2.2.1.2.2.1 a.2.2.1.2.2.2.1 a.2.2.1.2.2.2.2.1 a.2.2.2.2.1 a.2.2.2.2.2.1) (
some (((),()),(b,f,Ev,g,h,i,j,()),(k,l,m,n,o,()),((),()),c,p,()))
def E0(F:Nat)(b:List Int)(c:Int)(d:Int)(e:Int)(f:Int)(g:List Int)(h:Int)(i:List ak)(j:List Int)(k:List (List I.Field))(l:List (List (List UInt8)))(m:List (List I.Target))(n:List Int):Option ((List Int×Unit)×Unit):=
 (Sh F F n 0 b c d e f g h i j k l m [] []).bind λ a=>
(E2 F F 0 a.2.1.1 a.2.1.2.1 a.2.1.2.2.1 a.2.1.2.2.2.1 a.2.1.2.2.2.2.1 a.2.1.2.2.2.2.2.1 a.2.1.2.2.2.2.2.2.1 a.2.2.1.1
 a.2.2.1.2.1 a.2.2.1.2.2.1 a.2.2.1.2.2.2.1 a.2.2.1.2.2.2.2.1 a.2.2.2.2.1 a.2.2.2.2.2.1).bind λ o=>
some ((o.2.2.2.2.2.1,()),())
def Sg(F:Nat)(s:List Int)(t:Int)(u:Int)(v:Int)(w:Int)(nn:List Int)(x:Int)(a:List ak)(b:List Int)(c:List (List I.Field))(d:List (List (List UInt8)))(e:List (List I.Target))(r:List Int)(f:List Int)(g:Int)(h:Int)(i:Int)(j:Int)(k:List Int)(l:Int)(m:List Int):Option ((Bool×Unit)×Unit):=
 (pW F (aR.mk f g h i j k l) (aP.mk a b c d e)).bind λ n=>
cond (decide (n=0)) ((yK F (aR.mk f g h i j k l) (aP.mk a b c d e) m).bind λ o=>
cond (decide (o=0)&&decide ((↑r.length:Int)=(↑m.length:Int))) ((E0 F s t u v w nn x a b c d e r).bind λ p=>
(E0 F f g h i j k l a b c d e m).bind λ q=>
(k1 F p.1.1 q.1.1).bind λ y=>
some ((y,()),())) (
some ((false,()),()))) (
some ((false,()),()))
def asc(F:Nat)(c:List Int)(d:Int)(e:Int)(f:Int)(ms:Int)(g:List Int)(b:Int)(h:List ak)(i:List Int)(j:List (List I.Field))(k:List (List (List UInt8)))(l:List (List I.Target))(m:List Int):Option ((Bool×Unit)×Unit):=
 (abO F c d e f ms g b h i j k l m).bind λ a=>
cond (!decide (a.1.2.2.1=0)) (some (((decide ((↑(h4 a.1.2.1):Int)=0)),()),())) (
(Sg F c d e f ms g b h i j k l m a.1.1.1 a.1.1.2.1 a.1.1.2.2.1 a.1.1.2.2.2.1 a.1.1.2.2.2.2.1 a.1.1.2.2.2.2.2.1
 a.1.1.2.2.2.2.2.2.1 a.1.2.1).bind λ n=>
some (((n.1.1&&decide (a.1.1.2.2.2.1=1)&&decide ((↑(h4 a.1.1.2.2.2.2.2.1):Int)=0)&&decide (a.1.1.2.2.2.2.2.2.1=b)),()),()))
@[reducible] noncomputable def aMc(F:Nat):ed bk:=⟨[aDk,aDl,.p (.l 3)],[],[.p (.b)],[],λ d=>asc F d.1.1.1 d.1.1.2.1 d.1.1.2.2.1 d.1.1.2.2.2.1 d.1.1.2.2.2.2.1 d.1.1.2.2.2.2.2.1 d.1.1.2.2.2.2.2.2.1 d.1.2.1.1 d.1.2.1.2.1 d.1.2.1.2.2.1 d.1.2.1.2.2.2.1 d.1.2.1.2.2.2.2.1 d.1.2.2.1⟩
end Go.Proofs.YteeliipnilghaaaGreat
namespace Go.Proofs.YteeliipnilghaaaGreat
open Go Go.RowKit aq I a8
set_option maxRecDepth 100000
@[reducible] def GL:bF:=.c 24 [.l 3,.i .i64,.i .i64,.i .i64,.i .i64,.l 3,.i .i64]
@[reducible] def XS:cD:=.a [.l 3,.i .i64,.i .i64,.i .i64,.i .i64,.l 3,.i .i64]
@[reducible] def GM:bF:=.c 30 [.l 134,.l 3,.l 124,.l 120,.l 121]
@[reducible] def aiU:cD:=.a [.l 134,.l 3,.l 124,.l 120,.l 121]
noncomputable def aqs(F:Nat):aN aB:=(aqr F).fn 88 ⟨[.p (.i .i64),.p (.B 0)],[.c 22 [.R 1],.r 3 false],[.p (.i .i64)],[.c 22 [.R 1],.r 3 false],λ d=>E1 F d.1.1 d.2.2.1⟩ λ da db=>by kernel_rfl
noncomputable def aqt(F:Nat):aN aB:=(aqs F).fB 52 0 F ⟨[2,3,4,7,8,9,10],[.p (.l 3),.p (.B 0),.p (.B 1),.p (.B 2),.p (.R 4),.f 88 [.B 2],.p (.i .i64)],[GL,GM,.c 22 [.R 3],.r 3 false,.r 3 false],[⟨.nm,[3,4,7,8,9],[.p (.B 0),.p (.B 1),.p (.B 2),.p (.R 4),.f 88 [.B 2]],[GL,GM,.c 22 [.R 3],.r 3 false,.r 3 false]⟩],λ k d=>Sh F k d.1.1 d.1.2.2.2.2.2.2.1 d.2.1.1 d.2.1.2.1 d.2.1.2.2.1 d.2.1.2.2.2.1 d.2.1.2.2.2.2.1 d.2.1.2.2.2.2.2.1 d.2.1.2.2.2.2.2.2.1 d.2.2.1.1 d.2.2.1.2.1 d.2.2.1.2.2.1 d.2.2.1.2.2.2.1 d.2.2.1.2.2.2.2.1 d.2.2.2.2.1 d.2.2.2.2.2.1⟩ ⟨λ d=>by kernel_rfl,λ k da db=>by kernel_rfl⟩
noncomputable def aqu(F:Nat):aN aB:=(aqt F).fB 52 4 F ⟨[3,4,7,8,9,11,12,13],[.p (.B 0),.p (.B 1),.p (.B 2),.p (.R 4),.f 88 [.B 2],.p (.i .i64),.p (.i .i64),.p (.i .i64)],[GL,GM,.c 22 [.R 3],.r 3 false,.r 3 false],[⟨.nm,[3,4,7,8,9,11],[.p (.B 0),.p (.B 1),.p (.B 2),.p (.R 4),.f 88 [.B 2],.p (.i .i64)],[GL,GM,.c 22 [.R 3],.r 3 false,.r 3 false]⟩],λ k d=>Ml F k d.1.2.2.2.2.2.1 d.1.2.2.2.2.2.2.1 d.1.2.2.2.2.2.2.2.1 d.2.1.1 d.2.1.2.1 d.2.1.2.2.1 d.2.1.2.2.2.1 d.2.1.2.2.2.2.1 d.2.1.2.2.2.2.2.1 d.2.1.2.2.2.2.2.2.1 d.2.2.1.1 d.2.2.1.2.1 d.2.2.1.2.2.1 d.2.2.1.2.2.2.1 d.2.2.1.2.2.2.2.1 d.2.2.2.2.1 d.2.2.2.2.2.1⟩ ⟨λ d=>by kernel_rfl,λ k da db=>by kernel_rfl⟩
noncomputable def aqv(F:Nat):aN aB:=(aqu F).fB 52 2 F ⟨[3,4,7,8,9,11],[.p (.B 0),.p (.B 1),.p (.B 2),.p (.R 4),.f 88 [.B 2],.p (.i .i64)],[GL,GM,.c 22 [.R 3],.r 3 false,.r 3 false],[⟨.nm,[8],[.p (.R 4)],[GL,GM,.c 22 [.R 3],.r 3 false,.r 3 false]⟩],λ k d=>E2 F k d.1.2.2.2.2.2.1 d.2.1.1 d.2.1.2.1 d.2.1.2.2.1 d.2.1.2.2.2.1 d.2.1.2.2.2.2.1 d.2.1.2.2.2.2.2.1 d.2.1.2.2.2.2.2.2.1 d.2.2.1.1 d.2.2.1.2.1 d.2.2.1.2.2.1 d.2.2.1.2.2.2.1 d.2.2.1.2.2.2.2.1 d.2.2.2.2.1 d.2.2.2.2.2.1⟩ ⟨λ d=>by kernel_rfl,λ k da db=>by kernel_rfl⟩
noncomputable def aqw(F:Nat):aN aB:=(aqv F).fn 52 ⟨[XS,aiU,.p (.l 3)],[],[.p (.l 3)],[],λ d=>E0 F d.1.1.1 d.1.1.2.1 d.1.1.2.2.1 d.1.1.2.2.2.1 d.1.1.2.2.2.2.1 d.1.1.2.2.2.2.2.1 d.1.1.2.2.2.2.2.2.1 d.1.2.1.1 d.1.2.1.2.1 d.1.2.1.2.2.1 d.1.2.1.2.2.2.1 d.1.2.1.2.2.2.2.1 d.1.2.2.1⟩ λ da db=>by kernel_rfl
noncomputable def aqy(F:Nat):aN aB:=(aqw F).fn 21 ⟨[XS,aiU,.p (.l 3),XS,.p (.l 3)],[],[.p (.b)],[],λ d=>Sg F d.1.1.1 d.1.1.2.1 d.1.1.2.2.1 d.1.1.2.2.2.1 d.1.1.2.2.2.2.1 d.1.1.2.2.2.2.2.1 d.1.1.2.2.2.2.2.2.1 d.1.2.1.1 d.1.2.1.2.1 d.1.2.1.2.2.1 d.1.2.1.2.2.2.1 d.1.2.1.2.2.2.2.1 d.1.2.2.1 d.1.2.2.2.1.1 d.1.2.2.2.1.2.1 d.1.2.2.2.1.2.2.1 d.1.2.2.2.1.2.2.2.1 d.1.2.2.2.1.2.2.2.2.1 d.1.2.2.2.1.2.2.2.2.2.1 d.1.2.2.2.1.2.2.2.2.2.2.1 d.1.2.2.2.2.1⟩ λ da db=>by kernel_rfl
end Go.Proofs.YteeliipnilghaaaGreat
