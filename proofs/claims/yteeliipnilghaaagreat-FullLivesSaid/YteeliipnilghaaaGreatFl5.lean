/- Part 5 of the proof that is ended in the last text: small logic, what the functions compute, walks, plain laws. -/
import Derived.Test.YteeliipnilghaaaGreatFl4
namespace Go.Proofs.YteeliipnilghaaaGreat
open Go Go.RowKit au J bn
set_option maxRecDepth 100000
@[reducible] def Dy {α:Type} (x:List UInt8 × List UInt8 × List J.Field × List J.Method × α):J.ap:=⟨x.1,x.2.1,x.2.2.1,x.2.2.2.1⟩
@[reducible] def dN {α:Type} (x:List Int × Int × Int × Int × Int × List Int × Int × α):J.aY:=⟨x.1,x.2.1,x.2.2.1,x.2.2.2.1,x.2.2.2.2.1,x.2.2.2.2.2.1,x.2.2.2.2.2.2.1⟩
@[reducible] def Hy {α:Type} (x:Int × List UInt8 × α):J.Kind:=⟨x.1,x.2.1⟩
@[reducible] def e2 {α:Type} (x:List J.ap × List Int × List (List J.Field) × List (List (List UInt8)) × List (List J.Target) × α):J.aU:=⟨x.1,x.2.1,x.2.2.1,x.2.2.2.1,x.2.2.2.2.1⟩
@[reducible] def r9 {α:Type} (x:List UInt8 × Bool × List J.Kind × Int × List UInt8 × Int × Int × List UInt8 × List J.Handler × α):J.Method:=⟨x.1,x.2.1,x.2.2.1,⟨x.2.2.2.1,x.2.2.2.2.1⟩,x.2.2.2.2.2.1,x.2.2.2.2.2.2.1,x.2.2.2.2.2.2.2.1,x.2.2.2.2.2.2.2.2.1⟩
@[reducible] def gA {α:Type} (x:List J.ap × List Int × List (List J.Field) × List (List (List UInt8)) × List (List J.Target) × α):J.b':=⟨⟨x.1,x.2.1,x.2.2.1,x.2.2.2.1,x.2.2.2.2.1⟩⟩
@[reducible] def fo:bI:=.c 72 [.l 3,.i .i64,.i .i64,.i .i64,.i .i64,.l 3,.i .i64,.l 134,.l 3,.l 124,.l 120,.l 121,.l 3,.l 3,.M 1]
@[reducible] def hG:bI:=.c 72 [.l 3,.i .i64,.i .i64,.i .i64,.i .i64,.l 3,.i .i64,.l 134,.l 3,.l 124,.l 120,.l 121,.l 3,.l 3,.M 2]
@[reducible] def k7:bI:=.c 131 [.s,.b,.l 128,.i .i64,.s,.i .i64,.i .i64,.s,.l 157]
@[reducible] def aed:bI:=.c 24 [.R 1,.i .i64,.i .i64,.i .i64,.i .i64,.l 3,.i .i64]
@[reducible] def h7:bI:=.c 24 [.l 3,.i .i64,.i .i64,.i .i64,.i .i64,.l 3,.i .i64]
@[reducible] def LH:cO:=.a [.s,.b,.l 128,.i .i64,.s,.i .i64,.i .i64,.s,.l 157]
@[reducible] def iv:cO:=.a [.l 3,.i .i64,.i .i64,.i .i64,.i .i64,.l 3,.i .i64]
@[reducible] def dL:bI:=.c 30 [.l 134,.l 3,.l 124,.l 120,.l 121]
@[reducible] def gY:cO:=.a [.l 134,.l 3,.l 124,.l 120,.l 121]
@[reducible] def aee:bI:=.c 30 [.l 134,.l 3,.R 4,.R 5,.R 6]
@[reducible] def aea:bI:=.c 30 [.l 134,.R 2,.R 3,.R 4,.R 5]
@[reducible] def hH:bI:=.c 134 [.s,.s,.l 136,.l 131]
@[reducible] def aeb:bI:=.c 134 [.s,.s,.R 2,.R 3]
@[reducible] def jW:bI:=.c 117 [.l 134,.M 1,.R 2]
@[reducible] def en:bI:=.c 117 [.l 134,.M 1,.l 3]
@[reducible] def aec:bI:=.c 117 [.l 134,.M 2,.l 3]
noncomputable def anM (F:Nat):aR aH:=⟨IK F,fun _=>aos F,rfl⟩
noncomputable def Qy (k:Nat) (oD:List UInt8) (wT:Int) (al:Int):=c9 ((oD.length:Int)=al/\True) (a' (zS oD k wT))
theorem Ui (k:Nat) (oD:List UInt8) (wT:Int):a' (zS oD k wT)=Qy k oD wT (oD.length:Int):=(dy ⟨rfl,trivial⟩).symm
noncomputable def ajY (F:Nat):aR aH:=(anM F).bX 140 0 F ⟨[0,6,7,8],[.p (.s),.p (.l 5),.p (.i .i64),.p (.i .i64)],[],
 [⟨⟨.nm,[0],[.p (.s)],[]⟩,Unit,fun d r=>((d.1.1,()),())⟩,
  ⟨⟨.rt,[2],[.p (.b)],[]⟩,Bool,fun d r=>((r,()),())⟩],
 fun k d=>Qy k d.1.2.1 d.1.2.2.2.1 d.1.2.2.1⟩ (bJ.bU (fun d=>dx) fun k ay az q h=>by
 obtain ⟨(a1:List UInt8),(v1:List UInt8),(v2:Int),(bu:Int),_⟩:=ay
 obtain ⟨ax,_⟩:=dW h
 dsimp only at ax
 obtain ⟨rfl,_⟩:=ax
 conv=>rhs;change Option.map (α:=Unit ⊕ Bool) _ (Qy (k+ 1) v1 bu (v1.length:Int));rw [<-Ui (k+ 1) v1 bu];simp only [zS,a6,Ui];simp only [bR]
 kernel_rfl)
noncomputable def XZ (F:Nat):aR aH:=(ajY F).rt 140 ⟨[.p (.s)],[],[.p (.b)],[],Bool,fun d=>mH F d.1.1,fun d r=>((r,()),())⟩ fun ay az=>by
 obtain ⟨(a1:List UInt8),_⟩:=ay
 conv=>rhs;simp only [mH,a6,Ui]
 kernel_rfl
noncomputable def amx (F:Nat):aR aH:=(XZ F).rt 162 ⟨[.p (.i .i64)],[],[.p (.b)],[],Bool,fun d=>KG d.1.1,fun d r=>((r,()),())⟩ fun ay az=>by
 conv=>rhs;simp only [KG,a6]
 kernel_rfl
noncomputable def amI (F:Nat):aR aH:=(amx F).rt 141 ⟨[.a [.i .i64,.s]],[],[.p (.b)],[],Bool,fun d=>tE F (Hy d.1.1),fun d r=>((r,()),())⟩ fun ay az=>by
 conv=>rhs;simp only [tE,a6]
 kernel_rfl
noncomputable def amT (F:Nat):aR aH:=(amI F).rt 163 ⟨[.p (.i .i64),.p (.i .i64),.p (.i .i64)],[],[.p (.b)],[],Bool,fun d=>lJ d.1.1 d.1.2.1 d.1.2.2.1,fun d r=>((r,()),())⟩ fun ay az=>by
 conv=>rhs;simp only [lJ,a6]
 kernel_rfl
noncomputable def Qz (F:Nat) (k:Nat) (m_:J.Method) (w1:Int) (ak:Int) (dw:List J.Kind):=c9 ((m_.cw.length:Int)=ak/\(m_.cw:List J.Kind)=dw/\True) (a' (wo F m_ k w1))
theorem Uj (F:Nat) (k:Nat) (m_:J.Method) (w1:Int):a' (wo F m_ k w1)=Qz F k m_ w1 (m_.cw.length:Int) m_.cw:=(dy ⟨rfl,rfl,trivial⟩).symm
noncomputable def am4 (F:Nat):aR aH:=(amT F).bX 142 1 F ⟨[1,41,42,43],[.p (.B 0),.p (.l 128),.p (.i .i64),.p (.i .i64)],[k7],
 [⟨⟨.nm,[1],[.p (.B 0)],[k7]⟩,Unit,fun d r=>(((),()),(d.2.1,()))⟩,
  ⟨⟨.rt,[2],[.p (.i .i64)],[.d]⟩,Int,fun d r=>((r,()),((),()))⟩],
 fun k d=>Qz F k (⟨d.2.1.1,d.2.1.2.1,d.1.2.1,(Hy d.2.1.2.2.2),d.2.1.2.2.2.2.2.1,d.2.1.2.2.2.2.2.2.1,d.2.1.2.2.2.2.2.2.2.1,d.2.1.2.2.2.2.2.2.2.2.1⟩:J.Method) d.1.2.2.2.1 d.1.2.2.1 d.2.1.2.2.1⟩ (bJ.bU (fun d=>dx) fun k ay az q h=>by
 obtain ⟨_,(a1:List J.Kind),(v1:Int),(v2:Int),_⟩:=ay
 obtain ⟨⟨(bu:List UInt8),(v4:Bool),(bZ:List J.Kind),(v6:Int),(cq:List UInt8),(cy:Int),(cH:Int),(v10:List UInt8),(v11:List J.Handler),_⟩,_⟩:=az
 obtain ⟨ax,_⟩:=dW h
 dsimp only at ax
 obtain ⟨rfl,rfl,_⟩:=ax
 conv=>rhs;change Option.map (α:=Unit ⊕ Int) _ (Qz F (k+ 1) (⟨bu,v4,a1,(⟨v6,cq⟩:J.Kind),cy,cH,v10,v11⟩:J.Method) v2 (a1.length:Int) (a1));rw [<-Uj F (k+ 1) (⟨bu,v4,a1,(⟨v6,cq⟩:J.Kind),cy,cH,v10,v11⟩:J.Method) v2];simp only [wo,a6,Uj];simp only [bR]
 kernel_rfl)
noncomputable def J8 (F:Nat) (k:Nat) (m_:J.Method) (k3:Int) (ak:Int):=c9 ((m_.cz.length:Int)=ak/\True) (a' (pT F m_ k k3))
theorem L0 (F:Nat) (k:Nat) (m_:J.Method) (k3:Int):a' (pT F m_ k k3)=J8 F k (⟨[],false,[],(⟨0,[]⟩:J.Kind),0,0,[],m_.cz⟩:J.Method) k3 (m_.cz.length:Int):=(show a' (pT F m_ k k3)=a' (pT F (⟨[],false,[],(⟨0,[]⟩:J.Kind),0,0,[],m_.cz⟩:J.Method) k k3) by kernel_rfl).trans (dy ⟨rfl,trivial⟩).symm
theorem ayT (F:Nat) (k:Nat) (m_:J.Method) (k3:Int):a' (zW F m_ k k3)=J8 F k (⟨[],false,[],(⟨0,[]⟩:J.Kind),0,0,[],m_.cz⟩:J.Method) k3 (m_.cz.length:Int):=(show a' (zW F m_ k k3)=a' (pT F m_ k k3) by kernel_rfl).trans (L0 F k m_ k3)
noncomputable def ane (F:Nat):aR aH:=(am4 F).bX 142 3 F ⟨[62,63,64],[.p (.l 157),.p (.i .i64),.p (.i .i64)],[],
 [⟨⟨.nm,[],[],[]⟩,Unit,fun d r=>((),())⟩,
  ⟨⟨.rt,[2],[.p (.i .i64)],[]⟩,Int,fun d r=>((r,()),())⟩],
 fun k d=>J8 F k (⟨[],false,[],(⟨0,[]⟩:J.Kind),0,0,[],d.1.1⟩:J.Method) d.1.2.2.1 d.1.2.1⟩ (bJ.bU (fun d=>dx) fun k ay az q h=>by
 obtain ⟨(a1:List J.Handler),(v1:Int),(v2:Int),_⟩:=ay
 obtain ⟨ax,_⟩:=dW h
 dsimp only at ax
 obtain ⟨rfl,_⟩:=ax
 conv=>rhs;change Option.map (α:=Unit ⊕ Int) _ (J8 F (k+ 1) (⟨[],false,[],(⟨0,[]⟩:J.Kind),0,0,[],a1⟩:J.Method) v2 (a1.length:Int));rw [<-L0 F (k+ 1) (⟨[],false,[],(⟨0,[]⟩:J.Kind),0,0,[],a1⟩:J.Method) v2];simp only [pT,a6,L0];simp only [bR]
 kernel_rfl)
noncomputable def anp (F:Nat):aR aH:=(ane F).rt 142 ⟨[LH],[],[.p (.i .i64)],[],Int,fun d=>zV F (r9 d.1.1),fun d r=>((r,()),())⟩ fun ay az=>by
 obtain ⟨⟨(a1:List UInt8),(v1:Bool),(v2:List J.Kind),(bu:Int),(v4:List UInt8),(bZ:Int),(v6:Int),(cq:List UInt8),(cy:List J.Handler),_⟩,_⟩:=ay
 conv=>rhs;simp only [zV,a6,Uj,L0,ayT]
 kernel_rfl
noncomputable def J6 (F:Nat) (k:Nat) (c_:J.ap) (mM:Int) (ak:Int) (dw:List J.Field):=c9 ((c_.Fields.length:Int)=ak/\(c_.Fields:List J.Field)=dw/\True) (a' (tD F c_ k mM))
theorem LY (F:Nat) (k:Nat) (c_:J.ap) (mM:Int):a' (tD F c_ k mM)=J6 F k c_ mM (c_.Fields.length:Int) c_.Fields:=(dy ⟨rfl,rfl,trivial⟩).symm
theorem ayR (F:Nat) (k:Nat) (c_:J.ap) (mM:Int):a' (zT F c_ k mM)=J6 F k c_ mM (c_.Fields.length:Int) c_.Fields:=(show a' (zT F c_ k mM)=a' (tD F c_ k mM) by kernel_rfl).trans (LY F k c_ mM)
noncomputable def anB (F:Nat):aR aH:=(anp F).bX 107 1 F ⟨[1,36,37,38],[.p (.B 0),.p (.l 136),.p (.i .i64),.p (.i .i64)],[hH],
 [⟨⟨.nm,[1],[.p (.B 0)],[hH]⟩,Unit,fun d r=>(((),()),(d.2.1,()))⟩,
  ⟨⟨.rt,[2],[.p (.i .i64)],[.d]⟩,Int,fun d r=>((r,()),((),()))⟩],
 fun k d=>J6 F k (⟨d.2.1.1,d.2.1.2.1,d.1.2.1,d.2.1.2.2.2.1⟩:J.ap) d.1.2.2.2.1 d.1.2.2.1 d.2.1.2.2.1⟩ (bJ.bU (fun d=>dx) fun k ay az q h=>by
 obtain ⟨_,(a1:List J.Field),(v1:Int),(v2:Int),_⟩:=ay
 obtain ⟨⟨(bu:List UInt8),(v4:List UInt8),(bZ:List J.Field),(v6:List J.Method),_⟩,_⟩:=az
 obtain ⟨ax,_⟩:=dW h
 dsimp only at ax
 obtain ⟨rfl,rfl,_⟩:=ax
 conv=>rhs;change Option.map (α:=Unit ⊕ Int) _ (J6 F (k+ 1) (⟨bu,v4,a1,v6⟩:J.ap) v2 (a1.length:Int) (a1));rw [<-LY F (k+ 1) (⟨bu,v4,a1,v6⟩:J.ap) v2];simp only [tD,a6,LY];simp only [bR]
 kernel_rfl)
noncomputable def J7 (F:Nat) (k:Nat) (c_:J.ap) (k4:Int) (ak:Int):=c9 ((c_.bc.length:Int)=ak/\True) (a' (pS F c_ k k4))
theorem LZ (F:Nat) (k:Nat) (c_:J.ap) (k4:Int):a' (pS F c_ k k4)=J7 F k (⟨[],[],[],c_.bc⟩:J.ap) k4 (c_.bc.length:Int):=(show a' (pS F c_ k k4)=a' (pS F (⟨[],[],[],c_.bc⟩:J.ap) k k4) by kernel_rfl).trans (dy ⟨rfl,trivial⟩).symm
theorem ayS (F:Nat) (k:Nat) (c_:J.ap) (k4:Int):a' (zU F c_ k k4)=J7 F k (⟨[],[],[],c_.bc⟩:J.ap) k4 (c_.bc.length:Int):=(show a' (zU F c_ k k4)=a' (pS F c_ k k4) by kernel_rfl).trans (LZ F k c_ k4)
noncomputable def ajZ (F:Nat):aR aH:=(anB F).bX 107 4 F ⟨[54,55,56],[.p (.l 131),.p (.i .i64),.p (.i .i64)],[],
 [⟨⟨.nm,[],[],[]⟩,Unit,fun d r=>((),())⟩,
  ⟨⟨.rt,[2],[.p (.i .i64)],[]⟩,Int,fun d r=>((r,()),())⟩],
 fun k d=>J7 F k (⟨[],[],[],d.1.1⟩:J.ap) d.1.2.2.1 d.1.2.1⟩ (bJ.bU (fun d=>dx) fun k ay az q h=>by
 obtain ⟨(a1:List J.Method),(v1:Int),(v2:Int),_⟩:=ay
 obtain ⟨ax,_⟩:=dW h
 dsimp only at ax
 obtain ⟨rfl,_⟩:=ax
 conv=>rhs;change Option.map (α:=Unit ⊕ Int) _ (J7 F (k+ 1) (⟨[],[],[],a1⟩:J.ap) v2 (a1.length:Int));rw [<-LZ F (k+ 1) (⟨[],[],[],a1⟩:J.ap) v2];simp only [pS,a6,LZ];simp only [bR]
 kernel_rfl)
noncomputable def aj_ (F:Nat):aR aH:=(ajZ F).rt 107 ⟨[.a [.s,.s,.l 136,.l 131]],[],[.p (.i .i64)],[],Int,fun d=>F5 F (Dy d.1.1),fun d r=>((r,()),())⟩ fun ay az=>by
 obtain ⟨⟨(a1:List UInt8),(v1:List UInt8),(v2:List J.Field),(bu:List J.Method),_⟩,_⟩:=ay
 conv=>rhs;simp only [F5,a6,LY,ayR,LZ,ayS]
 kernel_rfl
noncomputable def Qx (F:Nat) (k:Nat) (a_:List J.ap) (w4:Int) (ak:Int):=c9 ((a_.length:Int)=ak/\True) (a' (wm F a_ k w4))
theorem Uh (F:Nat) (k:Nat) (a_:List J.ap) (w4:Int):a' (wm F a_ k w4)=Qx F k a_ w4 (a_.length:Int):=(dy ⟨rfl,trivial⟩).symm
noncomputable def akj (F:Nat):aR aH:=(aj_ F).bX 74 0 F ⟨[9,10,11],[.p (.l 134),.p (.i .i64),.p (.i .i64)],[],
 [⟨⟨.nm,[],[],[]⟩,Unit,fun d r=>((),())⟩,
  ⟨⟨.rt,[2],[.p (.i .i64)],[]⟩,Int,fun d r=>((r,()),())⟩],
 fun k d=>Qx F k d.1.1 d.1.2.2.1 d.1.2.1⟩ (bJ.bU (fun d=>dx) fun k ay az q h=>by
 obtain ⟨(a1:List J.ap),(v1:Int),(v2:Int),_⟩:=ay
 obtain ⟨ax,_⟩:=dW h
 dsimp only at ax
 obtain ⟨rfl,_⟩:=ax
 conv=>rhs;change Option.map (α:=Unit ⊕ Int) _ (Qx F (k+ 1) a1 v2 (a1.length:Int));rw [<-Uh F (k+ 1) a1 v2];simp only [wm,a6,Uh];simp only [bR]
 kernel_rfl)
noncomputable def aku (F:Nat):aR aH:=(akj F).rt 74 ⟨[.p (.l 134)],[],[.p (.i .i64)],[],Int,fun d=>F4 F d.1.1,fun d r=>((r,()),())⟩ fun ay az=>by
 obtain ⟨(a1:List J.ap),_⟩:=ay
 conv=>rhs;simp only [F4,a6,Uh]
 kernel_rfl
noncomputable def akF (F:Nat):aR aH:=(aku F).bX 75 2 F ⟨[3,5,8,9,10,23,24,25],[.p (.R 0),.p (.B 1),.p (.l 134),.p (.i .i64),.p (.i .i64),.p (.R 3),.p (.i .i64),.p (.i .i64)],[.r 134 false,aeb,.r 136 true,.r 131 true],
 [⟨⟨.nm,[3,5,8,9,10],[.p (.R 0),.p (.B 1),.p (.l 134),.p (.i .i64),.p (.i .i64)],[.r 134 false,aeb,.r 136 true,.r 131 true]⟩,List J.Method,fun d r=>(((),(),d.1.2.2.1,d.1.2.2.2.1,d.1.2.2.2.2.1,()),(d.2.1,(d.2.2.1.1,d.2.2.1.2.1,(),(),()),d.2.2.2.1,r,()))⟩],
 fun k d=>rG k d.2.2.2.2.1 d.1.2.2.2.2.2.2.1 d.1.2.2.2.2.2.2.2.1⟩ (bJ.bU (fun d=>rfl) fun k ay az q h=>by
 obtain ⟨_,_,(a1:List J.ap),(v1:Int),(v2:Int),_,(bu:Int),(v4:Int),_⟩:=ay
 obtain ⟨(bZ:List J.ap),⟨(v6:List UInt8),(cq:List UInt8),_,_,_⟩,(cy:List J.Field),(cH:List J.Method),_⟩:=az
 conv=>rhs;simp only [rG,a6,VB,VC];simp only [bR]
 kernel_rfl)
noncomputable def QT (F:Nat) (k:Nat) (a_:List J.ap) (Ab:List J.ap) (w2:Int) (ak:Int):=c9 ((a_.length:Int)=ak/\True) (p4 F a_ k Ab w2)
theorem UD (F:Nat) (k:Nat) (a_:List J.ap) (Ab:List J.ap) (w2:Int):p4 F a_ k Ab w2=QT F k a_ Ab w2 (a_.length:Int):=(dy ⟨rfl,trivial⟩).symm
noncomputable def akQ (F:Nat):aR aH:=(akF F).bX 75 0 F ⟨[3,8,9,10],[.p (.R 0),.p (.l 134),.p (.i .i64),.p (.i .i64)],[.r 134 false],
 [⟨⟨.nm,[3],[.p (.R 0)],[.r 134 false]⟩,List J.ap,fun d r=>(((),()),(r,()))⟩],
 fun k d=>QT F k d.1.2.1 d.2.1 d.1.2.2.2.1 d.1.2.2.1⟩ (bJ.bU (fun d=>dx) fun k ay az q h=>by
 obtain ⟨_,(a1:List J.ap),(v1:Int),(v2:Int),_⟩:=ay
 obtain ⟨(bu:List J.ap),_⟩:=az
 obtain ⟨ax,_⟩:=dW h
 dsimp only at ax
 obtain ⟨rfl,_⟩:=ax
 conv=>rhs;change Option.map (α:=List J.ap) _ (QT F (k+ 1) a1 bu v2 (a1.length:Int));rw [<-UD F (k+ 1) a1 bu v2];simp only [p4,a6,UD,VA,VD];simp only [bR]
 kernel_rfl)
noncomputable def ak1 (F:Nat):aR aH:=(akQ F).rt 75 ⟨[.p (.l 134)],[],[.p (.l 134)],[],List J.ap,fun d=>Gi F d.1.1,fun d r=>((r,()),())⟩ fun ay az=>by
 obtain ⟨(a1:List J.ap),_⟩:=ay
 conv=>rhs;simp only [Gi,a6,UD]
 kernel_rfl
noncomputable def QJ (k:Nat) (aP:J.bj) (nF:List ((List UInt8) × Int)) (p9:Int) (ak:Int) (aV:List J.ap):=c9 ((aP.l.length:Int)=ak/\(aP.l:List J.ap)=aV/\True) (a' (nD aP k nF p9))
theorem Ut (k:Nat) (aP:J.bj) (nF:List ((List UInt8) × Int)) (p9:Int):a' (nD aP k nF p9)=QJ k (⟨aP.l,[],aP.dj⟩:J.bj) nF p9 (aP.l.length:Int) aP.l:=(show a' (nD aP k nF p9)=a' (nD (⟨aP.l,[],aP.dj⟩:J.bj) k nF p9) by kernel_rfl).trans (dy ⟨rfl,rfl,trivial⟩).symm
noncomputable def ala (F:Nat):aR aH:=(ak1 F).bX 76 0 F ⟨[0,14,15,16],[.p (.B 0),.p (.l 134),.p (.i .i64),.p (.i .i64)],[jW,.m 9 3,.r 3 true],
 [⟨⟨.nm,[0],[.p (.B 0)],[jW,.m 9 3,.r 3 true]⟩,List ((List UInt8) × Int),fun d r=>(((),()),((d.2.1.1,(),(),()),r,d.2.2.2.1,()))⟩,
  ⟨⟨.rt,[2],[.p (.i .i64)],[jW,.m 9 3,.r 3 true]⟩,Int × J.bj,fun d r=>((r.1,()),((d.2.1.1,(),(),()),r.2.b2,d.2.2.2.1,()))⟩],
 fun k d=>QJ k (⟨d.1.2.1,[],d.2.2.2.1⟩:J.bj) d.2.2.1 d.1.2.2.2.1 d.1.2.2.1 d.2.1.1⟩ (bJ.bU (fun d=>dx) fun k ay az q h=>by
 obtain ⟨_,(a1:List J.ap),(v1:Int),(v2:Int),_⟩:=ay
 obtain ⟨⟨(bu:List J.ap),_,_,_⟩,(v4:List ((List UInt8) × Int)),(bZ:List Int),_⟩:=az
 obtain ⟨ax,_⟩:=dW h
 dsimp only at ax
 obtain ⟨rfl,rfl,_⟩:=ax
 conv=>rhs;change Option.map (α:=(List ((List UInt8) × Int)) ⊕ (Int × J.bj)) _ (QJ (k+ 1) (⟨a1,[],bZ⟩:J.bj) v4 v2 (a1.length:Int) (a1));rw [<-Ut (k+ 1) (⟨a1,[],bZ⟩:J.bj) v4 v2];simp only [nD,a6,Ut];simp only [bR]
 kernel_rfl)
noncomputable def alm (F:Nat):aR aH:=(ala F).rt 76 ⟨[.p (.B 0)],[jW,.m 9 3,.r 3 true],[.p (.i .i64)],[jW,.m 9 3,.r 3 true],Int × J.bj,fun d=>CR F (⟨d.2.1.1,d.2.2.1,d.2.2.2.1⟩:J.bj),fun d r=>((r.1,()),((d.2.1.1,(),(),()),r.2.b2,d.2.2.2.1,()))⟩ fun ay az=>by
 obtain ⟨_,_⟩:=ay
 obtain ⟨⟨(a1:List J.ap),_,_,_⟩,(v1:List ((List UInt8) × Int)),(v2:List Int),_⟩:=az
 conv=>rhs;simp only [CR,a6,Ut]
 kernel_rfl
noncomputable def QB (k:Nat) (aP:J.bj) (w3:Int) (ak:Int) (aV:List J.ap):=c9 ((aP.l.length:Int)=ak/\(aP.l:List J.ap)=aV/\True) (a' (ua aP k w3))
theorem Ul (k:Nat) (aP:J.bj) (w3:Int):a' (ua aP k w3)=QB k aP w3 (aP.l.length:Int) aP.l:=(dy ⟨rfl,rfl,trivial⟩).symm
noncomputable def aly (F:Nat):aR aH:=(alm F).bX 77 0 F ⟨[0,14,15,16],[.p (.B 0),.p (.l 134),.p (.i .i64),.p (.i .i64)],[jW,.m 9 3,.r 3 true],
 [⟨⟨.nm,[0],[.p (.B 0)],[jW,.m 9 3,.r 3 true]⟩,Unit,fun d r=>(((),()),((d.2.1.1,(),(),()),d.2.2.1,d.2.2.2.1,()))⟩,
  ⟨⟨.rt,[2],[.p (.i .i64)],[jW,.m 9 3,.r 3 true]⟩,Int × J.bj,fun d r=>((r.1,()),((d.2.1.1,(),(),()),d.2.2.1,r.2.dj,()))⟩],
 fun k d=>QB k (⟨d.1.2.1,d.2.2.1,d.2.2.2.1⟩:J.bj) d.1.2.2.2.1 d.1.2.2.1 d.2.1.1⟩ (bJ.bU (fun d=>dx) fun k ay az q h=>by
 obtain ⟨_,(a1:List J.ap),(v1:Int),(v2:Int),_⟩:=ay
 obtain ⟨⟨(bu:List J.ap),_,_,_⟩,(v4:List ((List UInt8) × Int)),(bZ:List Int),_⟩:=az
 obtain ⟨ax,_⟩:=dW h
 dsimp only at ax
 obtain ⟨rfl,rfl,_⟩:=ax
 conv=>rhs;change Option.map (α:=Unit ⊕ (Int × J.bj)) _ (QB (k+ 1) (⟨a1,v4,bZ⟩:J.bj) v2 (a1.length:Int) (a1));rw [<-Ul (k+ 1) (⟨a1,v4,bZ⟩:J.bj) v2];simp only [ua,a6,Ul];simp only [bR]
 kernel_rfl)
noncomputable def QC (k:Nat) (aP:J.bj) (rA:List Int) (rO:Int) (ak:Int) (aV:List J.ap):=c9 ((aP.l.length:Int)=ak/\(aP.l:List J.ap)=aV/\True) (a' (lP aP k rA rO))
theorem Um (k:Nat) (aP:J.bj) (rA:List Int) (rO:Int):a' (lP aP k rA rO)=QC k (⟨aP.l,aP.b2,[]⟩:J.bj) rA rO (aP.l.length:Int) aP.l:=(show a' (lP aP k rA rO)=a' (lP (⟨aP.l,aP.b2,[]⟩:J.bj) k rA rO) by kernel_rfl).trans (dy ⟨rfl,rfl,trivial⟩).symm
noncomputable def alJ (F:Nat):aR aH:=(aly F).bX 77 2 F ⟨[0,31,32,33],[.p (.B 0),.p (.l 134),.p (.i .i64),.p (.i .i64)],[jW,.m 9 3,.r 3 false],
 [⟨⟨.nm,[0],[.p (.B 0)],[jW,.m 9 3,.r 3 false]⟩,List Int,fun d r=>(((),()),((d.2.1.1,(),(),()),d.2.2.1,r,()))⟩,
  ⟨⟨.rt,[2],[.p (.i .i64)],[jW,.m 9 3,.r 3 false]⟩,Int × J.bj,fun d r=>((r.1,()),((d.2.1.1,(),(),()),d.2.2.1,r.2.dj,()))⟩],
 fun k d=>QC k (⟨d.1.2.1,d.2.2.1,[]⟩:J.bj) d.2.2.2.1 d.1.2.2.2.1 d.1.2.2.1 d.2.1.1⟩ (bJ.bU (fun d=>dx) fun k ay az q h=>by
 obtain ⟨_,(a1:List J.ap),(v1:Int),(v2:Int),_⟩:=ay
 obtain ⟨⟨(bu:List J.ap),_,_,_⟩,(v4:List ((List UInt8) × Int)),(bZ:List Int),_⟩:=az
 obtain ⟨ax,_⟩:=dW h
 dsimp only at ax
 obtain ⟨rfl,rfl,_⟩:=ax
 conv=>rhs;change Option.map (α:=(List Int) ⊕ (Int × J.bj)) _ (QC (k+ 1) (⟨a1,v4,[]⟩:J.bj) bZ v2 (a1.length:Int) (a1));rw [<-Um (k+ 1) (⟨a1,v4,[]⟩:J.bj) bZ v2];simp only [lP,a6,Um];simp only [bR]
 kernel_rfl)
noncomputable def QE (k:Nat) (aP:J.bj) (gV:List Int) (uj:Int) (uk:Int) (ak:Int) (aV:Int):=c9 ((aP.l.length:Int)=ak/\(aP.l.length:Int)=aV/\True) (rE aP gV k uj uk)
theorem Uo (k:Nat) (aP:J.bj) (gV:List Int) (uj:Int) (uk:Int):rE aP gV k uj uk=QE k (⟨aP.l,aP.b2,[]⟩:J.bj) gV uj uk (aP.l.length:Int) (aP.l.length:Int):=(show rE aP gV k uj uk=rE (⟨aP.l,aP.b2,[]⟩:J.bj) gV k uj uk by kernel_rfl).trans (dy ⟨rfl,rfl,trivial⟩).symm
noncomputable def alT (F:Nat):aR aH:=(alJ F).bX 77 7 F ⟨[0,10,69,70,78,79],[.p (.B 0),.p (.i .i64),.p (.i .i64),.p (.i .i64),.p (.i .i64),.p (.i .i64)],[jW,.m 9 3,.r 3 true],
 [⟨⟨.nm,[0,10,69,70],[.p (.B 0),.p (.i .i64),.p (.i .i64),.p (.i .i64)],[jW,.m 9 3,.r 3 true]⟩,Int,fun d r=>(((),r,d.1.2.2.1,d.1.2.2.2.1,()),((d.2.1.1,(),(),()),d.2.2.1,d.2.2.2.1,()))⟩],
 fun k d=>QE k (⟨d.2.1.1,d.2.2.1,[]⟩:J.bj) d.2.2.2.1 d.1.2.1 d.1.2.2.2.2.2.1 d.1.2.2.1 d.1.2.2.2.2.1⟩ (bJ.bU (fun d=>dx) fun k ay az q h=>by
 obtain ⟨_,(a1:Int),(v1:Int),(v2:Int),(bu:Int),(v4:Int),_⟩:=ay
 obtain ⟨⟨(bZ:List J.ap),_,_,_⟩,(v6:List ((List UInt8) × Int)),(cq:List Int),_⟩:=az
 obtain ⟨ax,_⟩:=dW h
 dsimp only at ax
 obtain ⟨rfl,rfl,_⟩:=ax
 conv=>rhs;change Option.map (α:=Int) _ (QE (k+ 1) (⟨bZ,v6,[]⟩:J.bj) cq a1 v4 (bZ.length:Int) (bZ.length:Int));rw [<-Uo (k+ 1) (⟨bZ,v6,[]⟩:J.bj) cq a1 v4];simp only [rE,a6,Uo];simp only [bR]
 kernel_rfl)
noncomputable def QD (F:Nat) (k:Nat) (aP:J.bj) (gV:List Int) (rK:Int) (dg:Int):=c9 ((aP.l.length:Int)=dg/\True) (a' (pX F aP gV k rK))
theorem Un (F:Nat) (k:Nat) (aP:J.bj) (gV:List Int) (rK:Int):a' (pX F aP gV k rK)=QD F k (⟨aP.l,aP.b2,[]⟩:J.bj) gV rK (aP.l.length:Int):=(show a' (pX F aP gV k rK)=a' (pX F (⟨aP.l,aP.b2,[]⟩:J.bj) gV k rK) by kernel_rfl).trans (dy ⟨rfl,trivial⟩).symm
noncomputable def al4 (F:Nat):aR aH:=(alT F).bX 77 5 F ⟨[0,69,70],[.p (.B 0),.p (.i .i64),.p (.i .i64)],[jW,.m 9 3,.r 3 true],
 [⟨⟨.nm,[],[],[jW,.m 9 3,.r 3 true]⟩,Unit,fun d r=>((),((d.2.1.1,(),(),()),d.2.2.1,d.2.2.2.1,()))⟩,
  ⟨⟨.rt,[2],[.p (.i .i64)],[jW,.m 9 3,.r 3 true]⟩,Int × J.bj,fun d r=>((r.1,()),((d.2.1.1,(),(),()),d.2.2.1,r.2.dj,()))⟩],
 fun k d=>QD F k (⟨d.2.1.1,d.2.2.1,[]⟩:J.bj) d.2.2.2.1 d.1.2.2.1 d.1.2.1⟩ (bJ.bU (fun d=>dx) fun k ay az q h=>by
 obtain ⟨_,(a1:Int),(v1:Int),_⟩:=ay
 obtain ⟨⟨(v2:List J.ap),_,_,_⟩,(bu:List ((List UInt8) × Int)),(v4:List Int),_⟩:=az
 obtain ⟨ax,_⟩:=dW h
 dsimp only at ax
 obtain ⟨rfl,_⟩:=ax
 conv=>rhs;change Option.map (α:=Unit ⊕ (Int × J.bj)) _ (QD F (k+ 1) (⟨v2,bu,[]⟩:J.bj) v4 v1 (v2.length:Int));rw [<-Un F (k+ 1) (⟨v2,bu,[]⟩:J.bj) v4 v1];simp only [pX,a6,Uo,Un];simp only [bR]
 kernel_rfl)
noncomputable def amd (F:Nat):aR aH:=(al4 F).rt 77 ⟨[.p (.B 0)],[jW,.m 9 3,.r 3 false],[.p (.i .i64)],[jW,.m 9 3,.r 3 false],Int × J.bj,fun d=>K0 F (⟨d.2.1.1,d.2.2.1,d.2.2.2.1⟩:J.bj),fun d r=>((r.1,()),((d.2.1.1,(),(),()),d.2.2.1,r.2.dj,()))⟩ fun ay az=>by
 obtain ⟨_,_⟩:=ay
 obtain ⟨⟨(a1:List J.ap),_,_,_⟩,(v1:List ((List UInt8) × Int)),(v2:List Int),_⟩:=az
 conv=>rhs;simp only [K0,a6,Ul,Um,Un]
 kernel_rfl
noncomputable def amo (F:Nat):aR aH:=(amd F).rt 78 ⟨[.p (.B 0)],[en,.m 9 3],[.p (.i .i64)],[en,.m 9 3],Int,fun d=>K1 F (⟨d.2.1.1,d.2.2.1,d.2.1.2.2.1⟩:J.bj),fun d r=>((r,()),((d.2.1.1,(),d.2.1.2.2.1,()),d.2.2.1,()))⟩ fun ay az=>by
 conv=>rhs;simp only [K1,a6]
 kernel_rfl
noncomputable def ams (F:Nat):aR aH:=(amo F).rt 112 ⟨[.a [.i .i64,.s],.p (.B 0)],[.c 120 [.R 1],.r 9 false],[],[.c 120 [.R 1],.r 9 false],List (List UInt8),fun d=>Ag (Hy d.1.1) d.2.2.1,fun d r=>((),(((),()),r,()))⟩ fun ay az=>by
 conv=>rhs;simp only [Ag,a6]
 kernel_rfl
noncomputable def QO (k:Nat) (gp:J.ap) (z':List (List UInt8)) (wX:Int) (bS:Int) (apq:List J.Field):=c9 ((gp.Fields.length:Int)=bS/\(gp.Fields:List J.Field)=apq/\True) (ud gp k z' wX)
theorem Uy (k:Nat) (gp:J.ap) (z':List (List UInt8)) (wX:Int):ud gp k z' wX=QO k gp z' wX (gp.Fields.length:Int) gp.Fields:=(dy ⟨rfl,rfl,trivial⟩).symm
noncomputable def amt (F:Nat):aR aH:=(ams F).bX 79 2 F ⟨[0,3,4,6,23,24,25,30,31,32],[.p (.B 0),.p (.B 2),.f 112 [.B 2],.p (.B 4),.p (.l 134),.p (.i .i64),.p (.i .i64),.p (.l 136),.p (.i .i64),.p (.i .i64)],[en,.m 9 3,.c 120 [.R 3],.r 9 false,hH],
 [⟨⟨.nm,[0,3,4,6,23,24,25],[.p (.B 0),.p (.B 2),.f 112 [.B 2],.p (.B 4),.p (.l 134),.p (.i .i64),.p (.i .i64)],[en,.m 9 3,.c 120 [.R 3],.r 9 false,hH]⟩,List (List UInt8),fun d r=>(((),(),((),()),(),d.1.2.2.2.2.1,d.1.2.2.2.2.2.1,d.1.2.2.2.2.2.2.1,()),((d.2.1.1,(),d.2.1.2.2.1,()),d.2.2.1,((),()),r,d.2.2.2.2.2.1,()))⟩],
 fun k d=>QO k (⟨d.2.2.2.2.2.1.1,d.2.2.2.2.2.1.2.1,d.1.2.2.2.2.2.2.2.1,d.2.2.2.2.2.1.2.2.2.1⟩:J.ap) d.2.2.2.2.1 d.1.2.2.2.2.2.2.2.2.2.1 d.1.2.2.2.2.2.2.2.2.1 d.2.2.2.2.2.1.2.2.1⟩ (bJ.bU (fun d=>dx) fun k ay az q h=>by
 obtain ⟨_,_,⟨_,_⟩,_,(a1:List J.ap),(v1:Int),(v2:Int),(bu:List J.Field),(v4:Int),(bZ:Int),_⟩:=ay
 obtain ⟨⟨(v6:List J.ap),_,(cq:List Int),_⟩,(cy:List ((List UInt8) × Int)),⟨_,_⟩,(cH:List (List UInt8)),⟨(v10:List UInt8),(v11:List UInt8),(df:List J.Field),(dO:List J.Method),_⟩,_⟩:=az
 obtain ⟨ax,_⟩:=dW h
 dsimp only at ax
 obtain ⟨rfl,rfl,_⟩:=ax
 conv=>rhs;change Option.map (α:=List (List UInt8)) _ (QO (k+ 1) (⟨v10,v11,bu,dO⟩:J.ap) cH bZ (bu.length:Int) (bu));rw [<-Uy (k+ 1) (⟨v10,v11,bu,dO⟩:J.ap) cH bZ];simp only [ud,a6,Uy];simp only [bR]
 kernel_rfl)
noncomputable def QQ (k:Nat) (fU:J.Method) (Aa:List (List UInt8)) (wY:Int) (kM:Int) (apC:List J.Kind):=c9 ((fU.cw.length:Int)=kM/\(fU.cw:List J.Kind)=apC/\True) (uf fU k Aa wY)
theorem UA (k:Nat) (fU:J.Method) (Aa:List (List UInt8)) (wY:Int):uf fU k Aa wY=QQ k fU Aa wY (fU.cw.length:Int) fU.cw:=(dy ⟨rfl,rfl,trivial⟩).symm
noncomputable def amu (F:Nat):aR aH:=(amt F).bX 79 6 F ⟨[0,3,4,10,23,24,25,42,43,44,49,50,51],[.p (.B 0),.p (.B 2),.f 112 [.B 2],.p (.B 4),.p (.l 134),.p (.i .i64),.p (.i .i64),.p (.l 131),.p (.i .i64),.p (.i .i64),.p (.l 128),.p (.i .i64),.p (.i .i64)],[en,.m 9 3,.c 120 [.R 3],.r 9 false,k7],
 [⟨⟨.nm,[0,3,4,10,23,24,25,42,43,44],[.p (.B 0),.p (.B 2),.f 112 [.B 2],.p (.B 4),.p (.l 134),.p (.i .i64),.p (.i .i64),.p (.l 131),.p (.i .i64),.p (.i .i64)],[en,.m 9 3,.c 120 [.R 3],.r 9 false,k7]⟩,List (List UInt8),fun d r=>(((),(),((),()),(),d.1.2.2.2.2.1,d.1.2.2.2.2.2.1,d.1.2.2.2.2.2.2.1,d.1.2.2.2.2.2.2.2.1,d.1.2.2.2.2.2.2.2.2.1,d.1.2.2.2.2.2.2.2.2.2.1,()),((d.2.1.1,(),d.2.1.2.2.1,()),d.2.2.1,((),()),r,d.2.2.2.2.2.1,()))⟩],
 fun k d=>QQ k (⟨d.2.2.2.2.2.1.1,d.2.2.2.2.2.1.2.1,d.1.2.2.2.2.2.2.2.2.2.2.1,(Hy d.2.2.2.2.2.1.2.2.2),d.2.2.2.2.2.1.2.2.2.2.2.1,d.2.2.2.2.2.1.2.2.2.2.2.2.1,d.2.2.2.2.2.1.2.2.2.2.2.2.2.1,d.2.2.2.2.2.1.2.2.2.2.2.2.2.2.1⟩:J.Method) d.2.2.2.2.1 d.1.2.2.2.2.2.2.2.2.2.2.2.2.1 d.1.2.2.2.2.2.2.2.2.2.2.2.1 d.2.2.2.2.2.1.2.2.1⟩ (bJ.bU (fun d=>dx) fun k ay az q h=>by
 obtain ⟨_,_,⟨_,_⟩,_,(a1:List J.ap),(v1:Int),(v2:Int),(bu:List J.Method),(v4:Int),(bZ:Int),(v6:List J.Kind),(cq:Int),(cy:Int),_⟩:=ay
 obtain ⟨⟨(cH:List J.ap),_,(v10:List Int),_⟩,(v11:List ((List UInt8) × Int)),⟨_,_⟩,(df:List (List UInt8)),⟨(dO:List UInt8),(ec:Bool),(fs:List J.Kind),(fT:Int),(g3:List UInt8),(lW:Int),(DA:Int),(v20:List UInt8),(HB:List J.Handler),_⟩,_⟩:=az
 obtain ⟨ax,_⟩:=dW h
 dsimp only at ax
 obtain ⟨rfl,rfl,_⟩:=ax
 conv=>rhs;change Option.map (α:=List (List UInt8)) _ (QQ (k+ 1) (⟨dO,ec,v6,(⟨fT,g3⟩:J.Kind),lW,DA,v20,HB⟩:J.Method) df cy (v6.length:Int) (v6));rw [<-UA (k+ 1) (⟨dO,ec,v6,(⟨fT,g3⟩:J.Kind),lW,DA,v20,HB⟩:J.Method) df cy];simp only [uf,a6,UA];simp only [bR]
 kernel_rfl)
noncomputable def QR (k:Nat) (fU:J.Method) (tS:List (List UInt8)) (rT:Int) (kM:Int):=c9 ((fU.cz.length:Int)=kM/\True) (p3 fU k tS rT)
theorem UB (k:Nat) (fU:J.Method) (tS:List (List UInt8)) (rT:Int):p3 fU k tS rT=QR k (⟨[],false,[],(⟨0,[]⟩:J.Kind),0,0,[],fU.cz⟩:J.Method) tS rT (fU.cz.length:Int):=(show p3 fU k tS rT=p3 (⟨[],false,[],(⟨0,[]⟩:J.Kind),0,0,[],fU.cz⟩:J.Method) k tS rT by kernel_rfl).trans (dy ⟨rfl,trivial⟩).symm
noncomputable def amv (F:Nat):aR aH:=(amu F).bX 79 8 F ⟨[0,3,4,23,24,25,42,43,44,64,65,66],[.p (.B 0),.p (.B 2),.f 112 [.B 2],.p (.l 134),.p (.i .i64),.p (.i .i64),.p (.l 131),.p (.i .i64),.p (.i .i64),.p (.l 157),.p (.i .i64),.p (.i .i64)],[en,.m 9 3,.c 120 [.R 3],.r 9 false],
 [⟨⟨.nm,[0,3,4,23,24,25,42,43,44],[.p (.B 0),.p (.B 2),.f 112 [.B 2],.p (.l 134),.p (.i .i64),.p (.i .i64),.p (.l 131),.p (.i .i64),.p (.i .i64)],[en,.m 9 3,.c 120 [.R 3],.r 9 false]⟩,List (List UInt8),fun d r=>(((),(),((),()),d.1.2.2.2.1,d.1.2.2.2.2.1,d.1.2.2.2.2.2.1,d.1.2.2.2.2.2.2.1,d.1.2.2.2.2.2.2.2.1,d.1.2.2.2.2.2.2.2.2.1,()),((d.2.1.1,(),d.2.1.2.2.1,()),d.2.2.1,((),()),r,()))⟩],
 fun k d=>QR k (⟨[],false,[],(⟨0,[]⟩:J.Kind),0,0,[],d.1.2.2.2.2.2.2.2.2.2.1⟩:J.Method) d.2.2.2.2.1 d.1.2.2.2.2.2.2.2.2.2.2.2.1 d.1.2.2.2.2.2.2.2.2.2.2.1⟩ (bJ.bU (fun d=>dx) fun k ay az q h=>by
 obtain ⟨_,_,⟨_,_⟩,(a1:List J.ap),(v1:Int),(v2:Int),(bu:List J.Method),(v4:Int),(bZ:Int),(v6:List J.Handler),(cq:Int),(cy:Int),_⟩:=ay
 obtain ⟨⟨(cH:List J.ap),_,(v10:List Int),_⟩,(v11:List ((List UInt8) × Int)),⟨_,_⟩,(df:List (List UInt8)),_⟩:=az
 obtain ⟨ax,_⟩:=dW h
 dsimp only at ax
 obtain ⟨rfl,_⟩:=ax
 conv=>rhs;change Option.map (α:=List (List UInt8)) _ (QR (k+ 1) (⟨[],false,[],(⟨0,[]⟩:J.Kind),0,0,[],v6⟩:J.Method) df cy (v6.length:Int));rw [<-UB (k+ 1) (⟨[],false,[],(⟨0,[]⟩:J.Kind),0,0,[],v6⟩:J.Method) df cy];simp only [p3,a6,UB];simp only [bR]
 kernel_rfl)
noncomputable def QP (F:Nat) (k:Nat) (gp:J.ap) (tR:List (List UInt8)) (rR:Int) (bS:Int):=c9 ((gp.bc.length:Int)=bS/\True) (p2 F gp k tR rR)
theorem Uz (F:Nat) (k:Nat) (gp:J.ap) (tR:List (List UInt8)) (rR:Int):p2 F gp k tR rR=QP F k (⟨[],[],[],gp.bc⟩:J.ap) tR rR (gp.bc.length:Int):=(show p2 F gp k tR rR=p2 F (⟨[],[],[],gp.bc⟩:J.ap) k tR rR by kernel_rfl).trans (dy ⟨rfl,trivial⟩).symm
noncomputable def amw (F:Nat):aR aH:=(amv F).bX 79 4 F ⟨[0,3,4,23,24,25,42,43,44],[.p (.B 0),.p (.B 2),.f 112 [.B 2],.p (.l 134),.p (.i .i64),.p (.i .i64),.p (.l 131),.p (.i .i64),.p (.i .i64)],[en,.m 9 3,.c 120 [.R 3],.r 9 false],
 [⟨⟨.nm,[0,3,4,23,24,25],[.p (.B 0),.p (.B 2),.f 112 [.B 2],.p (.l 134),.p (.i .i64),.p (.i .i64)],[en,.m 9 3,.c 120 [.R 3],.r 9 false]⟩,List (List UInt8),fun d r=>(((),(),((),()),d.1.2.2.2.1,d.1.2.2.2.2.1,d.1.2.2.2.2.2.1,()),((d.2.1.1,(),d.2.1.2.2.1,()),d.2.2.1,((),()),r,()))⟩],
 fun k d=>QP F k (⟨[],[],[],d.1.2.2.2.2.2.2.1⟩:J.ap) d.2.2.2.2.1 d.1.2.2.2.2.2.2.2.2.1 d.1.2.2.2.2.2.2.2.1⟩ (bJ.bU (fun d=>dx) fun k ay az q h=>by
 obtain ⟨_,_,⟨_,_⟩,(a1:List J.ap),(v1:Int),(v2:Int),(bu:List J.Method),(v4:Int),(bZ:Int),_⟩:=ay
 obtain ⟨⟨(v6:List J.ap),_,(cq:List Int),_⟩,(cy:List ((List UInt8) × Int)),⟨_,_⟩,(cH:List (List UInt8)),_⟩:=az
 obtain ⟨ax,_⟩:=dW h
 dsimp only at ax
 obtain ⟨rfl,_⟩:=ax
 conv=>rhs;change Option.map (α:=List (List UInt8)) _ (QP F (k+ 1) (⟨[],[],[],bu⟩:J.ap) cH bZ (bu.length:Int));rw [<-Uz F (k+ 1) (⟨[],[],[],bu⟩:J.ap) cH bZ];simp only [p2,a6,UA,UB,Uz];simp only [bR]
 kernel_rfl)
noncomputable def QN (F:Nat) (k:Nat) (aP:J.bj) (z_:List (List UInt8)) (wV:Int) (ak:Int) (aV:List J.ap):=c9 ((aP.l.length:Int)=ak/\(aP.l:List J.ap)=aV/\True) (uc F aP k z_ wV)
theorem Ux (F:Nat) (k:Nat) (aP:J.bj) (z_:List (List UInt8)) (wV:Int):uc F aP k z_ wV=QN F k aP z_ wV (aP.l.length:Int) aP.l:=(dy ⟨rfl,rfl,trivial⟩).symm
noncomputable def amy (F:Nat):aR aH:=(amw F).bX 79 0 F ⟨[0,3,4,23,24,25],[.p (.B 0),.p (.B 2),.f 112 [.B 2],.p (.l 134),.p (.i .i64),.p (.i .i64)],[en,.m 9 3,.c 120 [.R 3],.r 9 false],
 [⟨⟨.nm,[0,3],[.p (.B 0),.p (.B 2)],[en,.m 9 3,.c 120 [.R 3],.r 9 false]⟩,List (List UInt8),fun d r=>(((),(),()),((d.2.1.1,(),d.2.1.2.2.1,()),d.2.2.1,((),()),r,()))⟩],
 fun k d=>QN F k (⟨d.1.2.2.2.1,d.2.2.1,d.2.1.2.2.1⟩:J.bj) d.2.2.2.2.1 d.1.2.2.2.2.2.1 d.1.2.2.2.2.1 d.2.1.1⟩ (bJ.bU (fun d=>dx) fun k ay az q h=>by
 obtain ⟨_,_,⟨_,_⟩,(a1:List J.ap),(v1:Int),(v2:Int),_⟩:=ay
 obtain ⟨⟨(bu:List J.ap),_,(v4:List Int),_⟩,(bZ:List ((List UInt8) × Int)),⟨_,_⟩,(v6:List (List UInt8)),_⟩:=az
 obtain ⟨ax,_⟩:=dW h
 dsimp only at ax
 obtain ⟨rfl,rfl,_⟩:=ax
 conv=>rhs;change Option.map (α:=List (List UInt8)) _ (QN F (k+ 1) (⟨a1,bZ,v4⟩:J.bj) v6 v2 (a1.length:Int) (a1));rw [<-Ux F (k+ 1) (⟨a1,bZ,v4⟩:J.bj) v6 v2];simp only [uc,a6,Uy,Uz,Ux];simp only [bR]
 kernel_rfl)
noncomputable def QS (k:Nat) (aP:J.bj) (oF:List (List UInt8)) (wZ:Int) (dg:Int):=c9 ((oF.length:Int)=dg/\True) (a' (wK aP oF k wZ))
theorem UC (k:Nat) (aP:J.bj) (oF:List (List UInt8)) (wZ:Int):a' (wK aP oF k wZ)=QS k aP oF wZ (oF.length:Int):=(dy ⟨rfl,trivial⟩).symm
noncomputable def amz (F:Nat):aR aH:=(amy F).bX 79 10 F ⟨[0,78,79,80],[.p (.B 0),.p (.R 2),.p (.i .i64),.p (.i .i64)],[en,.m 9 3,.r 9 true],
 [⟨⟨.nm,[],[],[en,.m 9 3,.d]⟩,Unit,fun d r=>((),((d.2.1.1,(),d.2.1.2.2.1,()),d.2.2.1,(),()))⟩,
  ⟨⟨.rt,[2],[.p (.i .i64)],[en,.m 9 3,.d]⟩,Int,fun d r=>((r,()),((d.2.1.1,(),d.2.1.2.2.1,()),d.2.2.1,(),()))⟩],
 fun k d=>QS k (⟨d.2.1.1,d.2.2.1,d.2.1.2.2.1⟩:J.bj) d.2.2.2.1 d.1.2.2.2.1 d.1.2.2.1⟩ (bJ.bU (fun d=>dx) fun k ay az q h=>by
 obtain ⟨_,_,(a1:Int),(v1:Int),_⟩:=ay
 obtain ⟨⟨(v2:List J.ap),_,(bu:List Int),_⟩,(v4:List ((List UInt8) × Int)),(bZ:List (List UInt8)),_⟩:=az
 obtain ⟨ax,_⟩:=dW h
 dsimp only at ax
 obtain ⟨rfl,_⟩:=ax
 conv=>rhs;change Option.map (α:=Unit ⊕ Int) _ (QS (k+ 1) (⟨v2,v4,bu⟩:J.bj) bZ v1 (bZ.length:Int));rw [<-UC (k+ 1) (⟨v2,v4,bu⟩:J.bj) bZ v1];simp only [wK,a6,UC];simp only [bR]
 kernel_rfl)
noncomputable def amA (F:Nat):aR aH:=(amz F).rt 79 ⟨[.p (.B 0)],[en,.m 9 3],[.p (.i .i64)],[en,.m 9 3],Int,fun d=>Gh F (⟨d.2.1.1,d.2.2.1,d.2.1.2.2.1⟩:J.bj),fun d r=>((r,()),((d.2.1.1,(),d.2.1.2.2.1,()),d.2.2.1,()))⟩ fun ay az=>by
 obtain ⟨_,_⟩:=ay
 obtain ⟨⟨(a1:List J.ap),_,(v1:List Int),_⟩,(v2:List ((List UInt8) × Int)),_⟩:=az
 conv=>rhs;simp only [Gh,a6,Ux,UC]
 kernel_rfl
noncomputable def QU (k:Nat) (a_:List (List UInt8)) (Ah:List ((List UInt8) × Bool)) (wS:Int) (ak:List (List UInt8)) (al:Int):=c9 ((a_:List (List UInt8))=ak/\(a_.length:Int)=al/\True) (wL a_ k Ah wS)
theorem UE (k:Nat) (a_:List (List UInt8)) (Ah:List ((List UInt8) × Bool)) (wS:Int):wL a_ k Ah wS=QU k a_ Ah wS a_ (a_.length:Int):=(dy ⟨rfl,rfl,trivial⟩).symm
noncomputable def amB (F:Nat):aR aH:=(amA F).bX 113 0 F ⟨[0,3,7,8,9],[.p (.l 9),.p (.M 0),.p (.l 9),.p (.i .i64),.p (.i .i64)],[.m 9 4],
 [⟨⟨.nm,[0,3],[.p (.l 9),.p (.M 0)],[.m 9 4]⟩,List ((List UInt8) × Bool),fun d r=>((d.1.1,(),()),(r,()))⟩],
 fun k d=>QU k d.1.1 d.2.1 d.1.2.2.2.2.1 d.1.2.2.1 d.1.2.2.2.1⟩ (bJ.bU (fun d=>dx) fun k ay az q h=>by
 obtain ⟨(a1:List (List UInt8)),_,(v1:List (List UInt8)),(v2:Int),(bu:Int),_⟩:=ay
 obtain ⟨(v4:List ((List UInt8) × Bool)),_⟩:=az
 obtain ⟨ax,_⟩:=dW h
 dsimp only at ax
 obtain ⟨rfl,rfl,_⟩:=ax
 conv=>rhs;change Option.map (α:=List ((List UInt8) × Bool)) _ (QU (k+ 1) a1 v4 bu (a1) (a1.length:Int));rw [<-UE (k+ 1) a1 v4 bu];simp only [wL,a6,UE];simp only [bR]
 kernel_rfl)
noncomputable def amC (F:Nat):aR aH:=(amB F).rt 113 ⟨[.p (.l 9)],[],[.p (.b)],[],Bool,fun d=>CT F d.1.1,fun d r=>((r,()),())⟩ fun ay az=>by
 obtain ⟨(a1:List (List UInt8)),_⟩:=ay
 conv=>rhs;simp only [CT,a6,UE]
 kernel_rfl
noncomputable def QL (k:Nat) (nO:List J.Field) (z9:List (List UInt8)) (wU:Int) (aV:Int) (apx:List (List UInt8)):=c9 ((nO.length:Int)=aV/\([]:List (List UInt8))=apx/\True) (ub nO k z9 wU)
theorem Uv (k:Nat) (nO:List J.Field) (z9:List (List UInt8)) (wU:Int):ub nO k z9 wU=QL k nO z9 wU (nO.length:Int) []:=(dy ⟨rfl,rfl,trivial⟩).symm
noncomputable def amD (F:Nat):aR aH:=(amC F).bX 80 2 F ⟨[0,4,5,6,14,15,16,23,24,25],[.p (.B 0),.p (.B 2),.p (.R 3),.p (.R 4),.p (.l 134),.p (.i .i64),.p (.i .i64),.p (.R 5),.p (.i .i64),.p (.i .i64)],[en,.m 9 3,hH,.r 9 false,.r 9 false,.r 136 true],
 [⟨⟨.nm,[0,4,5,6,14,15,16],[.p (.B 0),.p (.B 2),.p (.R 3),.p (.R 4),.p (.l 134),.p (.i .i64),.p (.i .i64)],[en,.m 9 3,hH,.r 9 false,.r 9 false,.d]⟩,List (List UInt8),fun d r=>(((),(),(),(),d.1.2.2.2.2.1,d.1.2.2.2.2.2.1,d.1.2.2.2.2.2.2.1,()),((d.2.1.1,(),d.2.1.2.2.1,()),d.2.2.1,d.2.2.2.1,r,d.2.2.2.2.2.1,(),()))⟩],
 fun k d=>QL k d.2.2.2.2.2.2.1 d.2.2.2.2.1 d.1.2.2.2.2.2.2.2.2.2.1 d.1.2.2.2.2.2.2.2.2.1 d.2.2.2.2.2.1⟩ (bJ.bU (fun d=>dx) fun k ay az q h=>by
 obtain ⟨_,_,_,_,(a1:List J.ap),(v1:Int),(v2:Int),_,(bu:Int),(v4:Int),_⟩:=ay
 obtain ⟨⟨(bZ:List J.ap),_,(v6:List Int),_⟩,(cq:List ((List UInt8) × Int)),⟨(cy:List UInt8),(cH:List UInt8),(v10:List J.Field),(v11:List J.Method),_⟩,(df:List (List UInt8)),(dO:List (List UInt8)),(ec:List J.Field),_⟩:=az
 obtain ⟨ax,_⟩:=dW h
 dsimp only at ax
 obtain ⟨rfl,rfl,_⟩:=ax
 conv=>rhs;change Option.map (α:=List (List UInt8)) _ (QL (k+ 1) ec df v4 (ec.length:Int) ([]));rw [<-Uv (k+ 1) ec df v4];simp only [ub,a6,Uv];simp only [bR]
 kernel_rfl)
noncomputable def QM (k:Nat) (l6:J.ap) (tQ:List (List UInt8)) (rQ:Int) (bS:Int):=c9 ((l6.bc.length:Int)=bS/\True) (p1 l6 k tQ rQ)
theorem Uw (k:Nat) (l6:J.ap) (tQ:List (List UInt8)) (rQ:Int):p1 l6 k tQ rQ=QM k (⟨[],[],[],l6.bc⟩:J.ap) tQ rQ (l6.bc.length:Int):=(show p1 l6 k tQ rQ=p1 (⟨[],[],[],l6.bc⟩:J.ap) k tQ rQ by kernel_rfl).trans (dy ⟨rfl,trivial⟩).symm
noncomputable def amE (F:Nat):aR aH:=(amD F).bX 80 4 F ⟨[0,5,6,14,15,16,36,37,38],[.p (.B 0),.p (.R 2),.p (.R 3),.p (.l 134),.p (.i .i64),.p (.i .i64),.p (.l 131),.p (.i .i64),.p (.i .i64)],[en,.m 9 3,.r 9 false,.r 9 false],
 [⟨⟨.nm,[0,5,6,14,15,16],[.p (.B 0),.p (.R 2),.p (.R 3),.p (.l 134),.p (.i .i64),.p (.i .i64)],[en,.m 9 3,.r 9 false,.r 9 false]⟩,List (List UInt8),fun d r=>(((),(),(),d.1.2.2.2.1,d.1.2.2.2.2.1,d.1.2.2.2.2.2.1,()),((d.2.1.1,(),d.2.1.2.2.1,()),d.2.2.1,d.2.2.2.1,r,()))⟩],
 fun k d=>QM k (⟨[],[],[],d.1.2.2.2.2.2.2.1⟩:J.ap) d.2.2.2.2.1 d.1.2.2.2.2.2.2.2.2.1 d.1.2.2.2.2.2.2.2.1⟩ (bJ.bU (fun d=>dx) fun k ay az q h=>by
 obtain ⟨_,_,_,(a1:List J.ap),(v1:Int),(v2:Int),(bu:List J.Method),(v4:Int),(bZ:Int),_⟩:=ay
 obtain ⟨⟨(v6:List J.ap),_,(cq:List Int),_⟩,(cy:List ((List UInt8) × Int)),(cH:List (List UInt8)),(v10:List (List UInt8)),_⟩:=az
 obtain ⟨ax,_⟩:=dW h
 dsimp only at ax
 obtain ⟨rfl,_⟩:=ax
 conv=>rhs;change Option.map (α:=List (List UInt8)) _ (QM (k+ 1) (⟨[],[],[],bu⟩:J.ap) v10 bZ (bu.length:Int));rw [<-Uw (k+ 1) (⟨[],[],[],bu⟩:J.ap) v10 bZ];simp only [p1,a6,Uw];simp only [bR]
 kernel_rfl)
noncomputable def QK (F:Nat) (k:Nat) (aP:J.bj) (um:Int) (ak:Int) (aV:List J.ap):=c9 ((aP.l.length:Int)=ak/\(aP.l:List J.ap)=aV/\True) (a' (wH F aP k um))
theorem Uu (F:Nat) (k:Nat) (aP:J.bj) (um:Int):a' (wH F aP k um)=QK F k aP um (aP.l.length:Int) aP.l:=(dy ⟨rfl,rfl,trivial⟩).symm
noncomputable def amF (F:Nat):aR aH:=(amE F).bX 80 0 F ⟨[0,14,15,16],[.p (.B 0),.p (.l 134),.p (.i .i64),.p (.i .i64)],[en,.m 9 3],
 [⟨⟨.nm,[],[],[en,.m 9 3]⟩,Unit,fun d r=>((),((d.2.1.1,(),d.2.1.2.2.1,()),d.2.2.1,()))⟩,
  ⟨⟨.rt,[2],[.p (.i .i64)],[en,.m 9 3]⟩,Int,fun d r=>((r,()),((d.2.1.1,(),d.2.1.2.2.1,()),d.2.2.1,()))⟩],
 fun k d=>QK F k (⟨d.1.2.1,d.2.2.1,d.2.1.2.2.1⟩:J.bj) d.1.2.2.2.1 d.1.2.2.1 d.2.1.1⟩ (bJ.bU (fun d=>dx) fun k ay az q h=>by
 obtain ⟨_,(a1:List J.ap),(v1:Int),(v2:Int),_⟩:=ay
 obtain ⟨⟨(bu:List J.ap),_,(v4:List Int),_⟩,(bZ:List ((List UInt8) × Int)),_⟩:=az
 obtain ⟨ax,_⟩:=dW h
 dsimp only at ax
 obtain ⟨rfl,rfl,_⟩:=ax
 conv=>rhs;change Option.map (α:=Unit ⊕ Int) _ (QK F (k+ 1) (⟨a1,bZ,v4⟩:J.bj) v2 (a1.length:Int) (a1));rw [<-Uu F (k+ 1) (⟨a1,bZ,v4⟩:J.bj) v2];simp only [wH,a6,Uv,Uw,Uu];simp only [bR]
 kernel_rfl)
noncomputable def amG (F:Nat):aR aH:=(amF F).rt 80 ⟨[.p (.B 0)],[en,.m 9 3],[.p (.i .i64)],[en,.m 9 3],Int,fun d=>Gg F (⟨d.2.1.1,d.2.2.1,d.2.1.2.2.1⟩:J.bj),fun d r=>((r,()),((d.2.1.1,(),d.2.1.2.2.1,()),d.2.2.1,()))⟩ fun ay az=>by
 obtain ⟨_,_⟩:=ay
 obtain ⟨⟨(a1:List J.ap),_,(v1:List Int),_⟩,(v2:List ((List UInt8) × Int)),_⟩:=az
 conv=>rhs;simp only [Gg,a6,Uu]
 kernel_rfl
noncomputable def amH (F:Nat):aR aH:=(amG F).bX 114 0 F ⟨[0,1,5],[.p (.B 0),.p (.i .i64),.p (.R 2)],[en,.m 9 3,.r 3 false],
 [⟨⟨.nm,[5],[.p (.R 2)],[en,.m 9 3,.r 3 false]⟩,List Int,fun d r=>(((),()),((d.2.1.1,(),d.2.1.2.2.1,()),d.2.2.1,r,()))⟩],
 fun k d=>pZ (⟨d.2.1.1,d.2.2.1,d.2.1.2.2.1⟩:J.bj) k d.2.2.2.1 d.1.2.1⟩ (bJ.bU (fun d=>rfl) fun k ay az q h=>by
 conv=>rhs;simp only [pZ,a6];simp only [bR]
 kernel_rfl)
noncomputable def amJ (F:Nat):aR aH:=(amH F).rt 114 ⟨[.p (.B 0),.p (.i .i64)],[en,.m 9 3],[.p (.l 3)],[en,.m 9 3],List Int,fun d=>pY F (⟨d.2.1.1,d.2.2.1,d.2.1.2.2.1⟩:J.bj) d.1.2.1,fun d r=>((r,()),((d.2.1.1,(),d.2.1.2.2.1,()),d.2.2.1,()))⟩ fun ay az=>by
 conv=>rhs;simp only [pY,a6]
 kernel_rfl
noncomputable def Q2 (k:Nat) (bQ:List J.Kind) (b_:List J.Kind) (cV:Int) (al:Int):=c9 ((bQ.length:Int)=al/\True) (a' (AI bQ b_ k cV))
theorem UM (k:Nat) (bQ:List J.Kind) (b_:List J.Kind) (cV:Int):a' (AI bQ b_ k cV)=Q2 k bQ b_ cV (bQ.length:Int):=(dy ⟨rfl,trivial⟩).symm
noncomputable def amK (F:Nat):aR aH:=(amJ F).bX 143 0 F ⟨[0,1,12,13],[.p (.l 128),.p (.l 128),.p (.i .i64),.p (.i .i64)],[],
 [⟨⟨.nm,[],[],[]⟩,Unit,fun d r=>((),())⟩,
  ⟨⟨.rt,[4],[.p (.b)],[]⟩,Bool,fun d r=>((r,()),())⟩],
 fun k d=>Q2 k d.1.1 d.1.2.1 d.1.2.2.2.1 d.1.2.2.1⟩ (bJ.bU (fun d=>dx) fun k ay az q h=>by
 obtain ⟨(a1:List J.Kind),(v1:List J.Kind),(v2:Int),(bu:Int),_⟩:=ay
 obtain ⟨ax,_⟩:=dW h
 dsimp only at ax
 obtain ⟨rfl,_⟩:=ax
 conv=>rhs;change Option.map (α:=Unit ⊕ Bool) _ (Q2 (k+ 1) a1 v1 bu (a1.length:Int));rw [<-UM (k+ 1) a1 v1 bu];simp only [AI,a6,UM];simp only [bR]
 kernel_rfl)
noncomputable def amL (F:Nat):aR aH:=(amK F).rt 143 ⟨[.p (.l 128),.p (.l 128)],[],[.p (.b)],[],Bool,fun d=>Ho F d.1.1 d.1.2.1,fun d r=>((r,()),())⟩ fun ay az=>by
 obtain ⟨(a1:List J.Kind),(v1:List J.Kind),_⟩:=ay
 conv=>rhs;simp only [Ho,a6,UM]
 kernel_rfl
noncomputable def amM (F:Nat):aR aH:=(amL F).rt 115 ⟨[LH,LH],[],[.p (.b)],[],Bool,fun d=>KZ F (r9 d.1.1) (r9 d.1.2.1),fun d r=>((r,()),())⟩ fun ay az=>by
 obtain ⟨⟨(a1:List UInt8),(v1:Bool),(v2:List J.Kind),(bu:Int),(v4:List UInt8),(bZ:Int),(v6:Int),(cq:List UInt8),(cy:List J.Handler),_⟩,⟨(cH:List UInt8),(v10:Bool),(v11:List J.Kind),(df:Int),(dO:List UInt8),(ec:Int),(fs:Int),(fT:List UInt8),(g3:List J.Handler),_⟩,_⟩:=ay
 conv=>rhs;simp only [KZ,a6,axr]
 kernel_rfl
noncomputable def QI (F:Nat) (k:Nat) (iK:J.Method) (ld:J.ap) (p7:Int) (B8:Int):=c9 ((ld.bc.length:Int)=B8/\True) (a' (p0 F iK ld k p7))
theorem Us (F:Nat) (k:Nat) (iK:J.Method) (ld:J.ap) (p7:Int):a' (p0 F iK ld k p7)=QI F k iK (⟨[],[],[],ld.bc⟩:J.ap) p7 (ld.bc.length:Int):=(show a' (p0 F iK ld k p7)=a' (p0 F iK (⟨[],[],[],ld.bc⟩:J.ap) k p7) by kernel_rfl).trans (dy ⟨rfl,trivial⟩).symm
noncomputable def amN (F:Nat):aR aH:=(amM F).bX 81 6 F ⟨[0,4,6,8,14,15,16,24,25,26,31,32,33,44,45,46],[.p (.B 0),.p (.B 2),.p (.i .i64),.p (.B 3),.p (.l 134),.p (.i .i64),.p (.i .i64),.p (.l 3),.p (.i .i64),.p (.i .i64),.p (.l 131),.p (.i .i64),.p (.i .i64),.p (.l 131),.p (.i .i64),.p (.i .i64)],[en,.m 9 3,hH,k7],
 [⟨⟨.nm,[0,4,6,14,15,16,24,25,26,31,32,33],[.p (.B 0),.p (.B 2),.p (.i .i64),.p (.l 134),.p (.i .i64),.p (.i .i64),.p (.l 3),.p (.i .i64),.p (.i .i64),.p (.l 131),.p (.i .i64),.p (.i .i64)],[en,.m 9 3,hH,k7]⟩,Unit,fun d r=>(((),(),d.1.2.2.1,d.1.2.2.2.2.1,d.1.2.2.2.2.2.1,d.1.2.2.2.2.2.2.1,d.1.2.2.2.2.2.2.2.1,d.1.2.2.2.2.2.2.2.2.1,d.1.2.2.2.2.2.2.2.2.2.1,d.1.2.2.2.2.2.2.2.2.2.2.1,d.1.2.2.2.2.2.2.2.2.2.2.2.1,d.1.2.2.2.2.2.2.2.2.2.2.2.2.1,()),((d.2.1.1,(),d.2.1.2.2.1,()),d.2.2.1,d.2.2.2.1,d.2.2.2.2.1,()))⟩,
  ⟨⟨.rt,[2],[.p (.i .i64)],[en,.m 9 3,.d,.d]⟩,Int,fun d r=>((r,()),((d.2.1.1,(),d.2.1.2.2.1,()),d.2.2.1,(),(),()))⟩],
 fun k d=>QI F k (r9 d.2.2.2.2.1) (⟨[],[],[],d.1.2.2.2.2.2.2.2.2.2.2.2.2.2.1⟩:J.ap) d.1.2.2.2.2.2.2.2.2.2.2.2.2.2.2.2.1 d.1.2.2.2.2.2.2.2.2.2.2.2.2.2.2.1⟩ (bJ.bU (fun d=>dx) fun k ay az q h=>by
 obtain ⟨_,_,(a1:Int),_,(v1:List J.ap),(v2:Int),(bu:Int),(v4:List Int),(bZ:Int),(v6:Int),(cq:List J.Method),(cy:Int),(cH:Int),(v10:List J.Method),(v11:Int),(df:Int),_⟩:=ay
 obtain ⟨⟨(dO:List J.ap),_,(ec:List Int),_⟩,(fs:List ((List UInt8) × Int)),⟨(fT:List UInt8),(g3:List UInt8),(lW:List J.Field),(DA:List J.Method),_⟩,⟨(v20:List UInt8),(HB:Bool),(agp:List J.Kind),(agq:Int),(agr:List UInt8),(ags:Int),(agt:Int),(agu:List UInt8),(agv:List J.Handler),_⟩,_⟩:=az
 obtain ⟨ax,_⟩:=dW h
 dsimp only at ax
 obtain ⟨rfl,_⟩:=ax
 conv=>rhs;change Option.map (α:=Unit ⊕ Int) _ (QI F (k+ 1) (⟨v20,HB,agp,(⟨agq,agr⟩:J.Kind),ags,agt,agu,agv⟩:J.Method) (⟨[],[],[],v10⟩:J.ap) df (v10.length:Int));rw [<-Us F (k+ 1) (⟨v20,HB,agp,(⟨agq,agr⟩:J.Kind),ags,agt,agu,agv⟩:J.Method) (⟨[],[],[],v10⟩:J.ap) df];simp only [p0,a6,Us];simp only [bR]
 kernel_rfl)
noncomputable def QH (F:Nat) (k:Nat) (aP:J.bj) (hR:J.ap) (uU:Int) (wQ:Int) (al:Int) (Jz:Int) (B7:List J.ap) (apE:List J.Method):=c9 ((aP.l.length:Int)=al/\(hR.bc.length:Int)=Jz/\(aP.l:List J.ap)=B7/\(hR.bc:List J.Method)=apE/\True) (a' (wG F aP hR uU k wQ))
theorem Ur (F:Nat) (k:Nat) (aP:J.bj) (hR:J.ap) (uU:Int) (wQ:Int):a' (wG F aP hR uU k wQ)=QH F k aP hR uU wQ (aP.l.length:Int) (hR.bc.length:Int) aP.l hR.bc:=(dy ⟨rfl,rfl,rfl,rfl,trivial⟩).symm
noncomputable def amO (F:Nat):aR aH:=(amN F).bX 81 4 F ⟨[0,4,6,14,15,16,24,25,26,31,32,33],[.p (.B 0),.p (.B 2),.p (.i .i64),.p (.l 134),.p (.i .i64),.p (.i .i64),.p (.l 3),.p (.i .i64),.p (.i .i64),.p (.l 131),.p (.i .i64),.p (.i .i64)],[en,.m 9 3,hH],
 [⟨⟨.nm,[0,4,14,15,16,24,25,26],[.p (.B 0),.p (.B 2),.p (.l 134),.p (.i .i64),.p (.i .i64),.p (.l 3),.p (.i .i64),.p (.i .i64)],[en,.m 9 3,hH]⟩,Unit,fun d r=>(((),(),d.1.2.2.2.1,d.1.2.2.2.2.1,d.1.2.2.2.2.2.1,d.1.2.2.2.2.2.2.1,d.1.2.2.2.2.2.2.2.1,d.1.2.2.2.2.2.2.2.2.1,()),((d.2.1.1,(),d.2.1.2.2.1,()),d.2.2.1,d.2.2.2.1,()))⟩,
  ⟨⟨.rt,[2],[.p (.i .i64)],[en,.m 9 3,.d]⟩,Int,fun d r=>((r,()),((d.2.1.1,(),d.2.1.2.2.1,()),d.2.2.1,(),()))⟩],
 fun k d=>QH F k (⟨d.1.2.2.2.1,d.2.2.1,d.2.1.2.2.1⟩:J.bj) (⟨d.2.2.2.1.1,d.2.2.2.1.2.1,d.2.2.2.1.2.2.1,d.1.2.2.2.2.2.2.2.2.2.1⟩:J.ap) d.1.2.2.1 d.1.2.2.2.2.2.2.2.2.2.2.2.1 d.1.2.2.2.2.1 d.1.2.2.2.2.2.2.2.2.2.2.1 d.2.1.1 d.2.2.2.1.2.2.2.1⟩ (bJ.bU (fun d=>dx) fun k ay az q h=>by
 obtain ⟨_,_,(a1:Int),(v1:List J.ap),(v2:Int),(bu:Int),(v4:List Int),(bZ:Int),(v6:Int),(cq:List J.Method),(cy:Int),(cH:Int),_⟩:=ay
 obtain ⟨⟨(v10:List J.ap),_,(v11:List Int),_⟩,(df:List ((List UInt8) × Int)),⟨(dO:List UInt8),(ec:List UInt8),(fs:List J.Field),(fT:List J.Method),_⟩,_⟩:=az
 obtain ⟨ax,_⟩:=dW h
 dsimp only at ax
 obtain ⟨rfl,rfl,rfl,rfl,_⟩:=ax
 conv=>rhs;change Option.map (α:=Unit ⊕ Int) _ (QH F (k+ 1) (⟨v1,df,v11⟩:J.bj) (⟨dO,ec,fs,cq⟩:J.ap) a1 cH (v1.length:Int) (cq.length:Int) (v1) (cq));rw [<-Ur F (k+ 1) (⟨v1,df,v11⟩:J.bj) (⟨dO,ec,fs,cq⟩:J.ap) a1 cH];simp only [wG,a6,Us,Ur];simp only [bR]
 kernel_rfl)
noncomputable def QG (F:Nat) (k:Nat) (aP:J.bj) (hR:J.ap) (oE:List Int) (wP:Int) (ak:Int) (bS:Int) (gR:List J.ap):=c9 ((aP.l.length:Int)=ak/\(oE.length:Int)=bS/\(aP.l:List J.ap)=gR/\True) (a' (wF F aP hR oE k wP))
theorem Uq (F:Nat) (k:Nat) (aP:J.bj) (hR:J.ap) (oE:List Int) (wP:Int):a' (wF F aP hR oE k wP)=QG F k aP hR oE wP (aP.l.length:Int) (oE.length:Int) aP.l:=(dy ⟨rfl,rfl,rfl,trivial⟩).symm
noncomputable def amP (F:Nat):aR aH:=(amO F).bX 81 2 F ⟨[0,4,14,15,16,24,25,26],[.p (.B 0),.p (.B 2),.p (.l 134),.p (.i .i64),.p (.i .i64),.p (.l 3),.p (.i .i64),.p (.i .i64)],[en,.m 9 3,hH],
 [⟨⟨.nm,[0,14,15,16],[.p (.B 0),.p (.l 134),.p (.i .i64),.p (.i .i64)],[en,.m 9 3,hH]⟩,Unit,fun d r=>(((),d.1.2.2.1,d.1.2.2.2.1,d.1.2.2.2.2.1,()),((d.2.1.1,(),d.2.1.2.2.1,()),d.2.2.1,d.2.2.2.1,()))⟩,
  ⟨⟨.rt,[2],[.p (.i .i64)],[en,.m 9 3,.d]⟩,Int,fun d r=>((r,()),((d.2.1.1,(),d.2.1.2.2.1,()),d.2.2.1,(),()))⟩],
 fun k d=>QG F k (⟨d.1.2.2.1,d.2.2.1,d.2.1.2.2.1⟩:J.bj) (Dy d.2.2.2.1) d.1.2.2.2.2.2.1 d.1.2.2.2.2.2.2.2.1 d.1.2.2.2.1 d.1.2.2.2.2.2.2.1 d.2.1.1⟩ (bJ.bU (fun d=>dx) fun k ay az q h=>by
 obtain ⟨_,_,(a1:List J.ap),(v1:Int),(v2:Int),(bu:List Int),(v4:Int),(bZ:Int),_⟩:=ay
 obtain ⟨⟨(v6:List J.ap),_,(cq:List Int),_⟩,(cy:List ((List UInt8) × Int)),⟨(cH:List UInt8),(v10:List UInt8),(v11:List J.Field),(df:List J.Method),_⟩,_⟩:=az
 obtain ⟨ax,_⟩:=dW h
 dsimp only at ax
 obtain ⟨rfl,rfl,rfl,_⟩:=ax
 conv=>rhs;change Option.map (α:=Unit ⊕ Int) _ (QG F (k+ 1) (⟨a1,cy,cq⟩:J.bj) (⟨cH,v10,v11,df⟩:J.ap) bu bZ (a1.length:Int) (bu.length:Int) (a1));rw [<-Uq F (k+ 1) (⟨a1,cy,cq⟩:J.bj) (⟨cH,v10,v11,df⟩:J.ap) bu bZ];simp only [wF,a6,Ur,Uq];simp only [bR]
 kernel_rfl)
noncomputable def QF (F:Nat) (k:Nat) (aP:J.bj) (ui:Int) (ak:Int) (aV:List J.ap):=c9 ((aP.l.length:Int)=ak/\(aP.l:List J.ap)=aV/\True) (a' (wE F aP k ui))
theorem Up (F:Nat) (k:Nat) (aP:J.bj) (ui:Int):a' (wE F aP k ui)=QF F k aP ui (aP.l.length:Int) aP.l:=(dy ⟨rfl,rfl,trivial⟩).symm
noncomputable def amQ (F:Nat):aR aH:=(amP F).bX 81 0 F ⟨[0,14,15,16],[.p (.B 0),.p (.l 134),.p (.i .i64),.p (.i .i64)],[en,.m 9 3],
 [⟨⟨.nm,[],[],[en,.m 9 3]⟩,Unit,fun d r=>((),((d.2.1.1,(),d.2.1.2.2.1,()),d.2.2.1,()))⟩,
  ⟨⟨.rt,[2],[.p (.i .i64)],[en,.m 9 3]⟩,Int,fun d r=>((r,()),((d.2.1.1,(),d.2.1.2.2.1,()),d.2.2.1,()))⟩],
 fun k d=>QF F k (⟨d.1.2.1,d.2.2.1,d.2.1.2.2.1⟩:J.bj) d.1.2.2.2.1 d.1.2.2.1 d.2.1.1⟩ (bJ.bU (fun d=>dx) fun k ay az q h=>by
 obtain ⟨_,(a1:List J.ap),(v1:Int),(v2:Int),_⟩:=ay
 obtain ⟨⟨(bu:List J.ap),_,(v4:List Int),_⟩,(bZ:List ((List UInt8) × Int)),_⟩:=az
 obtain ⟨ax,_⟩:=dW h
 dsimp only at ax
 obtain ⟨rfl,rfl,_⟩:=ax
 conv=>rhs;change Option.map (α:=Unit ⊕ Int) _ (QF F (k+ 1) (⟨a1,bZ,v4⟩:J.bj) v2 (a1.length:Int) (a1));rw [<-Up F (k+ 1) (⟨a1,bZ,v4⟩:J.bj) v2];simp only [wE,a6,Uq,Up];simp only [bR]
 kernel_rfl)
noncomputable def amR (F:Nat):aR aH:=(amQ F).rt 81 ⟨[.p (.B 0)],[en,.m 9 3],[.p (.i .i64)],[en,.m 9 3],Int,fun d=>Gf F (⟨d.2.1.1,d.2.2.1,d.2.1.2.2.1⟩:J.bj),fun d r=>((r,()),((d.2.1.1,(),d.2.1.2.2.1,()),d.2.2.1,()))⟩ fun ay az=>by
 obtain ⟨_,_⟩:=ay
 obtain ⟨⟨(a1:List J.ap),_,(v1:List Int),_⟩,(v2:List ((List UInt8) × Int)),_⟩:=az
 conv=>rhs;simp only [Gf,a6,Up]
 kernel_rfl
noncomputable def QA (F:Nat) (k:Nat) (fz:List J.ap) (ho:Int × J.bj) (hp:Int × J.bj) (tK:List (List J.Target)) (tL:List (List (List UInt8))) (tM:List (List J.Field)) (oL:Int) (dg:Int) (al:List J.ap) (aV:List Int) (bS:List (List J.Field)) (dw:List (List (List UInt8))) (gR:List (List J.Target)) (B7:List J.ap) (B8:List Int):=c9 ((fz.length:Int)=dg/\([]:List J.ap)=al/\([]:List Int)=aV/\([]:List (List J.Field))=bS/\([]:List (List (List UInt8)))=dw/\([]:List (List J.Target))=gR/\(fz:List J.ap)=B7/\(hp.2.dj:List Int)=B8/\True) (a' (mJ F fz ho hp k tK tL tM oL))
theorem Uk (F:Nat) (k:Nat) (fz:List J.ap) (ho:Int × J.bj) (hp:Int × J.bj) (tK:List (List J.Target)) (tL:List (List (List UInt8))) (tM:List (List J.Field)) (oL:Int):a' (mJ F fz ho hp k tK tL tM oL)=QA F k fz (0,(⟨[],ho.2.b2,[]⟩:J.bj)) (0,(⟨[],[],hp.2.dj⟩:J.bj)) tK tL tM oL (fz.length:Int) [] [] [] [] [] fz hp.2.dj:=(show a' (mJ F fz ho hp k tK tL tM oL)=a' (mJ F fz (0,(⟨[],ho.2.b2,[]⟩:J.bj)) (0,(⟨[],[],hp.2.dj⟩:J.bj)) k tK tL tM oL) by kernel_rfl).trans (dy ⟨rfl,rfl,rfl,rfl,rfl,rfl,rfl,rfl,trivial⟩).symm
noncomputable def amS (F:Nat):aR aH:=(amR F).bX 46 2 F ⟨[2,5,9,62,63],[.p (.B 0),.p (.B 1),.p (.B 3),.p (.i .i64),.p (.i .i64)],[dL,aec,.m 9 3,aee,.r 124 false,.r 120 false,.r 121 false],
 [⟨⟨.nm,[2,9],[.p (.B 0),.p (.B 3)],[dL,aec,.m 9 3,aee,.r 124 false,.r 120 false,.r 121 false]⟩,(List (List J.Target)) × (List (List (List UInt8))) × (List (List J.Field)),fun d r=>(((),(),()),(d.2.1,(d.2.2.1.1,(),d.2.2.1.2.2.1,()),d.2.2.2.1,(d.2.2.2.2.1.1,d.2.2.2.2.1.2.1,(),(),(),()),r.2.2,r.2.1,r.1,()))⟩,
  ⟨⟨.rt,[2,3],[.p (.B 0),.p (.i .i64)],[dL,.d,.d,.d,.d,.d,.d]⟩,J.aU × Int,fun d r=>(((),r.2,()),((r.1.ba,r.1.a8,r.1.Fields,r.1.Names,r.1.a9,()),(),(),(),(),(),(),()))⟩],
 fun k d=>QA F k d.2.2.1.1 (0,(⟨[],d.2.2.2.1,[]⟩:J.bj)) (0,(⟨[],[],d.2.2.1.2.2.1⟩:J.bj)) d.2.2.2.2.2.2.2.1 d.2.2.2.2.2.2.1 d.2.2.2.2.2.1 d.1.2.2.2.2.1 d.1.2.2.2.1 d.2.1.1 d.2.1.2.1 d.2.1.2.2.1 d.2.1.2.2.2.1 d.2.1.2.2.2.2.1 d.2.2.2.2.1.1 d.2.2.2.2.1.2.1⟩ (bJ.bU (fun d=>dx) fun k ay az q h=>by
 obtain ⟨_,_,_,(a1:Int),(v1:Int),_⟩:=ay
 obtain ⟨⟨(v2:List J.ap),(bu:List Int),(v4:List (List J.Field)),(bZ:List (List (List UInt8))),(v6:List (List J.Target)),_⟩,⟨(cq:List J.ap),_,(cy:List Int),_⟩,(cH:List ((List UInt8) × Int)),⟨(v10:List J.ap),(v11:List Int),_,_,_,_⟩,(df:List (List J.Field)),(dO:List (List (List UInt8))),(ec:List (List J.Target)),_⟩:=az
 obtain ⟨ax,_⟩:=dW h
 dsimp only at ax
 obtain ⟨rfl,rfl,rfl,rfl,rfl,rfl,rfl,rfl,_⟩:=ax
 conv=>rhs;change Option.map (α:=((List (List J.Target)) × (List (List (List UInt8))) × (List (List J.Field))) ⊕ (J.aU × Int)) _ (QA F (k+ 1) cq (0,(⟨[],cH,[]⟩:J.bj)) (0,(⟨[],[],cy⟩:J.bj)) ec dO df v1 (cq.length:Int) ([]) ([]) ([]) ([]) ([]) (cq) ((0,(⟨[],[],cy⟩:J.bj)).2.dj));rw [<-Uk F (k+ 1) cq (0,(⟨[],cH,[]⟩:J.bj)) (0,(⟨[],[],cy⟩:J.bj)) ec dO df v1];simp only [mJ,a6,Uk];simp only [bR]
 kernel_rfl)
noncomputable def amU (F:Nat):aR aH:=(amS F).rt 46 ⟨[.p (.l 134)],[],[gY,.p (.i .i64)],[],J.aU × Int,fun d=>Ad F d.1.1,fun d r=>(((r.1.ba,r.1.a8,r.1.Fields,r.1.Names,r.1.a9,()),r.2,()),())⟩ fun ay az=>by
 obtain ⟨(a1:List J.ap),_⟩:=ay
 conv=>rhs;simp only [Ad,a6,Uk]
 kernel_rfl
noncomputable def Q4 (k:Nat) (bQ:List Int) (b_:List Int) (cV:Int) (al:Int):=c9 ((bQ.length:Int)=al/\True) (a' (xr bQ b_ k cV))
theorem UO (k:Nat) (bQ:List Int) (b_:List Int) (cV:Int):a' (xr bQ b_ k cV)=Q4 k bQ b_ cV (bQ.length:Int):=(dy ⟨rfl,trivial⟩).symm
noncomputable def amV (F:Nat):aR aH:=(amU F).bX 126 0 F ⟨[0,1,12,13],[.p (.l 3),.p (.l 3),.p (.i .i64),.p (.i .i64)],[],
 [⟨⟨.nm,[],[],[]⟩,Unit,fun d r=>((),())⟩,
  ⟨⟨.rt,[4],[.p (.b)],[]⟩,Bool,fun d r=>((r,()),())⟩],
 fun k d=>Q4 k d.1.1 d.1.2.1 d.1.2.2.2.1 d.1.2.2.1⟩ (bJ.bU (fun d=>dx) fun k ay az q h=>by
 obtain ⟨(a1:List Int),(v1:List Int),(v2:Int),(bu:Int),_⟩:=ay
 obtain ⟨ax,_⟩:=dW h
 dsimp only at ax
 obtain ⟨rfl,_⟩:=ax
 conv=>rhs;change Option.map (α:=Unit ⊕ Bool) _ (Q4 (k+ 1) a1 v1 bu (a1.length:Int));rw [<-UO (k+ 1) a1 v1 bu];simp only [xr,a6,UO];simp only [bR]
 kernel_rfl)
noncomputable def amW (F:Nat):aR aH:=(amV F).rt 126 ⟨[.p (.l 3),.p (.l 3)],[],[.p (.b)],[],Bool,fun d=>Hq F d.1.1 d.1.2.1,fun d r=>((r,()),())⟩ fun ay az=>by
 obtain ⟨(a1:List Int),(v1:List Int),_⟩:=ay
 conv=>rhs;simp only [Hq,a6,UO]
 kernel_rfl
noncomputable def Q1 (k:Nat) (bQ:List J.Field) (b_:List J.Field) (cV:Int) (al:Int):=c9 ((bQ.length:Int)=al/\True) (a' (xp bQ b_ k cV))
theorem UL (k:Nat) (bQ:List J.Field) (b_:List J.Field) (cV:Int):a' (xp bQ b_ k cV)=Q1 k bQ b_ cV (bQ.length:Int):=(dy ⟨rfl,trivial⟩).symm
noncomputable def amX (F:Nat):aR aH:=(amW F).bX 128 0 F ⟨[0,1,12,13],[.p (.l 136),.p (.l 136),.p (.i .i64),.p (.i .i64)],[],
 [⟨⟨.nm,[],[],[]⟩,Unit,fun d r=>((),())⟩,
  ⟨⟨.rt,[4],[.p (.b)],[]⟩,Bool,fun d r=>((r,()),())⟩],
 fun k d=>Q1 k d.1.1 d.1.2.1 d.1.2.2.2.1 d.1.2.2.1⟩ (bJ.bU (fun d=>dx) fun k ay az q h=>by
 obtain ⟨(a1:List J.Field),(v1:List J.Field),(v2:Int),(bu:Int),_⟩:=ay
 obtain ⟨ax,_⟩:=dW h
 dsimp only at ax
 obtain ⟨rfl,_⟩:=ax
 conv=>rhs;change Option.map (α:=Unit ⊕ Bool) _ (Q1 (k+ 1) a1 v1 bu (a1.length:Int));rw [<-UL (k+ 1) a1 v1 bu];simp only [xp,a6,UL];simp only [bR]
 kernel_rfl)
noncomputable def amY (F:Nat):aR aH:=(amX F).rt 128 ⟨[.p (.l 136),.p (.l 136)],[],[.p (.b)],[],Bool,fun d=>Hn F d.1.1 d.1.2.1,fun d r=>((r,()),())⟩ fun ay az=>by
 obtain ⟨(a1:List J.Field),(v1:List J.Field),_⟩:=ay
 conv=>rhs;simp only [Hn,a6,UL]
 kernel_rfl
noncomputable def QY (F:Nat) (k:Nat) (bQ:List (List J.Field)) (b_:List (List J.Field)) (gb:Int) (al:Int):=c9 ((bQ.length:Int)=al/\True) (a' (xm F bQ b_ k gb))
theorem UI (F:Nat) (k:Nat) (bQ:List (List J.Field)) (b_:List (List J.Field)) (gb:Int):a' (xm F bQ b_ k gb)=QY F k bQ b_ gb (bQ.length:Int):=(dy ⟨rfl,trivial⟩).symm
noncomputable def amZ (F:Nat):aR aH:=(amY F).bX 127 0 F ⟨[1,2,15,16,17],[.p (.l 124),.f 128 [],.p (.l 124),.p (.i .i64),.p (.i .i64)],[],
 [⟨⟨.nm,[],[],[]⟩,Unit,fun d r=>((),())⟩,
  ⟨⟨.rt,[6],[.p (.b)],[]⟩,Bool,fun d r=>((r,()),())⟩],
 fun k d=>QY F k d.1.2.2.1 d.1.1 d.1.2.2.2.2.1 d.1.2.2.2.1⟩ (bJ.bU (fun d=>dx) fun k ay az q h=>by
 obtain ⟨(a1:List (List J.Field)),_,(v1:List (List J.Field)),(v2:Int),(bu:Int),_⟩:=ay
 obtain ⟨ax,_⟩:=dW h
 dsimp only at ax
 obtain ⟨rfl,_⟩:=ax
 conv=>rhs;change Option.map (α:=Unit ⊕ Bool) _ (QY F (k+ 1) v1 a1 bu (v1.length:Int));rw [<-UI F (k+ 1) v1 a1 bu];simp only [xm,a6,UI];simp only [bR]
 kernel_rfl)
noncomputable def am0 (F:Nat):aR aH:=(amZ F).rt 127 ⟨[.p (.l 124),.p (.l 124),.f 128 []],[],[.p (.b)],[],Bool,fun d=>Hk F d.1.1 d.1.2.1,fun d r=>((r,()),())⟩ fun ay az=>by
 obtain ⟨(a1:List (List J.Field)),(v1:List (List J.Field)),_,_⟩:=ay
 conv=>rhs;simp only [Hk,a6,UI]
 kernel_rfl
noncomputable def Q5 (k:Nat) (bQ:List (List UInt8)) (b_:List (List UInt8)) (cV:Int) (al:Int):=c9 ((bQ.length:Int)=al/\True) (a' (xt bQ b_ k cV))
theorem UP (k:Nat) (bQ:List (List UInt8)) (b_:List (List UInt8)) (cV:Int):a' (xt bQ b_ k cV)=Q5 k bQ b_ cV (bQ.length:Int):=(dy ⟨rfl,trivial⟩).symm
noncomputable def am1 (F:Nat):aR aH:=(am0 F).bX 130 0 F ⟨[0,1,12,13],[.p (.l 9),.p (.l 9),.p (.i .i64),.p (.i .i64)],[],
 [⟨⟨.nm,[],[],[]⟩,Unit,fun d r=>((),())⟩,
  ⟨⟨.rt,[4],[.p (.b)],[]⟩,Bool,fun d r=>((r,()),())⟩],
 fun k d=>Q5 k d.1.1 d.1.2.1 d.1.2.2.2.1 d.1.2.2.1⟩ (bJ.bU (fun d=>dx) fun k ay az q h=>by
 obtain ⟨(a1:List (List UInt8)),(v1:List (List UInt8)),(v2:Int),(bu:Int),_⟩:=ay
 obtain ⟨ax,_⟩:=dW h
 dsimp only at ax
 obtain ⟨rfl,_⟩:=ax
 conv=>rhs;change Option.map (α:=Unit ⊕ Bool) _ (Q5 (k+ 1) a1 v1 bu (a1.length:Int));rw [<-UP (k+ 1) a1 v1 bu];simp only [xt,a6,UP];simp only [bR]
 kernel_rfl)
noncomputable def am2 (F:Nat):aR aH:=(am1 F).rt 130 ⟨[.p (.l 9),.p (.l 9)],[],[.p (.b)],[],Bool,fun d=>Hr F d.1.1 d.1.2.1,fun d r=>((r,()),())⟩ fun ay az=>by
 obtain ⟨(a1:List (List UInt8)),(v1:List (List UInt8)),_⟩:=ay
 conv=>rhs;simp only [Hr,a6,UP]
 kernel_rfl
noncomputable def Q0 (F:Nat) (k:Nat) (bQ:List (List (List UInt8))) (b_:List (List (List UInt8))) (gb:Int) (al:Int):=c9 ((bQ.length:Int)=al/\True) (a' (xo F bQ b_ k gb))
theorem UK (F:Nat) (k:Nat) (bQ:List (List (List UInt8))) (b_:List (List (List UInt8))) (gb:Int):a' (xo F bQ b_ k gb)=Q0 F k bQ b_ gb (bQ.length:Int):=(dy ⟨rfl,trivial⟩).symm
noncomputable def am3 (F:Nat):aR aH:=(am2 F).bX 129 0 F ⟨[1,2,15,16,17],[.p (.l 120),.f 130 [],.p (.l 120),.p (.i .i64),.p (.i .i64)],[],
 [⟨⟨.nm,[],[],[]⟩,Unit,fun d r=>((),())⟩,
  ⟨⟨.rt,[6],[.p (.b)],[]⟩,Bool,fun d r=>((r,()),())⟩],
 fun k d=>Q0 F k d.1.2.2.1 d.1.1 d.1.2.2.2.2.1 d.1.2.2.2.1⟩ (bJ.bU (fun d=>dx) fun k ay az q h=>by
 obtain ⟨(a1:List (List (List UInt8))),_,(v1:List (List (List UInt8))),(v2:Int),(bu:Int),_⟩:=ay
 obtain ⟨ax,_⟩:=dW h
 dsimp only at ax
 obtain ⟨rfl,_⟩:=ax
 conv=>rhs;change Option.map (α:=Unit ⊕ Bool) _ (Q0 F (k+ 1) v1 a1 bu (v1.length:Int));rw [<-UK F (k+ 1) v1 a1 bu];simp only [xo,a6,UK];simp only [bR]
 kernel_rfl)
noncomputable def am5 (F:Nat):aR aH:=(am3 F).rt 129 ⟨[.p (.l 120),.p (.l 120),.f 130 []],[],[.p (.b)],[],Bool,fun d=>Hm F d.1.1 d.1.2.1,fun d r=>((r,()),())⟩ fun ay az=>by
 obtain ⟨(a1:List (List (List UInt8))),(v1:List (List (List UInt8))),_,_⟩:=ay
 conv=>rhs;simp only [Hm,a6,UK]
 kernel_rfl
noncomputable def Q3 (k:Nat) (bQ:List J.Target) (b_:List J.Target) (cV:Int) (al:Int):=c9 ((bQ.length:Int)=al/\True) (a' (xq bQ b_ k cV))
theorem UN (k:Nat) (bQ:List J.Target) (b_:List J.Target) (cV:Int):a' (xq bQ b_ k cV)=Q3 k bQ b_ cV (bQ.length:Int):=(dy ⟨rfl,trivial⟩).symm
noncomputable def am6 (F:Nat):aR aH:=(am5 F).bX 132 0 F ⟨[0,1,12,13],[.p (.l 166),.p (.l 166),.p (.i .i64),.p (.i .i64)],[],
 [⟨⟨.nm,[],[],[]⟩,Unit,fun d r=>((),())⟩,
  ⟨⟨.rt,[4],[.p (.b)],[]⟩,Bool,fun d r=>((r,()),())⟩],
 fun k d=>Q3 k d.1.1 d.1.2.1 d.1.2.2.2.1 d.1.2.2.1⟩ (bJ.bU (fun d=>dx) fun k ay az q h=>by
 obtain ⟨(a1:List J.Target),(v1:List J.Target),(v2:Int),(bu:Int),_⟩:=ay
 obtain ⟨ax,_⟩:=dW h
 dsimp only at ax
 obtain ⟨rfl,_⟩:=ax
 conv=>rhs;change Option.map (α:=Unit ⊕ Bool) _ (Q3 (k+ 1) a1 v1 bu (a1.length:Int));rw [<-UN (k+ 1) a1 v1 bu];simp only [xq,a6,UN];simp only [bR]
 kernel_rfl)
noncomputable def am7 (F:Nat):aR aH:=(am6 F).rt 132 ⟨[.p (.l 166),.p (.l 166)],[],[.p (.b)],[],Bool,fun d=>Hp F d.1.1 d.1.2.1,fun d r=>((r,()),())⟩ fun ay az=>by
 obtain ⟨(a1:List J.Target),(v1:List J.Target),_⟩:=ay
 conv=>rhs;simp only [Hp,a6,UN]
 kernel_rfl
noncomputable def QZ (F:Nat) (k:Nat) (bQ:List (List J.Target)) (b_:List (List J.Target)) (gb:Int) (al:Int):=c9 ((bQ.length:Int)=al/\True) (a' (xn F bQ b_ k gb))
theorem UJ (F:Nat) (k:Nat) (bQ:List (List J.Target)) (b_:List (List J.Target)) (gb:Int):a' (xn F bQ b_ k gb)=QZ F k bQ b_ gb (bQ.length:Int):=(dy ⟨rfl,trivial⟩).symm
noncomputable def am8 (F:Nat):aR aH:=(am7 F).bX 131 0 F ⟨[1,2,15,16,17],[.p (.l 121),.f 132 [],.p (.l 121),.p (.i .i64),.p (.i .i64)],[],
 [⟨⟨.nm,[],[],[]⟩,Unit,fun d r=>((),())⟩,
  ⟨⟨.rt,[6],[.p (.b)],[]⟩,Bool,fun d r=>((r,()),())⟩],
 fun k d=>QZ F k d.1.2.2.1 d.1.1 d.1.2.2.2.2.1 d.1.2.2.2.1⟩ (bJ.bU (fun d=>dx) fun k ay az q h=>by
 obtain ⟨(a1:List (List J.Target)),_,(v1:List (List J.Target)),(v2:Int),(bu:Int),_⟩:=ay
 obtain ⟨ax,_⟩:=dW h
 dsimp only at ax
 obtain ⟨rfl,_⟩:=ax
 conv=>rhs;change Option.map (α:=Unit ⊕ Bool) _ (QZ F (k+ 1) v1 a1 bu (v1.length:Int));rw [<-UJ F (k+ 1) v1 a1 bu];simp only [xn,a6,UJ];simp only [bR]
 kernel_rfl)
noncomputable def am9 (F:Nat):aR aH:=(am8 F).rt 131 ⟨[.p (.l 121),.p (.l 121),.f 132 []],[],[.p (.b)],[],Bool,fun d=>Hl F d.1.1 d.1.2.1,fun d r=>((r,()),())⟩ fun ay az=>by
 obtain ⟨(a1:List (List J.Target)),(v1:List (List J.Target)),_,_⟩:=ay
 conv=>rhs;simp only [Hl,a6,UJ]
 kernel_rfl
noncomputable def am_ (F:Nat):aR aH:=(am9 F).rt 100 ⟨[gY,gY],[],[.p (.b)],[],Bool,fun d=>CS F (e2 d.1.1) (e2 d.1.2.1),fun d r=>((r,()),())⟩ fun ay az=>by
 conv=>rhs;simp only [CS,a6]
 kernel_rfl
noncomputable def am' (F:Nat):aR aH:=(am_ F).rt 64 ⟨[gY],[],[.p (.i .i64)],[],Int,fun d=>nC F (e2 d.1.1),fun d r=>((r,()),())⟩ fun ay az=>by
 conv=>rhs;simp only [nC,a6]
 kernel_rfl
noncomputable def ana (F:Nat):aR aH:=(am' F).rt 84 ⟨[.p (.i .i64),.p (.i .i64),.p (.i .i64)],[],[.p (.b)],[],Bool,fun d=>np d.1.1 d.1.2.1 d.1.2.2.1,fun d r=>((r,()),())⟩ fun ay az=>by
 conv=>rhs;simp only [np,a6]
 kernel_rfl
noncomputable def anb (F:Nat):aR aH:=(ana F).rt 101 ⟨[iv],[],[.p (.i .i64)],[],Int,fun d=>Cw (dN d.1.1),fun d r=>((r,()),())⟩ fun ay az=>by
 conv=>rhs;simp only [Cw,a6]
 kernel_rfl
noncomputable def anc (F:Nat):aR aH:=(anb F).rt 92 ⟨[gY,.p (.i .i64)],[],[.p (.b)],[],Bool,fun d=>tg (gA d.1.1) d.1.2.1,fun d r=>((r,()),())⟩ fun ay az=>by
 conv=>rhs;simp only [tg,a6]
 kernel_rfl
noncomputable def anf (F:Nat):aR aH:=(anc F).rt 93 ⟨[gY,.p (.i .i64),.p (.i .i64)],[],[.p (.b)],[],Bool,fun d=>th (gA d.1.1) d.1.2.1 d.1.2.2.1,fun d r=>((r,()),())⟩ fun ay az=>by
 conv=>rhs;simp only [th,a6]
 kernel_rfl
noncomputable def Qu (k:Nat) (jg:Int) (aG:J.bd) (tO:List Int) (oI:List (Int × Bool)) (lR:Int):=c9 (True) (a' (nn jg aG k tO oI lR))
theorem Ud (k:Nat) (jg:Int) (aG:J.bd) (tO:List Int) (oI:List (Int × Bool)) (lR:Int):a' (nn jg aG k tO oI lR)=Qu k jg (⟨(⟨aG.H.Words,aG.H.aL,aG.H.aW,aG.H.a5,aG.H.a2,aG.H.aZ,aG.H.Next⟩:J.aY),(⟨(⟨aG.S.K.ba,aG.S.K.a8,aG.S.K.Fields,aG.S.K.Names,aG.S.K.a9⟩:J.aU)⟩:J.b'),aG.aL,aG.aW,[]⟩:J.bd) tO oI lR:=(show a' (nn jg aG k tO oI lR)=a' (nn jg (⟨(⟨aG.H.Words,aG.H.aL,aG.H.aW,aG.H.a5,aG.H.a2,aG.H.aZ,aG.H.Next⟩:J.aY),(⟨(⟨aG.S.K.ba,aG.S.K.a8,aG.S.K.Fields,aG.S.K.Names,aG.S.K.a9⟩:J.aU)⟩:J.b'),aG.aL,aG.aW,[]⟩:J.bd) k tO oI lR) by kernel_rfl).trans (dy trivial).symm
noncomputable def ang (F:Nat):aR aH:=(anf F).bX 102 0 F ⟨[0,2,8,9],[.p (.B 0),.p (.i .i64),.p (.R 2),.p (.i .i64)],[fo,.m 3 4,.r 3 false],
 [⟨⟨.nm,[8],[.p (.R 2)],[fo,.m 3 4,.r 3 false]⟩,(List Int) × (List (Int × Bool)),fun d r=>(((),()),((d.2.1.1,d.2.1.2.1,d.2.1.2.2.1,d.2.1.2.2.2.1,d.2.1.2.2.2.2.1,d.2.1.2.2.2.2.2.1,d.2.1.2.2.2.2.2.2.1,d.2.1.2.2.2.2.2.2.2.1,d.2.1.2.2.2.2.2.2.2.2.1,d.2.1.2.2.2.2.2.2.2.2.2.1,d.2.1.2.2.2.2.2.2.2.2.2.2.1,d.2.1.2.2.2.2.2.2.2.2.2.2.2.1,d.2.1.2.2.2.2.2.2.2.2.2.2.2.2.1,d.2.1.2.2.2.2.2.2.2.2.2.2.2.2.2.1,(),()),r.2,r.1,()))⟩,
  ⟨⟨.rt,[6,7],[.p (.l 3),.p (.b)],[fo,.m 3 4,.d]⟩,(List Int) × Bool × J.bd,fun d r=>((r.1,r.2.1,()),((d.2.1.1,d.2.1.2.1,d.2.1.2.2.1,d.2.1.2.2.2.1,d.2.1.2.2.2.2.1,d.2.1.2.2.2.2.2.1,d.2.1.2.2.2.2.2.2.1,d.2.1.2.2.2.2.2.2.2.1,d.2.1.2.2.2.2.2.2.2.2.1,d.2.1.2.2.2.2.2.2.2.2.2.1,d.2.1.2.2.2.2.2.2.2.2.2.2.1,d.2.1.2.2.2.2.2.2.2.2.2.2.2.1,d.2.1.2.2.2.2.2.2.2.2.2.2.2.2.1,d.2.1.2.2.2.2.2.2.2.2.2.2.2.2.2.1,(),()),r.2.2.dE,(),()))⟩],
 fun k d=>Qu k d.1.2.1 (⟨(dN d.2.1),(gA d.2.1.2.2.2.2.2.2.2),d.2.1.2.2.2.2.2.2.2.2.2.2.2.2.1,d.2.1.2.2.2.2.2.2.2.2.2.2.2.2.2.1,[]⟩:J.bd) d.2.2.2.1 d.2.2.1 d.1.2.2.2.1⟩ (bJ.bU (fun d=>dx) fun k ay az q h=>by
 obtain ⟨_,(a1:Int),_,(v1:Int),_⟩:=ay
 obtain ⟨⟨(v2:List Int),(bu:Int),(v4:Int),(bZ:Int),(v6:Int),(cq:List Int),(cy:Int),(cH:List J.ap),(v10:List Int),(v11:List (List J.Field)),(df:List (List (List UInt8))),(dO:List (List J.Target)),(ec:List Int),(fs:List Int),_,_⟩,(fT:List (Int × Bool)),(g3:List Int),_⟩:=az
 conv=>rhs;change Option.map (α:=((List Int) × (List (Int × Bool))) ⊕ ((List Int) × Bool × J.bd)) _ (Qu (k+ 1) a1 (⟨(⟨v2,bu,v4,bZ,v6,cq,cy⟩:J.aY),(⟨(⟨cH,v10,v11,df,dO⟩:J.aU)⟩:J.b'),ec,fs,[]⟩:J.bd) g3 fT v1);rw [<-Ud (k+ 1) a1 (⟨(⟨v2,bu,v4,bZ,v6,cq,cy⟩:J.aY),(⟨(⟨cH,v10,v11,df,dO⟩:J.aU)⟩:J.b'),ec,fs,[]⟩:J.bd) g3 fT v1];simp only [nn,a6,Ud];simp only [bR]
 kernel_rfl)
noncomputable def anh (F:Nat):aR aH:=(ang F).rt 102 ⟨[.p (.B 0),.p (.i .i64),.p (.i .i64)],[fo,.m 3 4],[.p (.l 3),.p (.b)],[fo,.m 3 4],(List Int) × Bool × J.bd,fun d=>lG F (⟨(dN d.2.1),(gA d.2.1.2.2.2.2.2.2.2),d.2.1.2.2.2.2.2.2.2.2.2.2.2.2.1,d.2.1.2.2.2.2.2.2.2.2.2.2.2.2.2.1,d.2.2.1⟩:J.bd) d.1.2.1 d.1.2.2.1,fun d r=>((r.1,r.2.1,()),((d.2.1.1,d.2.1.2.1,d.2.1.2.2.1,d.2.1.2.2.2.1,d.2.1.2.2.2.2.1,d.2.1.2.2.2.2.2.1,d.2.1.2.2.2.2.2.2.1,d.2.1.2.2.2.2.2.2.2.1,d.2.1.2.2.2.2.2.2.2.2.1,d.2.1.2.2.2.2.2.2.2.2.2.1,d.2.1.2.2.2.2.2.2.2.2.2.2.1,d.2.1.2.2.2.2.2.2.2.2.2.2.2.1,d.2.1.2.2.2.2.2.2.2.2.2.2.2.2.1,d.2.1.2.2.2.2.2.2.2.2.2.2.2.2.2.1,(),()),r.2.2.dE,()))⟩ fun ay az=>by
 obtain ⟨_,(a1:Int),(v1:Int),_⟩:=ay
 obtain ⟨⟨(v2:List Int),(bu:Int),(v4:Int),(bZ:Int),(v6:Int),(cq:List Int),(cy:Int),(cH:List J.ap),(v10:List Int),(v11:List (List J.Field)),(df:List (List (List UInt8))),(dO:List (List J.Target)),(ec:List Int),(fs:List Int),_,_⟩,(fT:List (Int × Bool)),_⟩:=az
 conv=>rhs;simp only [lG,a6,Ud]
 kernel_rfl
noncomputable def QW (k:Nat) (g0:List (List Int)) (wN:Int) (wO:Int) (al:List (List Int)) (aV:Int):=c9 ((g0:List (List Int))=al/\(g0.length:Int)=aV/\True) (uB g0 k wN wO)
theorem UG (k:Nat) (g0:List (List Int)) (wN:Int) (wO:Int):uB g0 k wN wO=QW k g0 wN wO g0 (g0.length:Int):=(dy ⟨rfl,rfl,trivial⟩).symm
noncomputable def ani (F:Nat):aR aH:=(anh F).bX 135 0 F ⟨[0,3,9,10,11],[.p (.l 22),.p (.i .i64),.p (.l 22),.p (.i .i64),.p (.i .i64)],[],
 [⟨⟨.nm,[0,3],[.p (.l 22),.p (.i .i64)],[]⟩,Int,fun d r=>((d.1.1,r,()),())⟩],
 fun k d=>QW k d.1.1 d.1.2.1 d.1.2.2.2.2.1 d.1.2.2.1 d.1.2.2.2.1⟩ (bJ.bU (fun d=>dx) fun k ay az q h=>by
 obtain ⟨(a1:List (List Int)),(v1:Int),(v2:List (List Int)),(bu:Int),(v4:Int),_⟩:=ay
 obtain ⟨ax,_⟩:=dW h
 dsimp only at ax
 obtain ⟨rfl,rfl,_⟩:=ax
 conv=>rhs;change Option.map (α:=Int) _ (QW (k+ 1) a1 v1 v4 (a1) (a1.length:Int));rw [<-UG (k+ 1) a1 v1 v4];simp only [uB,a6,UG];simp only [bR]
 kernel_rfl)
noncomputable def QX (k:Nat) (g0:List (List Int)) (z7:List Int) (wR:Int) (ak:Int):=c9 ((g0.length:Int)=ak/\True) (uC g0 k z7 wR)
theorem UH (k:Nat) (g0:List (List Int)) (z7:List Int) (wR:Int):uC g0 k z7 wR=QX k g0 z7 wR (g0.length:Int):=(dy ⟨rfl,trivial⟩).symm
noncomputable def anj (F:Nat):aR aH:=(ani F).bX 135 2 F ⟨[6,25,26,27],[.p (.R 0),.p (.l 22),.p (.i .i64),.p (.i .i64)],[.r 3 false],
 [⟨⟨.nm,[6],[.p (.R 0)],[.r 3 false]⟩,List Int,fun d r=>(((),()),(r,()))⟩],
 fun k d=>QX k d.1.2.1 d.2.1 d.1.2.2.2.1 d.1.2.2.1⟩ (bJ.bU (fun d=>dx) fun k ay az q h=>by
 obtain ⟨_,(a1:List (List Int)),(v1:Int),(v2:Int),_⟩:=ay
 obtain ⟨(bu:List Int),_⟩:=az
 obtain ⟨ax,_⟩:=dW h
 dsimp only at ax
 obtain ⟨rfl,_⟩:=ax
 conv=>rhs;change Option.map (α:=List Int) _ (QX (k+ 1) a1 bu v2 (a1.length:Int));rw [<-UH (k+ 1) a1 bu v2];simp only [uC,a6,UH];simp only [bR]
 kernel_rfl)
noncomputable def ank (F:Nat):aR aH:=(anj F).rt 135 ⟨[.p (.l 22)],[],[.p (.l 3)],[],List Int,fun d=>Du F d.1.1,fun d r=>((r,()),())⟩ fun ay az=>by
 obtain ⟨(a1:List (List Int)),_⟩:=ay
 conv=>rhs;simp only [Du,a6,UG,UH,Mr]
 kernel_rfl
noncomputable def anl (F:Nat):aR aH:=(ank F).rt 133 ⟨[.p (.B 0)],[fo,.m 3 4],[.p (.l 3)],[fo,.m 3 4],List Int,fun d=>v' F (⟨(dN d.2.1),(gA d.2.1.2.2.2.2.2.2.2),d.2.1.2.2.2.2.2.2.2.2.2.2.2.2.1,d.2.1.2.2.2.2.2.2.2.2.2.2.2.2.2.1,d.2.2.1⟩:J.bd),fun d r=>((r,()),((d.2.1.1,d.2.1.2.1,d.2.1.2.2.1,d.2.1.2.2.2.1,d.2.1.2.2.2.2.1,d.2.1.2.2.2.2.2.1,d.2.1.2.2.2.2.2.2.1,d.2.1.2.2.2.2.2.2.2.1,d.2.1.2.2.2.2.2.2.2.2.1,d.2.1.2.2.2.2.2.2.2.2.2.1,d.2.1.2.2.2.2.2.2.2.2.2.2.1,d.2.1.2.2.2.2.2.2.2.2.2.2.2.1,d.2.1.2.2.2.2.2.2.2.2.2.2.2.2.1,d.2.1.2.2.2.2.2.2.2.2.2.2.2.2.2.1,(),()),d.2.2.1,()))⟩ fun ay az=>by
 conv=>rhs;simp only [v',a6]
 kernel_rfl
noncomputable def Qr (k:Nat) (aG:J.bd) (gZ:List Int) (Ai:List (Int × Bool)) (w6:Int) (ak:Int):=c9 ((gZ.length:Int)=ak/\True) (a' (tm aG gZ k Ai w6))
theorem Ua (k:Nat) (aG:J.bd) (gZ:List Int) (Ai:List (Int × Bool)) (w6:Int):a' (tm aG gZ k Ai w6)=Qr k aG gZ Ai w6 (gZ.length:Int):=(dy ⟨rfl,trivial⟩).symm
noncomputable def anm (F:Nat):aR aH:=(anl F).bX 103 0 F ⟨[0,3,9,10,11],[.p (.B 0),.p (.M 2),.p (.l 3),.p (.i .i64),.p (.i .i64)],[fo,.m 3 4,.m 3 4],
 [⟨⟨.nm,[0,3],[.p (.B 0),.p (.M 2)],[fo,.m 3 4,.m 3 4]⟩,List (Int × Bool),fun d r=>(((),(),()),((d.2.1.1,d.2.1.2.1,d.2.1.2.2.1,d.2.1.2.2.2.1,d.2.1.2.2.2.2.1,d.2.1.2.2.2.2.2.1,d.2.1.2.2.2.2.2.2.1,d.2.1.2.2.2.2.2.2.2.1,d.2.1.2.2.2.2.2.2.2.2.1,d.2.1.2.2.2.2.2.2.2.2.2.1,d.2.1.2.2.2.2.2.2.2.2.2.2.1,d.2.1.2.2.2.2.2.2.2.2.2.2.2.1,d.2.1.2.2.2.2.2.2.2.2.2.2.2.2.1,d.2.1.2.2.2.2.2.2.2.2.2.2.2.2.2.1,(),()),d.2.2.1,r,()))⟩,
  ⟨⟨.rt,[2],[.p (.i .i64)],[fo,.m 3 4,.d]⟩,Int,fun d r=>((r,()),((d.2.1.1,d.2.1.2.1,d.2.1.2.2.1,d.2.1.2.2.2.1,d.2.1.2.2.2.2.1,d.2.1.2.2.2.2.2.1,d.2.1.2.2.2.2.2.2.1,d.2.1.2.2.2.2.2.2.2.1,d.2.1.2.2.2.2.2.2.2.2.1,d.2.1.2.2.2.2.2.2.2.2.2.1,d.2.1.2.2.2.2.2.2.2.2.2.2.1,d.2.1.2.2.2.2.2.2.2.2.2.2.2.1,d.2.1.2.2.2.2.2.2.2.2.2.2.2.2.1,d.2.1.2.2.2.2.2.2.2.2.2.2.2.2.2.1,(),()),d.2.2.1,(),()))⟩],
 fun k d=>Qr k (⟨(dN d.2.1),(gA d.2.1.2.2.2.2.2.2.2),d.2.1.2.2.2.2.2.2.2.2.2.2.2.2.1,d.2.1.2.2.2.2.2.2.2.2.2.2.2.2.2.1,d.2.2.1⟩:J.bd) d.1.2.2.1 d.2.2.2.1 d.1.2.2.2.2.1 d.1.2.2.2.1⟩ (bJ.bU (fun d=>dx) fun k ay az q h=>by
 obtain ⟨_,_,(a1:List Int),(v1:Int),(v2:Int),_⟩:=ay
 obtain ⟨⟨(bu:List Int),(v4:Int),(bZ:Int),(v6:Int),(cq:Int),(cy:List Int),(cH:Int),(v10:List J.ap),(v11:List Int),(df:List (List J.Field)),(dO:List (List (List UInt8))),(ec:List (List J.Target)),(fs:List Int),(fT:List Int),_,_⟩,(g3:List (Int × Bool)),(lW:List (Int × Bool)),_⟩:=az
 obtain ⟨ax,_⟩:=dW h
 dsimp only at ax
 obtain ⟨rfl,_⟩:=ax
 conv=>rhs;change Option.map (α:=(List (Int × Bool)) ⊕ Int) _ (Qr (k+ 1) (⟨(⟨bu,v4,bZ,v6,cq,cy,cH⟩:J.aY),(⟨(⟨v10,v11,df,dO,ec⟩:J.aU)⟩:J.b'),fs,fT,g3⟩:J.bd) a1 lW v2 (a1.length:Int));rw [<-Ua (k+ 1) (⟨(⟨bu,v4,bZ,v6,cq,cy,cH⟩:J.aY),(⟨(⟨v10,v11,df,dO,ec⟩:J.aU)⟩:J.b'),fs,fT,g3⟩:J.bd) a1 lW v2];simp only [tm,a6,Ua];simp only [bR]
 kernel_rfl)
noncomputable def ann (F:Nat):aR aH:=(anm F).rt 103 ⟨[.p (.B 0)],[fo,.m 3 4],[.p (.i .i64)],[fo,.m 3 4],Int,fun d=>Ct F (⟨(dN d.2.1),(gA d.2.1.2.2.2.2.2.2.2),d.2.1.2.2.2.2.2.2.2.2.2.2.2.2.1,d.2.1.2.2.2.2.2.2.2.2.2.2.2.2.2.1,d.2.2.1⟩:J.bd),fun d r=>((r,()),((d.2.1.1,d.2.1.2.1,d.2.1.2.2.1,d.2.1.2.2.2.1,d.2.1.2.2.2.2.1,d.2.1.2.2.2.2.2.1,d.2.1.2.2.2.2.2.2.1,d.2.1.2.2.2.2.2.2.2.1,d.2.1.2.2.2.2.2.2.2.2.1,d.2.1.2.2.2.2.2.2.2.2.2.1,d.2.1.2.2.2.2.2.2.2.2.2.2.1,d.2.1.2.2.2.2.2.2.2.2.2.2.2.1,d.2.1.2.2.2.2.2.2.2.2.2.2.2.2.1,d.2.1.2.2.2.2.2.2.2.2.2.2.2.2.2.1,(),()),d.2.2.1,()))⟩ fun ay az=>by
 obtain ⟨_,_⟩:=ay
 obtain ⟨⟨(a1:List Int),(v1:Int),(v2:Int),(bu:Int),(v4:Int),(bZ:List Int),(v6:Int),(cq:List J.ap),(cy:List Int),(cH:List (List J.Field)),(v10:List (List (List UInt8))),(v11:List (List J.Target)),(df:List Int),(dO:List Int),_,_⟩,(ec:List (Int × Bool)),_⟩:=az
 conv=>rhs;simp only [Ct,a6,Ua]
 kernel_rfl
noncomputable def ano (F:Nat):aR aH:=(ann F).rt 99 ⟨[gY,.p (.i .i64),.p (.i .i64)],[],[.p (.b)],[],Bool,fun d=>tj (gA d.1.1) d.1.2.1 d.1.2.2.1,fun d r=>((r,()),())⟩ fun ay az=>by
 conv=>rhs;simp only [tj,a6]
 kernel_rfl
noncomputable def anq (F:Nat):aR aH:=(ano F).bX 134 0 F ⟨[0,1,5,15,16],[.p (.B 0),.p (.i .i64),.p (.R 2),.p (.i .i64),.p (.i .i64)],[fo,.m 3 4,.r 3 false],
 [⟨⟨.nm,[5],[.p (.R 2)],[fo,.m 3 4,.r 3 false]⟩,List Int,fun d r=>(((),()),((d.2.1.1,d.2.1.2.1,d.2.1.2.2.1,d.2.1.2.2.2.1,d.2.1.2.2.2.2.1,d.2.1.2.2.2.2.2.1,d.2.1.2.2.2.2.2.2.1,d.2.1.2.2.2.2.2.2.2.1,d.2.1.2.2.2.2.2.2.2.2.1,d.2.1.2.2.2.2.2.2.2.2.2.1,d.2.1.2.2.2.2.2.2.2.2.2.2.1,d.2.1.2.2.2.2.2.2.2.2.2.2.2.1,d.2.1.2.2.2.2.2.2.2.2.2.2.2.2.1,d.2.1.2.2.2.2.2.2.2.2.2.2.2.2.2.1,(),()),d.2.2.1,r,()))⟩],
 fun k d=>tl d.1.2.1 (⟨(dN d.2.1),(gA d.2.1.2.2.2.2.2.2.2),d.2.1.2.2.2.2.2.2.2.2.2.2.2.2.1,d.2.1.2.2.2.2.2.2.2.2.2.2.2.2.2.1,d.2.2.1⟩:J.bd) d.1.2.2.2.1 k d.2.2.2.1 d.1.2.2.2.2.1⟩ (bJ.bU (fun d=>rfl) fun k ay az q h=>by
 conv=>rhs;simp only [tl,a6];simp only [bR]
 kernel_rfl)
noncomputable def anr (F:Nat):aR aH:=(anq F).rt 134 ⟨[.p (.B 0),.p (.i .i64)],[fo,.m 3 4],[.p (.l 3)],[fo,.m 3 4],List Int,fun d=>ou F (⟨(dN d.2.1),(gA d.2.1.2.2.2.2.2.2.2),d.2.1.2.2.2.2.2.2.2.2.2.2.2.2.1,d.2.1.2.2.2.2.2.2.2.2.2.2.2.2.2.1,d.2.2.1⟩:J.bd) d.1.2.1,fun d r=>((r,()),((d.2.1.1,d.2.1.2.1,d.2.1.2.2.1,d.2.1.2.2.2.1,d.2.1.2.2.2.2.1,d.2.1.2.2.2.2.2.1,d.2.1.2.2.2.2.2.2.1,d.2.1.2.2.2.2.2.2.2.1,d.2.1.2.2.2.2.2.2.2.2.1,d.2.1.2.2.2.2.2.2.2.2.2.1,d.2.1.2.2.2.2.2.2.2.2.2.2.1,d.2.1.2.2.2.2.2.2.2.2.2.2.2.1,d.2.1.2.2.2.2.2.2.2.2.2.2.2.2.1,d.2.1.2.2.2.2.2.2.2.2.2.2.2.2.2.1,(),()),d.2.2.1,()))⟩ fun ay az=>by
 conv=>rhs;simp only [ou,a6]
 kernel_rfl
noncomputable def ans (F:Nat):aR aH:=(anr F).rt 136 ⟨[.p (.i .i64)],[],[.p (.b)],[],Bool,fun d=>Ru d.1.1,fun d r=>((r,()),())⟩ fun ay az=>by
 conv=>rhs;simp only [Ru,a6]
 kernel_rfl
noncomputable def ant (F:Nat):aR aH:=(ans F).rt 137 ⟨[.p (.B 0),.p (.i .i64)],[fo,.m 3 4],[.p (.b)],[fo,.m 3 4],Bool,fun d=>Cs (⟨(dN d.2.1),(gA d.2.1.2.2.2.2.2.2.2),d.2.1.2.2.2.2.2.2.2.2.2.2.2.2.1,d.2.1.2.2.2.2.2.2.2.2.2.2.2.2.2.1,d.2.2.1⟩:J.bd) d.1.2.1,fun d r=>((r,()),((d.2.1.1,d.2.1.2.1,d.2.1.2.2.1,d.2.1.2.2.2.1,d.2.1.2.2.2.2.1,d.2.1.2.2.2.2.2.1,d.2.1.2.2.2.2.2.2.1,d.2.1.2.2.2.2.2.2.2.1,d.2.1.2.2.2.2.2.2.2.2.1,d.2.1.2.2.2.2.2.2.2.2.2.1,d.2.1.2.2.2.2.2.2.2.2.2.2.1,d.2.1.2.2.2.2.2.2.2.2.2.2.2.1,d.2.1.2.2.2.2.2.2.2.2.2.2.2.2.1,d.2.1.2.2.2.2.2.2.2.2.2.2.2.2.2.1,(),()),d.2.2.1,()))⟩ fun ay az=>by
 conv=>rhs;simp only [Cs,a6]
 kernel_rfl
noncomputable def anu (F:Nat):aR aH:=(ant F).rt 139 ⟨[.p (.i .i64),.p (.B 0)],[.c 60 [.B 1],hG,.m 3 4],[.p (.b)],[.c 60 [.B 1],hG,.m 3 4],Bool,fun d=>Km d.1.1 (⟨(dN d.2.2.1),(gA d.2.2.1.2.2.2.2.2.2.2),d.2.2.1.2.2.2.2.2.2.2.2.2.2.2.2.1,d.2.2.1.2.2.2.2.2.2.2.2.2.2.2.2.2.1,d.2.2.2.1⟩:J.bd),fun d r=>((r,()),(((),()),(d.2.2.1.1,d.2.2.1.2.1,d.2.2.1.2.2.1,d.2.2.1.2.2.2.1,d.2.2.1.2.2.2.2.1,d.2.2.1.2.2.2.2.2.1,d.2.2.1.2.2.2.2.2.2.1,d.2.2.1.2.2.2.2.2.2.2.1,d.2.2.1.2.2.2.2.2.2.2.2.1,d.2.2.1.2.2.2.2.2.2.2.2.2.1,d.2.2.1.2.2.2.2.2.2.2.2.2.2.1,d.2.2.1.2.2.2.2.2.2.2.2.2.2.2.1,d.2.2.1.2.2.2.2.2.2.2.2.2.2.2.2.1,d.2.2.1.2.2.2.2.2.2.2.2.2.2.2.2.2.1,(),()),d.2.2.2.1,()))⟩ fun ay az=>by
 conv=>rhs;simp only [Km,a6]
 kernel_rfl
noncomputable def anv (F:Nat):aR aH:=(anu F).rt 68 ⟨[.p (.B 0),.p (.i .i64)],[fo,.m 3 4],[.p (.b)],[fo,.m 3 4],Bool,fun d=>Cr (⟨(dN d.2.1),(gA d.2.1.2.2.2.2.2.2.2),d.2.1.2.2.2.2.2.2.2.2.2.2.2.2.1,d.2.1.2.2.2.2.2.2.2.2.2.2.2.2.2.1,d.2.2.1⟩:J.bd) d.1.2.1,fun d r=>((r,()),((d.2.1.1,d.2.1.2.1,d.2.1.2.2.1,d.2.1.2.2.2.1,d.2.1.2.2.2.2.1,d.2.1.2.2.2.2.2.1,d.2.1.2.2.2.2.2.2.1,d.2.1.2.2.2.2.2.2.2.1,d.2.1.2.2.2.2.2.2.2.2.1,d.2.1.2.2.2.2.2.2.2.2.2.1,d.2.1.2.2.2.2.2.2.2.2.2.2.1,d.2.1.2.2.2.2.2.2.2.2.2.2.2.1,d.2.1.2.2.2.2.2.2.2.2.2.2.2.2.1,d.2.1.2.2.2.2.2.2.2.2.2.2.2.2.2.1,(),()),d.2.2.1,()))⟩ fun ay az=>by
 conv=>rhs;simp only [Cr,a6]
 kernel_rfl
noncomputable def anw (F:Nat):aR aH:=(anv F).rt 67 ⟨[.p (.i .i64),.p (.B 0)],[.c 60 [.B 1],hG,.m 3 4],[.p (.b)],[.c 60 [.B 1],hG,.m 3 4],Bool,fun d=>NS d.1.1 (⟨(dN d.2.2.1),(gA d.2.2.1.2.2.2.2.2.2.2),d.2.2.1.2.2.2.2.2.2.2.2.2.2.2.2.1,d.2.2.1.2.2.2.2.2.2.2.2.2.2.2.2.2.1,d.2.2.2.1⟩:J.bd),fun d r=>((r,()),(((),()),(d.2.2.1.1,d.2.2.1.2.1,d.2.2.1.2.2.1,d.2.2.1.2.2.2.1,d.2.2.1.2.2.2.2.1,d.2.2.1.2.2.2.2.2.1,d.2.2.1.2.2.2.2.2.2.1,d.2.2.1.2.2.2.2.2.2.2.1,d.2.2.1.2.2.2.2.2.2.2.2.1,d.2.2.1.2.2.2.2.2.2.2.2.2.1,d.2.2.1.2.2.2.2.2.2.2.2.2.2.1,d.2.2.1.2.2.2.2.2.2.2.2.2.2.2.1,d.2.2.1.2.2.2.2.2.2.2.2.2.2.2.2.1,d.2.2.1.2.2.2.2.2.2.2.2.2.2.2.2.2.1,(),()),d.2.2.2.1,()))⟩ fun ay az=>by
 conv=>rhs;simp only [NS,a6]
 kernel_rfl
noncomputable def Q7 (k:Nat) (s_:List Int) (uq:Int) (ak:Int):=c9 ((s_.length:Int)=ak/\True) (a' (xv s_ k uq))
theorem UR (k:Nat) (s_:List Int) (uq:Int):a' (xv s_ k uq)=Q7 k s_ uq (s_.length:Int):=(dy ⟨rfl,trivial⟩).symm
noncomputable def anx (F:Nat):aR aH:=(anw F).bX 106 0 F ⟨[0,1,7,8],[.p (.l 3),.f 136 [],.p (.i .i64),.p (.i .i64)],[],
 [⟨⟨.nm,[],[],[]⟩,Unit,fun d r=>((),())⟩,
  ⟨⟨.rt,[4],[.p (.i .i64)],[]⟩,Int,fun d r=>((r,()),())⟩],
 fun k d=>Q7 k d.1.1 d.1.2.2.2.1 d.1.2.2.1⟩ (bJ.bU (fun d=>dx) fun k ay az q h=>by
 obtain ⟨(a1:List Int),_,(v1:Int),(v2:Int),_⟩:=ay
 obtain ⟨ax,_⟩:=dW h
 dsimp only at ax
 obtain ⟨rfl,_⟩:=ax
 conv=>rhs;change Option.map (α:=Unit ⊕ Int) _ (Q7 (k+ 1) a1 v2 (a1.length:Int));rw [<-UR (k+ 1) a1 v2];simp only [xv,a6,UR];simp only [bR]
 kernel_rfl)
noncomputable def anz (F:Nat):aR aH:=(anx F).rt 106 ⟨[.p (.l 3),.f 136 []],[],[.p (.i .i64)],[],Int,fun d=>Mt F d.1.1,fun d r=>((r,()),())⟩ fun ay az=>by
 obtain ⟨(a1:List Int),_,_⟩:=ay
 conv=>rhs;simp only [Mt,a6,UR]
 kernel_rfl
noncomputable def Q6 (k:Nat) (s_:List Int) (cp:J.bd) (jy:Int) (ak:Int):=c9 ((s_.length:Int)=ak/\True) (a' (xu s_ cp k jy))
theorem UQ (k:Nat) (s_:List Int) (cp:J.bd) (jy:Int):a' (xu s_ cp k jy)=Q6 k s_ cp jy (s_.length:Int):=(dy ⟨rfl,trivial⟩).symm
noncomputable def anA (F:Nat):aR aH:=(anz F).Gm 106 0 F ⟨[0,1,7,8],[.p (.l 3),.f 139 [.B 0],.p (.i .i64),.p (.i .i64)],[.c 60 [.B 1],hG,.m 3 4],
 [⟨⟨.nm,[],[],[.c 60 [.B 1],hG,.m 3 4]⟩,Unit,fun d r=>((),(((),()),(d.2.2.1.1,d.2.2.1.2.1,d.2.2.1.2.2.1,d.2.2.1.2.2.2.1,d.2.2.1.2.2.2.2.1,d.2.2.1.2.2.2.2.2.1,d.2.2.1.2.2.2.2.2.2.1,d.2.2.1.2.2.2.2.2.2.2.1,d.2.2.1.2.2.2.2.2.2.2.2.1,d.2.2.1.2.2.2.2.2.2.2.2.2.1,d.2.2.1.2.2.2.2.2.2.2.2.2.2.1,d.2.2.1.2.2.2.2.2.2.2.2.2.2.2.1,d.2.2.1.2.2.2.2.2.2.2.2.2.2.2.2.1,d.2.2.1.2.2.2.2.2.2.2.2.2.2.2.2.2.1,(),()),d.2.2.2.1,()))⟩,
  ⟨⟨.rt,[4],[.p (.i .i64)],[.c 60 [.B 1],hG,.m 3 4]⟩,Int,fun d r=>((r,()),(((),()),(d.2.2.1.1,d.2.2.1.2.1,d.2.2.1.2.2.1,d.2.2.1.2.2.2.1,d.2.2.1.2.2.2.2.1,d.2.2.1.2.2.2.2.2.1,d.2.2.1.2.2.2.2.2.2.1,d.2.2.1.2.2.2.2.2.2.2.1,d.2.2.1.2.2.2.2.2.2.2.2.1,d.2.2.1.2.2.2.2.2.2.2.2.2.1,d.2.2.1.2.2.2.2.2.2.2.2.2.2.1,d.2.2.1.2.2.2.2.2.2.2.2.2.2.2.1,d.2.2.1.2.2.2.2.2.2.2.2.2.2.2.2.1,d.2.2.1.2.2.2.2.2.2.2.2.2.2.2.2.2.1,(),()),d.2.2.2.1,()))⟩],
 fun k d=>Q6 k d.1.1 (⟨(dN d.2.2.1),(gA d.2.2.1.2.2.2.2.2.2.2),d.2.2.1.2.2.2.2.2.2.2.2.2.2.2.2.1,d.2.2.1.2.2.2.2.2.2.2.2.2.2.2.2.2.1,d.2.2.2.1⟩:J.bd) d.1.2.2.2.1 d.1.2.2.1⟩ (bJ.bU (fun d=>dx) fun k ay az q h=>by
 obtain ⟨(a1:List Int),⟨_,_⟩,(v1:Int),(v2:Int),_⟩:=ay
 obtain ⟨⟨_,_⟩,⟨(bu:List Int),(v4:Int),(bZ:Int),(v6:Int),(cq:Int),(cy:List Int),(cH:Int),(v10:List J.ap),(v11:List Int),(df:List (List J.Field)),(dO:List (List (List UInt8))),(ec:List (List J.Target)),(fs:List Int),(fT:List Int),_,_⟩,(g3:List (Int × Bool)),_⟩:=az
 obtain ⟨ax,_⟩:=dW h
 dsimp only at ax
 obtain ⟨rfl,_⟩:=ax
 conv=>rhs;change Option.map (α:=Unit ⊕ Int) _ (Q6 (k+ 1) a1 (⟨(⟨bu,v4,bZ,v6,cq,cy,cH⟩:J.aY),(⟨(⟨v10,v11,df,dO,ec⟩:J.aU)⟩:J.b'),fs,fT,g3⟩:J.bd) v2 (a1.length:Int));rw [<-UQ (k+ 1) a1 (⟨(⟨bu,v4,bZ,v6,cq,cy,cH⟩:J.aY),(⟨(⟨v10,v11,df,dO,ec⟩:J.aU)⟩:J.b'),fs,fT,g3⟩:J.bd) v2];simp only [xu,a6,UQ];simp only [bR]
 kernel_rfl)
noncomputable def anC (F:Nat):aR aH:=(anA F).sY 106 ⟨[.p (.l 3),.f 139 [.B 0]],[.c 60 [.B 1],hG,.m 3 4],[.p (.i .i64)],[.c 60 [.B 1],hG,.m 3 4],Int,fun d=>Ms F d.1.1 (⟨(dN d.2.2.1),(gA d.2.2.1.2.2.2.2.2.2.2),d.2.2.1.2.2.2.2.2.2.2.2.2.2.2.2.1,d.2.2.1.2.2.2.2.2.2.2.2.2.2.2.2.2.1,d.2.2.2.1⟩:J.bd),fun d r=>((r,()),(((),()),(d.2.2.1.1,d.2.2.1.2.1,d.2.2.1.2.2.1,d.2.2.1.2.2.2.1,d.2.2.1.2.2.2.2.1,d.2.2.1.2.2.2.2.2.1,d.2.2.1.2.2.2.2.2.2.1,d.2.2.1.2.2.2.2.2.2.2.1,d.2.2.1.2.2.2.2.2.2.2.2.1,d.2.2.1.2.2.2.2.2.2.2.2.2.1,d.2.2.1.2.2.2.2.2.2.2.2.2.2.1,d.2.2.1.2.2.2.2.2.2.2.2.2.2.2.1,d.2.2.1.2.2.2.2.2.2.2.2.2.2.2.2.1,d.2.2.1.2.2.2.2.2.2.2.2.2.2.2.2.2.1,(),()),d.2.2.2.1,()))⟩ fun ay az=>by
 obtain ⟨(a1:List Int),⟨_,_⟩,_⟩:=ay
 obtain ⟨⟨_,_⟩,⟨(v1:List Int),(v2:Int),(bu:Int),(v4:Int),(bZ:Int),(v6:List Int),(cq:Int),(cy:List J.ap),(cH:List Int),(v10:List (List J.Field)),(v11:List (List (List UInt8))),(df:List (List J.Target)),(dO:List Int),(ec:List Int),_,_⟩,(fs:List (Int × Bool)),_⟩:=az
 conv=>rhs;simp only [Ms,a6,UQ]
 kernel_rfl
noncomputable def Q8 (k:Nat) (s_:List Int) (cp:J.bd) (jy:Int) (ak:Int):=c9 ((s_.length:Int)=ak/\True) (a' (xw s_ cp k jy))
theorem US (k:Nat) (s_:List Int) (cp:J.bd) (jy:Int):a' (xw s_ cp k jy)=Q8 k s_ cp jy (s_.length:Int):=(dy ⟨rfl,trivial⟩).symm
noncomputable def anD (F:Nat):aR aH:=(anC F).Gm 106 0 F ⟨[0,1,7,8],[.p (.l 3),.f 67 [.B 0],.p (.i .i64),.p (.i .i64)],[.c 60 [.B 1],hG,.m 3 4],
 [⟨⟨.nm,[],[],[.c 60 [.B 1],hG,.m 3 4]⟩,Unit,fun d r=>((),(((),()),(d.2.2.1.1,d.2.2.1.2.1,d.2.2.1.2.2.1,d.2.2.1.2.2.2.1,d.2.2.1.2.2.2.2.1,d.2.2.1.2.2.2.2.2.1,d.2.2.1.2.2.2.2.2.2.1,d.2.2.1.2.2.2.2.2.2.2.1,d.2.2.1.2.2.2.2.2.2.2.2.1,d.2.2.1.2.2.2.2.2.2.2.2.2.1,d.2.2.1.2.2.2.2.2.2.2.2.2.2.1,d.2.2.1.2.2.2.2.2.2.2.2.2.2.2.1,d.2.2.1.2.2.2.2.2.2.2.2.2.2.2.2.1,d.2.2.1.2.2.2.2.2.2.2.2.2.2.2.2.2.1,(),()),d.2.2.2.1,()))⟩,
  ⟨⟨.rt,[4],[.p (.i .i64)],[.c 60 [.B 1],hG,.m 3 4]⟩,Int,fun d r=>((r,()),(((),()),(d.2.2.1.1,d.2.2.1.2.1,d.2.2.1.2.2.1,d.2.2.1.2.2.2.1,d.2.2.1.2.2.2.2.1,d.2.2.1.2.2.2.2.2.1,d.2.2.1.2.2.2.2.2.2.1,d.2.2.1.2.2.2.2.2.2.2.1,d.2.2.1.2.2.2.2.2.2.2.2.1,d.2.2.1.2.2.2.2.2.2.2.2.2.1,d.2.2.1.2.2.2.2.2.2.2.2.2.2.1,d.2.2.1.2.2.2.2.2.2.2.2.2.2.2.1,d.2.2.1.2.2.2.2.2.2.2.2.2.2.2.2.1,d.2.2.1.2.2.2.2.2.2.2.2.2.2.2.2.2.1,(),()),d.2.2.2.1,()))⟩],
 fun k d=>Q8 k d.1.1 (⟨(dN d.2.2.1),(gA d.2.2.1.2.2.2.2.2.2.2),d.2.2.1.2.2.2.2.2.2.2.2.2.2.2.2.1,d.2.2.1.2.2.2.2.2.2.2.2.2.2.2.2.2.1,d.2.2.2.1⟩:J.bd) d.1.2.2.2.1 d.1.2.2.1⟩ (bJ.bU (fun d=>dx) fun k ay az q h=>by
 obtain ⟨(a1:List Int),⟨_,_⟩,(v1:Int),(v2:Int),_⟩:=ay
 obtain ⟨⟨_,_⟩,⟨(bu:List Int),(v4:Int),(bZ:Int),(v6:Int),(cq:Int),(cy:List Int),(cH:Int),(v10:List J.ap),(v11:List Int),(df:List (List J.Field)),(dO:List (List (List UInt8))),(ec:List (List J.Target)),(fs:List Int),(fT:List Int),_,_⟩,(g3:List (Int × Bool)),_⟩:=az
 obtain ⟨ax,_⟩:=dW h
 dsimp only at ax
 obtain ⟨rfl,_⟩:=ax
 conv=>rhs;change Option.map (α:=Unit ⊕ Int) _ (Q8 (k+ 1) a1 (⟨(⟨bu,v4,bZ,v6,cq,cy,cH⟩:J.aY),(⟨(⟨v10,v11,df,dO,ec⟩:J.aU)⟩:J.b'),fs,fT,g3⟩:J.bd) v2 (a1.length:Int));rw [<-US (k+ 1) a1 (⟨(⟨bu,v4,bZ,v6,cq,cy,cH⟩:J.aY),(⟨(⟨v10,v11,df,dO,ec⟩:J.aU)⟩:J.b'),fs,fT,g3⟩:J.bd) v2];simp only [xw,a6,US];simp only [bR]
 kernel_rfl)
noncomputable def anE (F:Nat):aR aH:=(anD F).sY 106 ⟨[.p (.l 3),.f 67 [.B 0]],[.c 60 [.B 1],hG,.m 3 4],[.p (.i .i64)],[.c 60 [.B 1],hG,.m 3 4],Int,fun d=>Mu F d.1.1 (⟨(dN d.2.2.1),(gA d.2.2.1.2.2.2.2.2.2.2),d.2.2.1.2.2.2.2.2.2.2.2.2.2.2.2.1,d.2.2.1.2.2.2.2.2.2.2.2.2.2.2.2.2.1,d.2.2.2.1⟩:J.bd),fun d r=>((r,()),(((),()),(d.2.2.1.1,d.2.2.1.2.1,d.2.2.1.2.2.1,d.2.2.1.2.2.2.1,d.2.2.1.2.2.2.2.1,d.2.2.1.2.2.2.2.2.1,d.2.2.1.2.2.2.2.2.2.1,d.2.2.1.2.2.2.2.2.2.2.1,d.2.2.1.2.2.2.2.2.2.2.2.1,d.2.2.1.2.2.2.2.2.2.2.2.2.1,d.2.2.1.2.2.2.2.2.2.2.2.2.2.1,d.2.2.1.2.2.2.2.2.2.2.2.2.2.2.1,d.2.2.1.2.2.2.2.2.2.2.2.2.2.2.2.1,d.2.2.1.2.2.2.2.2.2.2.2.2.2.2.2.2.1,(),()),d.2.2.2.1,()))⟩ fun ay az=>by
 obtain ⟨(a1:List Int),⟨_,_⟩,_⟩:=ay
 obtain ⟨⟨_,_⟩,⟨(v1:List Int),(v2:Int),(bu:Int),(v4:Int),(bZ:Int),(v6:List Int),(cq:Int),(cy:List J.ap),(cH:List Int),(v10:List (List J.Field)),(v11:List (List (List UInt8))),(df:List (List J.Target)),(dO:List Int),(ec:List Int),_,_⟩,(fs:List (Int × Bool)),_⟩:=az
 conv=>rhs;simp only [Mu,a6,US]
 kernel_rfl
noncomputable def anF (F:Nat):aR aH:=(anE F).rt 66 ⟨[.p (.l 3),.f 136 []],[],[.p (.b)],[],Bool,fun d=>Mp F d.1.1,fun d r=>((r,()),())⟩ fun ay az=>by
 conv=>rhs;simp only [Mp,a6]
 kernel_rfl
noncomputable def anG (F:Nat):aR aH:=(anF F).sY 66 ⟨[.p (.l 3),.f 139 [.B 0]],[.c 60 [.B 1],hG,.m 3 4],[.p (.b)],[.c 60 [.B 1],hG,.m 3 4],Bool,fun d=>Mo F d.1.1 (⟨(dN d.2.2.1),(gA d.2.2.1.2.2.2.2.2.2.2),d.2.2.1.2.2.2.2.2.2.2.2.2.2.2.2.1,d.2.2.1.2.2.2.2.2.2.2.2.2.2.2.2.2.1,d.2.2.2.1⟩:J.bd),fun d r=>((r,()),(((),()),(d.2.2.1.1,d.2.2.1.2.1,d.2.2.1.2.2.1,d.2.2.1.2.2.2.1,d.2.2.1.2.2.2.2.1,d.2.2.1.2.2.2.2.2.1,d.2.2.1.2.2.2.2.2.2.1,d.2.2.1.2.2.2.2.2.2.2.1,d.2.2.1.2.2.2.2.2.2.2.2.1,d.2.2.1.2.2.2.2.2.2.2.2.2.1,d.2.2.1.2.2.2.2.2.2.2.2.2.2.1,d.2.2.1.2.2.2.2.2.2.2.2.2.2.2.1,d.2.2.1.2.2.2.2.2.2.2.2.2.2.2.2.1,d.2.2.1.2.2.2.2.2.2.2.2.2.2.2.2.2.1,(),()),d.2.2.2.1,()))⟩ fun ay az=>by
 conv=>rhs;simp only [Mo,a6]
 kernel_rfl
noncomputable def anH (F:Nat):aR aH:=(anG F).sY 66 ⟨[.p (.l 3),.f 67 [.B 0]],[.c 60 [.B 1],hG,.m 3 4],[.p (.b)],[.c 60 [.B 1],hG,.m 3 4],Bool,fun d=>Mq F d.1.1 (⟨(dN d.2.2.1),(gA d.2.2.1.2.2.2.2.2.2.2),d.2.2.1.2.2.2.2.2.2.2.2.2.2.2.2.1,d.2.2.1.2.2.2.2.2.2.2.2.2.2.2.2.2.1,d.2.2.2.1⟩:J.bd),fun d r=>((r,()),(((),()),(d.2.2.1.1,d.2.2.1.2.1,d.2.2.1.2.2.1,d.2.2.1.2.2.2.1,d.2.2.1.2.2.2.2.1,d.2.2.1.2.2.2.2.2.1,d.2.2.1.2.2.2.2.2.2.1,d.2.2.1.2.2.2.2.2.2.2.1,d.2.2.1.2.2.2.2.2.2.2.2.1,d.2.2.1.2.2.2.2.2.2.2.2.2.1,d.2.2.1.2.2.2.2.2.2.2.2.2.2.1,d.2.2.1.2.2.2.2.2.2.2.2.2.2.2.1,d.2.2.1.2.2.2.2.2.2.2.2.2.2.2.2.1,d.2.2.1.2.2.2.2.2.2.2.2.2.2.2.2.2.1,(),()),d.2.2.2.1,()))⟩ fun ay az=>by
 conv=>rhs;simp only [Mq,a6]
 kernel_rfl
noncomputable def Qw (k:Nat) (aG:J.bd) (nN:List Int) (uh:Int) (bS:Int):=c9 ((nN.length:Int)=bS/\True) (a' (tq aG nN k uh))
theorem Ug (k:Nat) (aG:J.bd) (nN:List Int) (uh:Int):a' (tq aG nN k uh)=Qw k aG nN uh (nN.length:Int):=(dy ⟨rfl,trivial⟩).symm
noncomputable def anI (F:Nat):aR aH:=(anH F).bX 104 2 F ⟨[0,10,11,12,18,19,20],[.p (.B 0),.p (.l 3),.p (.i .i64),.p (.i .i64),.p (.l 3),.p (.i .i64),.p (.i .i64)],[fo,.m 3 4],
 [⟨⟨.nm,[0,10,11,12],[.p (.B 0),.p (.l 3),.p (.i .i64),.p (.i .i64)],[fo,.m 3 4]⟩,Unit,fun d r=>(((),d.1.2.1,d.1.2.2.1,d.1.2.2.2.1,()),((d.2.1.1,d.2.1.2.1,d.2.1.2.2.1,d.2.1.2.2.2.1,d.2.1.2.2.2.2.1,d.2.1.2.2.2.2.2.1,d.2.1.2.2.2.2.2.2.1,d.2.1.2.2.2.2.2.2.2.1,d.2.1.2.2.2.2.2.2.2.2.1,d.2.1.2.2.2.2.2.2.2.2.2.1,d.2.1.2.2.2.2.2.2.2.2.2.2.1,d.2.1.2.2.2.2.2.2.2.2.2.2.2.1,d.2.1.2.2.2.2.2.2.2.2.2.2.2.2.1,d.2.1.2.2.2.2.2.2.2.2.2.2.2.2.2.1,(),()),d.2.2.1,()))⟩,
  ⟨⟨.rt,[2],[.p (.i .i64)],[fo,.m 3 4]⟩,Int,fun d r=>((r,()),((d.2.1.1,d.2.1.2.1,d.2.1.2.2.1,d.2.1.2.2.2.1,d.2.1.2.2.2.2.1,d.2.1.2.2.2.2.2.1,d.2.1.2.2.2.2.2.2.1,d.2.1.2.2.2.2.2.2.2.1,d.2.1.2.2.2.2.2.2.2.2.1,d.2.1.2.2.2.2.2.2.2.2.2.1,d.2.1.2.2.2.2.2.2.2.2.2.2.1,d.2.1.2.2.2.2.2.2.2.2.2.2.2.1,d.2.1.2.2.2.2.2.2.2.2.2.2.2.2.1,d.2.1.2.2.2.2.2.2.2.2.2.2.2.2.2.1,(),()),d.2.2.1,()))⟩],
 fun k d=>Qw k (⟨(dN d.2.1),(gA d.2.1.2.2.2.2.2.2.2),d.2.1.2.2.2.2.2.2.2.2.2.2.2.2.1,d.2.1.2.2.2.2.2.2.2.2.2.2.2.2.2.1,d.2.2.1⟩:J.bd) d.1.2.2.2.2.1 d.1.2.2.2.2.2.2.1 d.1.2.2.2.2.2.1⟩ (bJ.bU (fun d=>dx) fun k ay az q h=>by
 obtain ⟨_,(a1:List Int),(v1:Int),(v2:Int),(bu:List Int),(v4:Int),(bZ:Int),_⟩:=ay
 obtain ⟨⟨(v6:List Int),(cq:Int),(cy:Int),(cH:Int),(v10:Int),(v11:List Int),(df:Int),(dO:List J.ap),(ec:List Int),(fs:List (List J.Field)),(fT:List (List (List UInt8))),(g3:List (List J.Target)),(lW:List Int),(DA:List Int),_,_⟩,(v20:List (Int × Bool)),_⟩:=az
 obtain ⟨ax,_⟩:=dW h
 dsimp only at ax
 obtain ⟨rfl,_⟩:=ax
 conv=>rhs;change Option.map (α:=Unit ⊕ Int) _ (Qw (k+ 1) (⟨(⟨v6,cq,cy,cH,v10,v11,df⟩:J.aY),(⟨(⟨dO,ec,fs,fT,g3⟩:J.aU)⟩:J.b'),lW,DA,v20⟩:J.bd) bu bZ (bu.length:Int));rw [<-Ug (k+ 1) (⟨(⟨v6,cq,cy,cH,v10,v11,df⟩:J.aY),(⟨(⟨dO,ec,fs,fT,g3⟩:J.aU)⟩:J.b'),lW,DA,v20⟩:J.bd) bu bZ];simp only [tq,a6,Ug,axs];simp only [bR]
 kernel_rfl)
noncomputable def Qv (F:Nat) (k:Nat) (aG:J.bd) (oS:List Int) (w5:Int) (ak:Int):=c9 ((oS.length:Int)=ak/\True) (a' (wa F aG oS k w5))
theorem Uf (F:Nat) (k:Nat) (aG:J.bd) (oS:List Int) (w5:Int):a' (wa F aG oS k w5)=Qv F k aG oS w5 (oS.length:Int):=(dy ⟨rfl,trivial⟩).symm
noncomputable def anJ (F:Nat):aR aH:=(anI F).bX 104 0 F ⟨[0,10,11,12],[.p (.B 0),.p (.l 3),.p (.i .i64),.p (.i .i64)],[fo,.m 3 4],
 [⟨⟨.nm,[0],[.p (.B 0)],[fo,.m 3 4]⟩,Unit,fun d r=>(((),()),((d.2.1.1,d.2.1.2.1,d.2.1.2.2.1,d.2.1.2.2.2.1,d.2.1.2.2.2.2.1,d.2.1.2.2.2.2.2.1,d.2.1.2.2.2.2.2.2.1,d.2.1.2.2.2.2.2.2.2.1,d.2.1.2.2.2.2.2.2.2.2.1,d.2.1.2.2.2.2.2.2.2.2.2.1,d.2.1.2.2.2.2.2.2.2.2.2.2.1,d.2.1.2.2.2.2.2.2.2.2.2.2.2.1,d.2.1.2.2.2.2.2.2.2.2.2.2.2.2.1,d.2.1.2.2.2.2.2.2.2.2.2.2.2.2.2.1,(),()),d.2.2.1,()))⟩,
  ⟨⟨.rt,[2],[.p (.i .i64)],[fo,.m 3 4]⟩,Int,fun d r=>((r,()),((d.2.1.1,d.2.1.2.1,d.2.1.2.2.1,d.2.1.2.2.2.1,d.2.1.2.2.2.2.1,d.2.1.2.2.2.2.2.1,d.2.1.2.2.2.2.2.2.1,d.2.1.2.2.2.2.2.2.2.1,d.2.1.2.2.2.2.2.2.2.2.1,d.2.1.2.2.2.2.2.2.2.2.2.1,d.2.1.2.2.2.2.2.2.2.2.2.2.1,d.2.1.2.2.2.2.2.2.2.2.2.2.2.1,d.2.1.2.2.2.2.2.2.2.2.2.2.2.2.1,d.2.1.2.2.2.2.2.2.2.2.2.2.2.2.2.1,(),()),d.2.2.1,()))⟩],
 fun k d=>Qv F k (⟨(dN d.2.1),(gA d.2.1.2.2.2.2.2.2.2),d.2.1.2.2.2.2.2.2.2.2.2.2.2.2.1,d.2.1.2.2.2.2.2.2.2.2.2.2.2.2.2.1,d.2.2.1⟩:J.bd) d.1.2.1 d.1.2.2.2.1 d.1.2.2.1⟩ (bJ.bU (fun d=>dx) fun k ay az q h=>by
 obtain ⟨_,(a1:List Int),(v1:Int),(v2:Int),_⟩:=ay
 obtain ⟨⟨(bu:List Int),(v4:Int),(bZ:Int),(v6:Int),(cq:Int),(cy:List Int),(cH:Int),(v10:List J.ap),(v11:List Int),(df:List (List J.Field)),(dO:List (List (List UInt8))),(ec:List (List J.Target)),(fs:List Int),(fT:List Int),_,_⟩,(g3:List (Int × Bool)),_⟩:=az
 obtain ⟨ax,_⟩:=dW h
 dsimp only at ax
 obtain ⟨rfl,_⟩:=ax
 conv=>rhs;change Option.map (α:=Unit ⊕ Int) _ (Qv F (k+ 1) (⟨(⟨bu,v4,bZ,v6,cq,cy,cH⟩:J.aY),(⟨(⟨v10,v11,df,dO,ec⟩:J.aU)⟩:J.b'),fs,fT,g3⟩:J.bd) a1 v2 (a1.length:Int));rw [<-Uf F (k+ 1) (⟨(⟨bu,v4,bZ,v6,cq,cy,cH⟩:J.aY),(⟨(⟨v10,v11,df,dO,ec⟩:J.aU)⟩:J.b'),fs,fT,g3⟩:J.bd) a1 v2];simp only [wa,a6,Ug,Uf];simp only [bR]
 kernel_rfl)
noncomputable def anK (F:Nat):aR aH:=(anJ F).rt 104 ⟨[.p (.B 0)],[fo,.m 3 4],[.p (.i .i64)],[fo,.m 3 4],Int,fun d=>Cv F (⟨(dN d.2.1),(gA d.2.1.2.2.2.2.2.2.2),d.2.1.2.2.2.2.2.2.2.2.2.2.2.2.1,d.2.1.2.2.2.2.2.2.2.2.2.2.2.2.2.1,d.2.2.1⟩:J.bd),fun d r=>((r,()),((d.2.1.1,d.2.1.2.1,d.2.1.2.2.1,d.2.1.2.2.2.1,d.2.1.2.2.2.2.1,d.2.1.2.2.2.2.2.1,d.2.1.2.2.2.2.2.2.1,d.2.1.2.2.2.2.2.2.2.1,d.2.1.2.2.2.2.2.2.2.2.1,d.2.1.2.2.2.2.2.2.2.2.2.1,d.2.1.2.2.2.2.2.2.2.2.2.2.1,d.2.1.2.2.2.2.2.2.2.2.2.2.2.1,d.2.1.2.2.2.2.2.2.2.2.2.2.2.2.1,d.2.1.2.2.2.2.2.2.2.2.2.2.2.2.2.1,(),()),d.2.2.1,()))⟩ fun ay az=>by
 obtain ⟨_,_⟩:=ay
 obtain ⟨⟨(a1:List Int),(v1:Int),(v2:Int),(bu:Int),(v4:Int),(bZ:List Int),(v6:Int),(cq:List J.ap),(cy:List Int),(cH:List (List J.Field)),(v10:List (List (List UInt8))),(v11:List (List J.Target)),(df:List Int),(dO:List Int),_,_⟩,(ec:List (Int × Bool)),_⟩:=az
 conv=>rhs;simp only [Cv,a6,Uf]
 kernel_rfl
noncomputable def anL (F:Nat):aR aH:=(anK F).rt 172 ⟨[.p (.i .i64)],[],[.p (.b)],[],Bool,fun d=>Jp d.1.1,fun d r=>((r,()),())⟩ fun ay az=>by
 kernel_rfl
noncomputable def aj0 (F:Nat):aR aH:=(anL F).rt 160 ⟨[.p (.i .i64),.p (.i .i64)],[],[.p (.b)],[],Bool,fun d=>Jo d.1.1 d.1.2.1,fun d r=>((r,()),())⟩ fun ay az=>by
 conv=>rhs;simp only [Jo,a6]
 kernel_rfl
noncomputable def aj1 (F:Nat):aR aH:=(aj0 F).rt 161 ⟨[.p (.i .i64)],[],[.p (.b)],[],Bool,fun d=>Mv d.1.1,fun d r=>((r,()),())⟩ fun ay az=>by
 kernel_rfl
noncomputable def QV (k:Nat) (qo:Int) (aP:List Int) (p':Int) (rU:Int) (al:Int):=c9 ((aP.length:Int)=al/\True) (r6 qo aP k p' rU)
theorem UF (k:Nat) (qo:Int) (aP:List Int) (p':Int) (rU:Int):r6 qo aP k p' rU=QV k qo aP p' rU (aP.length:Int):=(dy ⟨rfl,trivial⟩).symm
noncomputable def aj2 (F:Nat):aR aH:=(aj1 F).bX 138 0 F ⟨[0,1,6,7,8],[.p (.l 3),.p (.i .i64),.p (.i .i64),.p (.i .i64),.p (.i .i64)],[],
 [⟨⟨.nm,[0,1,6,7],[.p (.l 3),.p (.i .i64),.p (.i .i64),.p (.i .i64)],[]⟩,Int,fun d r=>((d.1.1,d.1.2.1,d.1.2.2.1,r,()),())⟩],
 fun k d=>QV k d.1.2.1 d.1.1 d.1.2.2.2.1 d.1.2.2.2.2.1 d.1.2.2.1⟩ (bJ.bU (fun d=>dx) fun k ay az q h=>by
 obtain ⟨(a1:List Int),(v1:Int),(v2:Int),(bu:Int),(v4:Int),_⟩:=ay
 obtain ⟨ax,_⟩:=dW h
 dsimp only at ax
 obtain ⟨rfl,_⟩:=ax
 conv=>rhs;change Option.map (α:=Int) _ (QV (k+ 1) v1 a1 bu v4 (a1.length:Int));rw [<-UF (k+ 1) v1 a1 bu v4];simp only [r6,a6,UF];simp only [bR]
 kernel_rfl)
noncomputable def aj3 (F:Nat):aR aH:=(aj2 F).rt 138 ⟨[.p (.l 3),.p (.i .i64)],[],[.p (.i .i64),.p (.b)],[],Int × Bool,fun d=>Hj F d.1.1 d.1.2.1,fun d r=>((r.1,r.2,()),())⟩ fun ay az=>by
 obtain ⟨(a1:List Int),(v1:Int),_⟩:=ay
 conv=>rhs;simp only [Hj,a6,UF]
 kernel_rfl
noncomputable def Qs (F:Nat) (k:Nat) (aG:J.bd) (p6:Int) (ak:List Int) (al:Int) (B9:List Int):=c9 ((aG.H.aZ:List Int)=ak/\(aG.H.aZ.length:Int)=al/\(aG.H.aZ:List Int)=B9/\True) (a' (ri F aG k p6))
theorem Ub (F:Nat) (k:Nat) (aG:J.bd) (p6:Int):a' (ri F aG k p6)=Qs F k aG p6 aG.H.aZ (aG.H.aZ.length:Int) aG.H.aZ:=(dy ⟨rfl,rfl,rfl,trivial⟩).symm
noncomputable def aj4 (F:Nat):aR aH:=(aj3 F).bX 105 0 F ⟨[1,3,16,17,18],[.p (.B 0),.p (.l 3),.p (.l 3),.p (.i .i64),.p (.i .i64)],[.c 60 [.B 1],hG,.m 3 4],
 [⟨⟨.nm,[1,3],[.p (.B 0),.p (.l 3)],[.c 60 [.B 1],hG,.m 3 4]⟩,Unit,fun d r=>(((),d.1.2.1,()),(((),()),(d.2.2.1.1,d.2.2.1.2.1,d.2.2.1.2.2.1,d.2.2.1.2.2.2.1,d.2.2.1.2.2.2.2.1,d.2.2.1.2.2.2.2.2.1,d.2.2.1.2.2.2.2.2.2.1,d.2.2.1.2.2.2.2.2.2.2.1,d.2.2.1.2.2.2.2.2.2.2.2.1,d.2.2.1.2.2.2.2.2.2.2.2.2.1,d.2.2.1.2.2.2.2.2.2.2.2.2.2.1,d.2.2.1.2.2.2.2.2.2.2.2.2.2.2.1,d.2.2.1.2.2.2.2.2.2.2.2.2.2.2.2.1,d.2.2.1.2.2.2.2.2.2.2.2.2.2.2.2.2.1,(),()),d.2.2.2.1,()))⟩,
  ⟨⟨.rt,[2],[.p (.i .i64)],[.c 60 [.B 1],hG,.m 3 4]⟩,Int,fun d r=>((r,()),(((),()),(d.2.2.1.1,d.2.2.1.2.1,d.2.2.1.2.2.1,d.2.2.1.2.2.2.1,d.2.2.1.2.2.2.2.1,d.2.2.1.2.2.2.2.2.1,d.2.2.1.2.2.2.2.2.2.1,d.2.2.1.2.2.2.2.2.2.2.1,d.2.2.1.2.2.2.2.2.2.2.2.1,d.2.2.1.2.2.2.2.2.2.2.2.2.1,d.2.2.1.2.2.2.2.2.2.2.2.2.2.1,d.2.2.1.2.2.2.2.2.2.2.2.2.2.2.1,d.2.2.1.2.2.2.2.2.2.2.2.2.2.2.2.1,d.2.2.1.2.2.2.2.2.2.2.2.2.2.2.2.2.1,(),()),d.2.2.2.1,()))⟩],
 fun k d=>Qs F k (⟨(⟨d.2.2.1.1,d.2.2.1.2.1,d.2.2.1.2.2.1,d.2.2.1.2.2.2.1,d.2.2.1.2.2.2.2.1,d.1.2.1,d.2.2.1.2.2.2.2.2.2.1⟩:J.aY),(gA d.2.2.1.2.2.2.2.2.2.2),d.2.2.1.2.2.2.2.2.2.2.2.2.2.2.2.1,d.2.2.1.2.2.2.2.2.2.2.2.2.2.2.2.2.1,d.2.2.2.1⟩:J.bd) d.1.2.2.2.2.1 d.1.2.2.1 d.1.2.2.2.1 d.2.2.1.2.2.2.2.2.1⟩ (bJ.bU (fun d=>dx) fun k ay az q h=>by
 obtain ⟨_,(a1:List Int),(v1:List Int),(v2:Int),(bu:Int),_⟩:=ay
 obtain ⟨⟨_,_⟩,⟨(v4:List Int),(bZ:Int),(v6:Int),(cq:Int),(cy:Int),(cH:List Int),(v10:Int),(v11:List J.ap),(df:List Int),(dO:List (List J.Field)),(ec:List (List (List UInt8))),(fs:List (List J.Target)),(fT:List Int),(g3:List Int),_,_⟩,(lW:List (Int × Bool)),_⟩:=az
 obtain ⟨ax,_⟩:=dW h
 dsimp only at ax
 obtain ⟨rfl,rfl,rfl,_⟩:=ax
 conv=>rhs;change Option.map (α:=Unit ⊕ Int) _ (Qs F (k+ 1) (⟨(⟨v4,bZ,v6,cq,cy,a1,v10⟩:J.aY),(⟨(⟨v11,df,dO,ec,fs⟩:J.aU)⟩:J.b'),fT,g3,lW⟩:J.bd) bu (a1) (a1.length:Int) (a1));rw [<-Ub F (k+ 1) (⟨(⟨v4,bZ,v6,cq,cy,a1,v10⟩:J.aY),(⟨(⟨v11,df,dO,ec,fs⟩:J.aU)⟩:J.b'),fT,g3,lW⟩:J.bd) bu];simp only [ri,a6,Ub,Tw];simp only [bR]
 kernel_rfl)
noncomputable def Qt (F:Nat) (k:Nat) (aG:J.bd) (ul:Int) (al:Int) (B9:List Int) (apG:List Int):=c9 ((aG.aW.length:Int)=al/\(aG.H.aZ:List Int)=B9/\(aG.aW:List Int)=apG/\True) (a' (tp F aG k ul))
theorem Uc (F:Nat) (k:Nat) (aG:J.bd) (ul:Int):a' (tp F aG k ul)=Qt F k aG ul (aG.aW.length:Int) aG.H.aZ aG.aW:=(dy ⟨rfl,rfl,rfl,trivial⟩).symm
noncomputable def aj5 (F:Nat):aR aH:=(aj4 F).bX 105 2 F ⟨[1,3,59,60,61],[.p (.B 0),.p (.l 3),.p (.l 3),.p (.i .i64),.p (.i .i64)],[.c 60 [.B 1],hG,.m 3 4],
 [⟨⟨.nm,[],[],[.c 60 [.B 1],hG,.m 3 4]⟩,Unit,fun d r=>((),(((),()),(d.2.2.1.1,d.2.2.1.2.1,d.2.2.1.2.2.1,d.2.2.1.2.2.2.1,d.2.2.1.2.2.2.2.1,d.2.2.1.2.2.2.2.2.1,d.2.2.1.2.2.2.2.2.2.1,d.2.2.1.2.2.2.2.2.2.2.1,d.2.2.1.2.2.2.2.2.2.2.2.1,d.2.2.1.2.2.2.2.2.2.2.2.2.1,d.2.2.1.2.2.2.2.2.2.2.2.2.2.1,d.2.2.1.2.2.2.2.2.2.2.2.2.2.2.1,d.2.2.1.2.2.2.2.2.2.2.2.2.2.2.2.1,d.2.2.1.2.2.2.2.2.2.2.2.2.2.2.2.2.1,(),()),d.2.2.2.1,()))⟩,
  ⟨⟨.rt,[2],[.p (.i .i64)],[.c 60 [.B 1],hG,.m 3 4]⟩,Int,fun d r=>((r,()),(((),()),(d.2.2.1.1,d.2.2.1.2.1,d.2.2.1.2.2.1,d.2.2.1.2.2.2.1,d.2.2.1.2.2.2.2.1,d.2.2.1.2.2.2.2.2.1,d.2.2.1.2.2.2.2.2.2.1,d.2.2.1.2.2.2.2.2.2.2.1,d.2.2.1.2.2.2.2.2.2.2.2.1,d.2.2.1.2.2.2.2.2.2.2.2.2.1,d.2.2.1.2.2.2.2.2.2.2.2.2.2.1,d.2.2.1.2.2.2.2.2.2.2.2.2.2.2.1,d.2.2.1.2.2.2.2.2.2.2.2.2.2.2.2.1,d.2.2.1.2.2.2.2.2.2.2.2.2.2.2.2.2.1,(),()),d.2.2.2.1,()))⟩],
 fun k d=>Qt F k (⟨(⟨d.2.2.1.1,d.2.2.1.2.1,d.2.2.1.2.2.1,d.2.2.1.2.2.2.1,d.2.2.1.2.2.2.2.1,d.1.2.1,d.2.2.1.2.2.2.2.2.2.1⟩:J.aY),(gA d.2.2.1.2.2.2.2.2.2.2),d.2.2.1.2.2.2.2.2.2.2.2.2.2.2.2.1,d.1.2.2.1,d.2.2.2.1⟩:J.bd) d.1.2.2.2.2.1 d.1.2.2.2.1 d.2.2.1.2.2.2.2.2.1 d.2.2.1.2.2.2.2.2.2.2.2.2.2.2.2.2.1⟩ (bJ.bU (fun d=>dx) fun k ay az q h=>by
 obtain ⟨_,(a1:List Int),(v1:List Int),(v2:Int),(bu:Int),_⟩:=ay
 obtain ⟨⟨_,_⟩,⟨(v4:List Int),(bZ:Int),(v6:Int),(cq:Int),(cy:Int),(cH:List Int),(v10:Int),(v11:List J.ap),(df:List Int),(dO:List (List J.Field)),(ec:List (List (List UInt8))),(fs:List (List J.Target)),(fT:List Int),(g3:List Int),_,_⟩,(lW:List (Int × Bool)),_⟩:=az
 obtain ⟨ax,_⟩:=dW h
 dsimp only at ax
 obtain ⟨rfl,rfl,rfl,_⟩:=ax
 conv=>rhs;change Option.map (α:=Unit ⊕ Int) _ (Qt F (k+ 1) (⟨(⟨v4,bZ,v6,cq,cy,a1,v10⟩:J.aY),(⟨(⟨v11,df,dO,ec,fs⟩:J.aU)⟩:J.b'),fT,v1,lW⟩:J.bd) bu (v1.length:Int) (a1) (v1));rw [<-Uc F (k+ 1) (⟨(⟨v4,bZ,v6,cq,cy,a1,v10⟩:J.aY),(⟨(⟨v11,df,dO,ec,fs⟩:J.aU)⟩:J.b'),fT,v1,lW⟩:J.bd) bu];simp only [tp,a6,Uc];simp only [bR]
 kernel_rfl)
noncomputable def aj6 (F:Nat):aR aH:=(aj5 F).rt 105 ⟨[.p (.B 0)],[fo,.m 3 4],[.p (.i .i64)],[fo,.m 3 4],Int,fun d=>Cu F (⟨(dN d.2.1),(gA d.2.1.2.2.2.2.2.2.2),d.2.1.2.2.2.2.2.2.2.2.2.2.2.2.1,d.2.1.2.2.2.2.2.2.2.2.2.2.2.2.2.1,d.2.2.1⟩:J.bd),fun d r=>((r,()),((d.2.1.1,d.2.1.2.1,d.2.1.2.2.1,d.2.1.2.2.2.1,d.2.1.2.2.2.2.1,d.2.1.2.2.2.2.2.1,d.2.1.2.2.2.2.2.2.1,d.2.1.2.2.2.2.2.2.2.1,d.2.1.2.2.2.2.2.2.2.2.1,d.2.1.2.2.2.2.2.2.2.2.2.1,d.2.1.2.2.2.2.2.2.2.2.2.2.1,d.2.1.2.2.2.2.2.2.2.2.2.2.2.1,d.2.1.2.2.2.2.2.2.2.2.2.2.2.2.1,d.2.1.2.2.2.2.2.2.2.2.2.2.2.2.2.1,(),()),d.2.2.1,()))⟩ fun ay az=>by
 obtain ⟨_,_⟩:=ay
 obtain ⟨⟨(a1:List Int),(v1:Int),(v2:Int),(bu:Int),(v4:Int),(bZ:List Int),(v6:Int),(cq:List J.ap),(cy:List Int),(cH:List (List J.Field)),(v10:List (List (List UInt8))),(v11:List (List J.Target)),(df:List Int),(dO:List Int),_,_⟩,(ec:List (Int × Bool)),_⟩:=az
 conv=>rhs;simp only [Cu,a6,Ub,Uc]
 kernel_rfl
theorem ayQ (F:Nat) (aB:J.aY) (aS:J.aU) {ct:Type} (f:(Option J.bd) × Int->Option ct):(rj F aB aS).bind f=dr (jc (rj F aB aS)) (fun p=>f (some p.1,p.2)) (fun e=>f (none,e)):=adQ _ _
noncomputable def aj7 (F:Nat):aR aH:=(aj6 F).Mh 65 ⟨[iv,gY],[],[⟨⟨[.p (.B 0),.p (.i .i64)],[fo,.m 3 4]⟩,J.bd × Int,fun d r=>(((),r.2,()),((r.1.H.Words,r.1.H.aL,r.1.H.aW,r.1.H.a5,r.1.H.a2,r.1.H.aZ,r.1.H.Next,r.1.S.K.ba,r.1.S.K.a8,r.1.S.K.Fields,r.1.S.K.Names,r.1.S.K.a9,r.1.aL,r.1.aW,(),()),r.1.dE,()))⟩,
 ⟨⟨[.p (.gf),.p (.i .i64)],[]⟩,Int,fun d r=>(((),r,()),())⟩],fun d=>jc (rj F (dN d.1.1) (e2 d.1.2.1))⟩ fun ay az=>by
 conv=>rhs;simp only [rj,a6,adR,adS,adT,adU,adV,adW];simp only [B6]
 kernel_rfl
theorem aeF (F:Nat) (aB:J.aY) (aS:J.aU) {ct:Type} (f:(Option J.bd) × Int->Option ct):(jO F aB aS).bind f=dr (jc (jO F aB aS)) (fun p=>f (some p.1,p.2)) (fun e=>f (none,e)):=adQ _ _
noncomputable def aj8 (F:Nat):aR aH:=(aj7 F).Mh 33 ⟨[iv,gY],[],[⟨⟨[.p (.B 0),.p (.i .i64)],[fo,.m 3 4]⟩,J.bd × Int,fun d r=>(((),r.2,()),((r.1.H.Words,r.1.H.aL,r.1.H.aW,r.1.H.a5,r.1.H.a2,r.1.H.aZ,r.1.H.Next,r.1.S.K.ba,r.1.S.K.a8,r.1.S.K.Fields,r.1.S.K.Names,r.1.S.K.a9,r.1.aL,r.1.aW,(),()),r.1.dE,()))⟩,
 ⟨⟨[.p (.gf),.p (.i .i64)],[]⟩,Int,fun d r=>(((),r,()),())⟩],fun d=>jc (jO F (dN d.1.1) (e2 d.1.2.1))⟩ fun ay az=>by
 obtain ⟨⟨(a1:List Int),(v1:Int),(v2:Int),(bu:Int),(v4:Int),(bZ:List Int),(v6:Int),_⟩,⟨(cq:List J.ap),(cy:List Int),(cH:List (List J.Field)),(v10:List (List (List UInt8))),(v11:List (List J.Target)),_⟩,_⟩:=ay
 conv=>rhs;simp only [jO,a6,adR,adS,adT,adU,adV,adW,ayQ];simp only [B6]
 kernel_rfl
noncomputable def aj9 (F:Nat):aR aH:=(aj8 F).rt 35 ⟨[iv],[],[.p (.i .i64)],[],Int,fun d=>XG (dN d.1.1),fun d r=>((r,()),())⟩ fun ay az=>by
 conv=>rhs;simp only [XG,a6]
 kernel_rfl
noncomputable def aj' (F:Nat):aR aH:=(aj9 F).rt 19 ⟨[iv,gY],[],[.p (.i .i64),.p (.i .i64)],[],Int × Int,fun d=>ajR F (dN d.1.1) (e2 d.1.2.1),fun d r=>((r.1,r.2,()),())⟩ fun ay az=>by
 obtain ⟨⟨(a1:List Int),(v1:Int),(v2:Int),(bu:Int),(v4:Int),(bZ:List Int),(v6:Int),_⟩,⟨(cq:List J.ap),(cy:List Int),(cH:List (List J.Field)),(v10:List (List (List UInt8))),(v11:List (List J.Target)),_⟩,_⟩:=ay
 conv=>rhs;simp only [ajR,a6,aeF]
 kernel_rfl
noncomputable def aka (F:Nat):aR aH:=(aj' F).rt 47 ⟨[],[],[.p (.l 134)],[],List J.ap,fun d=>X',fun d r=>((r,()),())⟩ fun ay az=>by
 conv=>rhs;simp only [X',a6]
 kernel_rfl
noncomputable def akb (F:Nat):aR aH:=(aka F).rt 48 ⟨[.p (.i .i64),.p (.i .i64)],[],[iv,.p (.i .i64)],[],J.aY × Int,fun d=>abK d.1.1 d.1.2.1,fun d r=>(((r.1.Words,r.1.aL,r.1.aW,r.1.a5,r.1.a2,r.1.aZ,r.1.Next,()),r.2,()),())⟩ fun ay az=>by
 conv=>rhs;simp only [abK,a6]
 kernel_rfl
noncomputable def akc (F:Nat):aR aH:=(akb F).rt 57 ⟨[gY,.p (.i .i64),.p (.i .i64)],[],[.p (.i .i64)],[],Int,fun d=>Rt (gA d.1.1) d.1.2.1 d.1.2.2.1,fun d r=>((r,()),())⟩ fun ay az=>by
 conv=>rhs;simp only [Rt,a6]
 kernel_rfl
noncomputable def akd (F:Nat):aR aH:=(akc F).rt 36 ⟨[iv],[],[.a [.R 0,.i .i64,.i .i64,.i .i64,.i .i64,.l 3,.i .i64]],[.r 3 false],J.aY,fun d=>tf (dN d.1.1),fun d r=>((((),r.aL,r.aW,r.a5,r.a2,r.aZ,r.Next,()),()),(r.Words,()))⟩ fun ay az=>by
 obtain ⟨⟨(a1:List Int),(v1:Int),(v2:Int),(bu:Int),(v4:Int),(bZ:List Int),(v6:Int),_⟩,_⟩:=ay
 conv=>rhs;simp only [tf,a6,VE]
 kernel_rfl
noncomputable def ake (F:Nat):aR aH:=(akd F).rt 85 ⟨[.p (.B 0),.p (.i .i64),.p (.i .i64),.p (.b)],[aed,.r 3 true],[.p (.i .i64),.p (.b)],[aed,.r 3 true],Int × Bool × J.aY,fun d=>Rs (⟨d.2.2.1,d.2.1.2.1,d.2.1.2.2.1,d.2.1.2.2.2.1,d.2.1.2.2.2.2.1,d.2.1.2.2.2.2.2.1,d.2.1.2.2.2.2.2.2.1⟩:J.aY) d.1.2.1 d.1.2.2.1 d.1.2.2.2.1,fun d r=>((r.1,r.2.1,()),(((),d.2.1.2.1,d.2.1.2.2.1,r.2.2.a5,r.2.2.a2,d.2.1.2.2.2.2.2.1,r.2.2.Next,()),r.2.2.Words,()))⟩ fun ay az=>by
 conv=>rhs;simp only [Rs,a6]
 kernel_rfl
noncomputable def akf (F:Nat):aR aH:=(ake F).rt 49 ⟨[iv,gY,.p (.i .i64),.p (.i .i64),.p (.b)],[],[iv,.p (.i .i64),.p (.i .i64)],[],J.aY × Int × Int,fun d=>abJ F (dN d.1.1) (e2 d.1.2.1) d.1.2.2.1 d.1.2.2.2.1 d.1.2.2.2.2.1,fun d r=>(((r.1.Words,r.1.aL,r.1.aW,r.1.a5,r.1.a2,r.1.aZ,r.1.Next,()),r.2.1,r.2.2,()),())⟩ fun ay az=>by
 obtain ⟨⟨(a1:List Int),(v1:Int),(v2:Int),(bu:Int),(v4:Int),(bZ:List Int),(v6:Int),_⟩,⟨(cq:List J.ap),(cy:List Int),(cH:List (List J.Field)),(v10:List (List (List UInt8))),(v11:List (List J.Target)),_⟩,(df:Int),(dO:Int),(ec:Bool),_⟩:=ay
 conv=>rhs;simp only [abJ,a6,aeF]
 kernel_rfl
noncomputable def akg (F:Nat):aR aH:=(akf F).rt 34 ⟨[.p (.B 0),.p (.l 3)],[fo,.m 3 4],[.p (.i .i64)],[fo,.m 3 4],Int,fun d=>Bs F (⟨(dN d.2.1),(gA d.2.1.2.2.2.2.2.2.2),d.2.1.2.2.2.2.2.2.2.2.2.2.2.2.1,d.2.1.2.2.2.2.2.2.2.2.2.2.2.2.2.1,d.2.2.1⟩:J.bd) d.1.2.1,fun d r=>((r,()),((d.2.1.1,d.2.1.2.1,d.2.1.2.2.1,d.2.1.2.2.2.1,d.2.1.2.2.2.2.1,d.2.1.2.2.2.2.2.1,d.2.1.2.2.2.2.2.2.1,d.2.1.2.2.2.2.2.2.2.1,d.2.1.2.2.2.2.2.2.2.2.1,d.2.1.2.2.2.2.2.2.2.2.2.1,d.2.1.2.2.2.2.2.2.2.2.2.2.1,d.2.1.2.2.2.2.2.2.2.2.2.2.2.1,d.2.1.2.2.2.2.2.2.2.2.2.2.2.2.1,d.2.1.2.2.2.2.2.2.2.2.2.2.2.2.2.1,(),()),d.2.2.1,()))⟩ fun ay az=>by
 conv=>rhs;simp only [Bs,a6]
 kernel_rfl
noncomputable def akh (F:Nat):aR aH:=(akg F).bX 123 0 F ⟨[0,1,5],[.p (.l 136),.p (.l 136),.p (.i .i64)],[],
 [⟨⟨.nm,[],[],[]⟩,Unit,fun d r=>((),())⟩,
  ⟨⟨.rt,[4],[.p (.b)],[]⟩,Bool,fun d r=>((r,()),())⟩],
 fun k d=>a' (y3 d.1.1 d.1.2.1 k d.1.2.2.1)⟩ (bJ.bU (fun d=>rfl) fun k ay az q h=>by
 conv=>rhs;simp only [y3,a6];simp only [bR]
 kernel_rfl)
noncomputable def aki (F:Nat):aR aH:=(akh F).rt 123 ⟨[.p (.l 136),.p (.l 136)],[],[.p (.b)],[],Bool,fun d=>BM F d.1.1 d.1.2.1,fun d r=>((r,()),())⟩ fun ay az=>by
 conv=>rhs;simp only [BM,a6]
 kernel_rfl
noncomputable def akk (F:Nat):aR aH:=(aki F).bX 148 0 F ⟨[0,1,5],[.p (.l 128),.p (.l 128),.p (.i .i64)],[],
 [⟨⟨.nm,[],[],[]⟩,Unit,fun d r=>((),())⟩,
  ⟨⟨.rt,[4],[.p (.b)],[]⟩,Bool,fun d r=>((r,()),())⟩],
 fun k d=>a' (n' d.1.1 d.1.2.1 k d.1.2.2.1)⟩ (bJ.bU (fun d=>rfl) fun k ay az q h=>by
 conv=>rhs;simp only [n',a6];simp only [bR]
 kernel_rfl)
noncomputable def akl (F:Nat):aR aH:=(akk F).rt 148 ⟨[.p (.l 128),.p (.l 128)],[],[.p (.b)],[],Bool,fun d=>sF F d.1.1 d.1.2.1,fun d r=>((r,()),())⟩ fun ay az=>by
 conv=>rhs;simp only [sF,a6]
 kernel_rfl
noncomputable def akm (F:Nat):aR aH:=(akl F).bX 122 4 F ⟨[0,1,5,6,7,8,9,10,11],[.p (.l 134),.p (.l 134),.p (.i .i64),.p (.B 0),.p (.B 1),.p (.i .i64),.p (.B 2),.p (.B 3),.p (.i .i64)],[hH,hH,k7,k7],
 [⟨⟨.nm,[0,1,5,6,7,8],[.p (.l 134),.p (.l 134),.p (.i .i64),.p (.B 0),.p (.B 1),.p (.i .i64)],[hH,hH,k7,k7]⟩,Unit,fun d r=>((d.1.1,d.1.2.1,d.1.2.2.1,(),(),d.1.2.2.2.2.2.1,()),(d.2.1,d.2.2.1,d.2.2.2.1,d.2.2.2.2.1,()))⟩,
  ⟨⟨.rt,[4],[.p (.b)],[.d,.d,.d,.d]⟩,Bool,fun d r=>((r,()),((),(),(),(),()))⟩],
 fun k d=>a' (y2 (r9 d.2.2.2.1) (r9 d.2.2.2.2.1) k d.1.2.2.2.2.2.2.2.2.1)⟩ (bJ.bU (fun d=>rfl) fun k ay az q h=>by
 conv=>rhs;simp only [y2,a6];simp only [bR]
 kernel_rfl)
noncomputable def akn (F:Nat):aR aH:=(akm F).bX 122 2 F ⟨[0,1,5,6,7,8],[.p (.l 134),.p (.l 134),.p (.i .i64),.p (.B 0),.p (.B 1),.p (.i .i64)],[hH,hH],
 [⟨⟨.nm,[0,1,5],[.p (.l 134),.p (.l 134),.p (.i .i64)],[hH,hH]⟩,Unit,fun d r=>((d.1.1,d.1.2.1,d.1.2.2.1,()),(d.2.1,d.2.2.1,()))⟩,
  ⟨⟨.rt,[4],[.p (.b)],[.d,.d]⟩,Bool,fun d r=>((r,()),((),(),()))⟩],
 fun k d=>a' (y1 F (Dy d.2.1) (Dy d.2.2.1) k d.1.2.2.2.2.2.1)⟩ (bJ.bU (fun d=>rfl) fun k ay az q h=>by
 obtain ⟨(a1:List J.ap),(v1:List J.ap),(v2:Int),_,_,(bu:Int),_⟩:=ay
 obtain ⟨⟨(v4:List UInt8),(bZ:List UInt8),(v6:List J.Field),(cq:List J.Method),_⟩,⟨(cy:List UInt8),(cH:List UInt8),(v10:List J.Field),(v11:List J.Method),_⟩,_⟩:=az
 conv=>rhs;simp only [y1,a6,Tw,<-Bool.or_assoc];simp only [bR]
 kernel_rfl)
noncomputable def ako (F:Nat):aR aH:=(akn F).bX 122 0 F ⟨[0,1,5],[.p (.l 134),.p (.l 134),.p (.i .i64)],[],
 [⟨⟨.nm,[],[],[]⟩,Unit,fun d r=>((),())⟩,
  ⟨⟨.rt,[4],[.p (.b)],[]⟩,Bool,fun d r=>((r,()),())⟩],
 fun k d=>a' (y0 F d.1.1 d.1.2.1 k d.1.2.2.1)⟩ (bJ.bU (fun d=>rfl) fun k ay az q h=>by
 conv=>rhs;simp only [y0,a6];simp only [bR]
 kernel_rfl)
noncomputable def akp (F:Nat):aR aH:=(ako F).rt 122 ⟨[.p (.l 134),.p (.l 134)],[],[.p (.b)],[],Bool,fun d=>BL F d.1.1 d.1.2.1,fun d r=>((r,()),())⟩ fun ay az=>by
 conv=>rhs;simp only [BL,a6]
 kernel_rfl
noncomputable def Qp (k:Nat) (b9:J.aU) (cx:J.aU) (ur:Int) (dg:Int):=c9 ((b9.a8.length:Int)=dg/\True) (a' (vp b9 cx k ur))
theorem T_ (k:Nat) (b9:J.aU) (cx:J.aU) (ur:Int):a' (vp b9 cx k ur)=Qp k b9 cx ur (b9.a8.length:Int):=(dy ⟨rfl,trivial⟩).symm
noncomputable def akq (F:Nat):aR aH:=(akp F).bX 87 0 F ⟨[2,3,5,6],[.p (.B 0),.p (.B 1),.p (.i .i64),.p (.i .i64)],[dL,dL],
 [⟨⟨.nm,[2,3],[.p (.B 0),.p (.B 1)],[dL,dL]⟩,Unit,fun d r=>(((),(),()),(d.2.1,d.2.2.1,()))⟩,
  ⟨⟨.rt,[4],[.p (.b)],[.d,.d]⟩,Bool,fun d r=>((r,()),((),(),()))⟩],
 fun k d=>Qp k (e2 d.2.1) (e2 d.2.2.1) d.1.2.2.2.1 d.1.2.2.1⟩ (bJ.bU (fun d=>dx) fun k ay az q h=>by
 obtain ⟨_,_,(a1:Int),(v1:Int),_⟩:=ay
 obtain ⟨⟨(v2:List J.ap),(bu:List Int),(v4:List (List J.Field)),(bZ:List (List (List UInt8))),(v6:List (List J.Target)),_⟩,⟨(cq:List J.ap),(cy:List Int),(cH:List (List J.Field)),(v10:List (List (List UInt8))),(v11:List (List J.Target)),_⟩,_⟩:=az
 obtain ⟨ax,_⟩:=dW h
 dsimp only at ax
 obtain ⟨rfl,_⟩:=ax
 conv=>rhs;change Option.map (α:=Unit ⊕ Bool) _ (Qp (k+ 1) (⟨v2,bu,v4,bZ,v6⟩:J.aU) (⟨cq,cy,cH,v10,v11⟩:J.aU) v1 (bu.length:Int));rw [<-T_ (k+ 1) (⟨v2,bu,v4,bZ,v6⟩:J.aU) (⟨cq,cy,cH,v10,v11⟩:J.aU) v1];simp only [vp,a6,T_];simp only [bR]
 kernel_rfl)
noncomputable def akr (F:Nat):aR aH:=(akq F).bX 87 2 F ⟨[2,3,7],[.p (.B 0),.p (.B 1),.p (.i .i64)],[dL,dL],
 [⟨⟨.nm,[2,3],[.p (.B 0),.p (.B 1)],[dL,dL]⟩,Unit,fun d r=>(((),(),()),(d.2.1,d.2.2.1,()))⟩,
  ⟨⟨.rt,[4],[.p (.b)],[.d,.d]⟩,Bool,fun d r=>((r,()),((),(),()))⟩],
 fun k d=>a' (y4 F (e2 d.2.1) (e2 d.2.2.1) k d.1.2.2.1)⟩ (bJ.bU (fun d=>rfl) fun k ay az q h=>by
 conv=>rhs;simp only [y4,a6];simp only [bR]
 kernel_rfl)
noncomputable def aks (F:Nat):aR aH:=(akr F).bX 87 6 F ⟨[2,3,8,9],[.p (.B 0),.p (.B 1),.p (.i .i64),.p (.i .i64)],[dL,dL],
 [⟨⟨.nm,[2,3,8],[.p (.B 0),.p (.B 1),.p (.i .i64)],[dL,dL]⟩,Unit,fun d r=>(((),(),d.1.2.2.1,()),(d.2.1,d.2.2.1,()))⟩,
  ⟨⟨.rt,[4],[.p (.b)],[.d,.d]⟩,Bool,fun d r=>((r,()),((),(),()))⟩],
 fun k d=>a' (y6 (e2 d.2.1) (e2 d.2.2.1) d.1.2.2.1 k d.1.2.2.2.1)⟩ (bJ.bU (fun d=>rfl) fun k ay az q h=>by
 conv=>rhs;simp only [y6,a6];simp only [bR]
 kernel_rfl)
noncomputable def akt (F:Nat):aR aH:=(aks F).bX 87 4 F ⟨[2,3,8],[.p (.B 0),.p (.B 1),.p (.i .i64)],[dL,dL],
 [⟨⟨.nm,[2,3],[.p (.B 0),.p (.B 1)],[dL,dL]⟩,Unit,fun d r=>(((),(),()),(d.2.1,d.2.2.1,()))⟩,
  ⟨⟨.rt,[4],[.p (.b)],[.d,.d]⟩,Bool,fun d r=>((r,()),((),(),()))⟩],
 fun k d=>a' (y5 F (e2 d.2.1) (e2 d.2.2.1) k d.1.2.2.1)⟩ (bJ.bU (fun d=>rfl) fun k ay az q h=>by
 conv=>rhs;simp only [y5,a6];simp only [bR]
 kernel_rfl)
noncomputable def akv (F:Nat):aR aH:=(akt F).bX 87 10 F ⟨[2,3,10,11],[.p (.B 0),.p (.B 1),.p (.i .i64),.p (.i .i64)],[dL,dL],
 [⟨⟨.nm,[2,3,10],[.p (.B 0),.p (.B 1),.p (.i .i64)],[dL,dL]⟩,Unit,fun d r=>(((),(),d.1.2.2.1,()),(d.2.1,d.2.2.1,()))⟩,
  ⟨⟨.rt,[4],[.p (.b)],[.d,.d]⟩,Bool,fun d r=>((r,()),((),(),()))⟩],
 fun k d=>a' (y8 (e2 d.2.1) (e2 d.2.2.1) d.1.2.2.1 k d.1.2.2.2.1)⟩ (bJ.bU (fun d=>rfl) fun k ay az q h=>by
 conv=>rhs;simp only [y8,a6];simp only [bR]
 kernel_rfl)
noncomputable def akw (F:Nat):aR aH:=(akv F).bX 87 8 F ⟨[2,3,10],[.p (.B 0),.p (.B 1),.p (.i .i64)],[dL,dL],
 [⟨⟨.nm,[],[],[dL,dL]⟩,Unit,fun d r=>((),(d.2.1,d.2.2.1,()))⟩,
  ⟨⟨.rt,[4],[.p (.b)],[.d,.d]⟩,Bool,fun d r=>((r,()),((),(),()))⟩],
 fun k d=>a' (y7 F (e2 d.2.1) (e2 d.2.2.1) k d.1.2.2.1)⟩ (bJ.bU (fun d=>rfl) fun k ay az q h=>by
 conv=>rhs;simp only [y7,a6];simp only [bR]
 kernel_rfl)
noncomputable def akx (F:Nat):aR aH:=(akw F).rt 87 ⟨[gY,gY],[],[.p (.b)],[],Bool,fun d=>BN F (e2 d.1.1) (e2 d.1.2.1),fun d r=>((r,()),())⟩ fun ay az=>by
 obtain ⟨⟨(a1:List J.ap),(v1:List Int),(v2:List (List J.Field)),(bu:List (List (List UInt8))),(v4:List (List J.Target)),_⟩,⟨(bZ:List J.ap),(v6:List Int),(cq:List (List J.Field)),(cy:List (List (List UInt8))),(cH:List (List J.Target)),_⟩,_⟩:=ay
 conv=>rhs;simp only [BN,a6,T_]
 kernel_rfl
noncomputable def aky (F:Nat):aR aH:=(akx F).bX 164 0 F ⟨[0,3],[.p (.s),.p (.i .i64)],[],
 [⟨⟨.nm,[0],[.p (.s)],[]⟩,Unit,fun d r=>((d.1.1,()),())⟩,
  ⟨⟨.rt,[2],[.p (.b)],[]⟩,Bool,fun d r=>((r,()),())⟩],
 fun k d=>a' (qW d.1.1 k d.1.2.1)⟩ (bJ.bU (fun d=>rfl) fun k ay az q h=>by
 conv=>rhs;simp only [qW,a6];simp only [bR]
 kernel_rfl)
noncomputable def akz (F:Nat):aR aH:=(aky F).rt 164 ⟨[.p (.s)],[],[.p (.b)],[],Bool,fun d=>m' F d.1.1,fun d r=>((r,()),())⟩ fun ay az=>by
 conv=>rhs;simp only [m',a6]
 kernel_rfl
noncomputable def akA (F:Nat):aR aH:=(akz F).rt 165 ⟨[.a [.i .i64,.s]],[],[.p (.b)],[],Bool,fun d=>sE F (Hy d.1.1),fun d r=>((r,()),())⟩ fun ay az=>by
 conv=>rhs;simp only [sE,a6]
 kernel_rfl
noncomputable def akB (F:Nat):aR aH:=(akA F).rt 42 ⟨[.p (.i .i64),.p (.i .i64),.p (.i .i64)],[],[.p (.b)],[],Bool,fun d=>fv d.1.1 d.1.2.1 d.1.2.2.1,fun d r=>((r,()),())⟩ fun ay az=>by
 conv=>rhs;simp only [fv,a6]
 kernel_rfl
noncomputable def akC (F:Nat):aR aH:=(akB F).bX 166 0 F ⟨[1,3],[.p (.B 0),.p (.i .i64)],[k7],
 [⟨⟨.nm,[1],[.p (.B 0)],[k7]⟩,Unit,fun d r=>(((),()),(d.2.1,()))⟩,
  ⟨⟨.rt,[2],[.p (.i .i64)],[.d]⟩,Int,fun d r=>((r,()),((),()))⟩],
 fun k d=>a' (yR F (r9 d.2.1) k d.1.2.1)⟩ (bJ.bU (fun d=>rfl) fun k ay az q h=>by
 conv=>rhs;simp only [yR,a6];simp only [bR]
 kernel_rfl)
noncomputable def akD (F:Nat):aR aH:=(akC F).bX 166 2 F ⟨[1,4],[.p (.B 0),.p (.i .i64)],[k7],
 [⟨⟨.nm,[],[],[k7]⟩,Unit,fun d r=>((),(d.2.1,()))⟩,
  ⟨⟨.rt,[2],[.p (.i .i64)],[.d]⟩,Int,fun d r=>((r,()),((),()))⟩],
 fun k d=>a' (yS F (r9 d.2.1) k d.1.2.1)⟩ (bJ.bU (fun d=>rfl) fun k ay az q h=>by
 conv=>rhs;simp only [yS,a6];simp only [bR]
 kernel_rfl)
noncomputable def akE (F:Nat):aR aH:=(akD F).rt 166 ⟨[LH],[],[.p (.i .i64)],[],Int,fun d=>yQ F (r9 d.1.1),fun d r=>((r,()),())⟩ fun ay az=>by
 conv=>rhs;simp only [yQ,a6]
 kernel_rfl
theorem ayO (F:Nat) (k:Nat) (ff:J.ap) (Ap:Int):a' (BG F ff k Ap)=a' (vg F ff k Ap):=by kernel_rfl
noncomputable def akG (F:Nat):aR aH:=(akE F).bX 145 2 F ⟨[0,3,4,5],[.p (.l 134),.p (.i .i64),.p (.B 0),.p (.i .i64)],[hH],
 [⟨⟨.nm,[0,3,4],[.p (.l 134),.p (.i .i64),.p (.B 0)],[hH]⟩,Unit,fun d r=>((d.1.1,d.1.2.1,(),()),(d.2.1,()))⟩,
  ⟨⟨.rt,[2],[.p (.i .i64)],[.d]⟩,Int,fun d r=>((r,()),((),()))⟩],
 fun k d=>a' (vg F (Dy d.2.1) k d.1.2.2.2.1)⟩ (bJ.bU (fun d=>rfl) fun k ay az q h=>by
 conv=>rhs;simp only [vg,a6];simp only [bR]
 kernel_rfl)
theorem ayP (F:Nat) (k:Nat) (ff:J.ap) (C1:Int):a' (BH F ff k C1)=a' (vh F ff k C1):=by kernel_rfl
noncomputable def akH (F:Nat):aR aH:=(akG F).bX 145 4 F ⟨[0,3,4,6],[.p (.l 134),.p (.i .i64),.p (.B 0),.p (.i .i64)],[hH],
 [⟨⟨.nm,[0,3],[.p (.l 134),.p (.i .i64)],[hH]⟩,Unit,fun d r=>((d.1.1,d.1.2.1,()),(d.2.1,()))⟩,
  ⟨⟨.rt,[2],[.p (.i .i64)],[.d]⟩,Int,fun d r=>((r,()),((),()))⟩],
 fun k d=>a' (vh F (Dy d.2.1) k d.1.2.2.2.1)⟩ (bJ.bU (fun d=>rfl) fun k ay az q h=>by
 conv=>rhs;simp only [vh,a6];simp only [bR]
 kernel_rfl)
noncomputable def akI (F:Nat):aR aH:=(akH F).bX 145 0 F ⟨[0,3],[.p (.l 134),.p (.i .i64)],[],
 [⟨⟨.nm,[],[],[]⟩,Unit,fun d r=>((),())⟩,
  ⟨⟨.rt,[2],[.p (.i .i64)],[]⟩,Int,fun d r=>((r,()),())⟩],
 fun k d=>a' (yB F d.1.1 k d.1.2.1)⟩ (bJ.bU (fun d=>rfl) fun k ay az q h=>by
 obtain ⟨(a1:List J.ap),(v1:Int),_⟩:=ay
 conv=>rhs;simp only [yB,a6,ayO,ayP];simp only [bR]
 kernel_rfl)
noncomputable def akJ (F:Nat):aR aH:=(akI F).rt 145 ⟨[.p (.l 134)],[],[.p (.i .i64)],[],Int,fun d=>Ew F d.1.1,fun d r=>((r,()),())⟩ fun ay az=>by
 conv=>rhs;simp only [Ew,a6]
 kernel_rfl
noncomputable def akK (F:Nat):aR aH:=(akJ F).bX 121 0 F ⟨[0,1,5],[.p (.l 134),.p (.s),.p (.i .i64)],[],
 [⟨⟨.nm,[],[],[]⟩,Unit,fun d r=>((),())⟩,
  ⟨⟨.rt,[4],[.p (.i .i64)],[]⟩,Int,fun d r=>((r,()),())⟩],
 fun k d=>a' (yT d.1.1 d.1.2.1 k d.1.2.2.1)⟩ (bJ.bU (fun d=>rfl) fun k ay az q h=>by
 conv=>rhs;simp only [yT,a6];simp only [bR]
 kernel_rfl)
noncomputable def akL (F:Nat):aR aH:=(akK F).rt 121 ⟨[.p (.l 134),.p (.s)],[],[.p (.i .i64)],[],Int,fun d=>m9 F d.1.1 d.1.2.1,fun d r=>((r,()),())⟩ fun ay az=>by
 conv=>rhs;simp only [m9,a6]
 kernel_rfl
noncomputable def akM (F:Nat):aR aH:=(akL F).bX 146 0 F ⟨[0,1,5],[.p (.l 134),.p (.i .i64),.p (.l 3)],[],
 [⟨⟨.nm,[5],[.p (.l 3)],[]⟩,List Int,fun d r=>((r,()),())⟩,
  ⟨⟨.rt,[4],[.p (.l 3)],[]⟩,List Int,fun d r=>((r,()),())⟩],
 fun k d=>a' (za F d.1.1 k d.1.2.1 d.1.2.2.1)⟩ (bJ.bU (fun d=>rfl) fun k ay az q h=>by
 conv=>rhs;simp only [za,a6];simp only [bR]
 kernel_rfl)
noncomputable def akN (F:Nat):aR aH:=(akM F).rt 146 ⟨[.p (.l 134),.p (.i .i64)],[],[.p (.l 3)],[],List Int,fun d=>vu F d.1.1 d.1.2.1,fun d r=>((r,()),())⟩ fun ay az=>by
 conv=>rhs;simp only [vu,a6]
 kernel_rfl
noncomputable def akO (F:Nat):aR aH:=(akN F).bX 119 0 F ⟨[0,5,6,7],[.p (.l 134),.p (.R 0),.p (.l 3),.p (.i .i64)],[.r 136 false],
 [⟨⟨.nm,[5],[.p (.R 0)],[.r 136 false]⟩,List J.Field,fun d r=>(((),()),(r,()))⟩],
 fun k d=>qS d.1.1 d.1.2.2.1 k d.2.1 d.1.2.2.2.1⟩ (bJ.bU (fun d=>rfl) fun k ay az q h=>by
 conv=>rhs;simp only [qS,a6];simp only [bR]
 kernel_rfl)
noncomputable def akP (F:Nat):aR aH:=(akO F).rt 119 ⟨[.p (.l 134),.p (.i .i64)],[],[.p (.l 136)],[],List J.Field,fun d=>yA F d.1.1 d.1.2.1,fun d r=>((r,()),())⟩ fun ay az=>by
 conv=>rhs;simp only [yA,a6]
 kernel_rfl
noncomputable def akR (F:Nat):aR aH:=(akP F).bX 147 0 F ⟨[0,1,5],[.p (.l 134),.p (.l 128),.p (.i .i64)],[],
 [⟨⟨.nm,[],[],[]⟩,Unit,fun d r=>((),())⟩,
  ⟨⟨.rt,[4],[.p (.b)],[]⟩,Bool,fun d r=>((r,()),())⟩],
 fun k d=>a' (vr F d.1.2.1 d.1.1 k d.1.2.2.1)⟩ (bJ.bU (fun d=>rfl) fun k ay az q h=>by
 conv=>rhs;simp only [vr,a6];simp only [bR]
 kernel_rfl)
noncomputable def akS (F:Nat):aR aH:=(akR F).rt 147 ⟨[.p (.l 134),.p (.l 128)],[],[.p (.b)],[],Bool,fun d=>y' F d.1.1 d.1.2.1,fun d r=>((r,()),())⟩ fun ay az=>by
 conv=>rhs;simp only [y',a6]
 kernel_rfl
noncomputable def akT (F:Nat):aR aH:=(akS F).bX 118 0 F ⟨[0,4],[.p (.l 134),.p (.i .i64)],[],
 [⟨⟨.nm,[0],[.p (.l 134)],[]⟩,Unit,fun d r=>((d.1.1,()),())⟩,
  ⟨⟨.rt,[2],[.p (.i .i64)],[]⟩,Int,fun d r=>((r,()),())⟩],
 fun k d=>a' (sB F d.1.1 k d.1.2.1)⟩ (bJ.bU (fun d=>rfl) fun k ay az q h=>by
 conv=>rhs;simp only [sB,a6];simp only [bR]
 kernel_rfl)
noncomputable def akU (F:Nat):aR aH:=(akT F).bX 118 2 F ⟨[0,5],[.p (.l 134),.p (.i .i64)],[],
 [⟨⟨.nm,[0],[.p (.l 134)],[]⟩,Unit,fun d r=>((d.1.1,()),())⟩,
  ⟨⟨.rt,[2],[.p (.i .i64)],[]⟩,Int,fun d r=>((r,()),())⟩],
 fun k d=>a' (yK d.1.1 k d.1.2.1)⟩ (bJ.bU (fun d=>rfl) fun k ay az q h=>by
 conv=>rhs;simp only [yK,a6];simp only [bR]
 kernel_rfl)
noncomputable def akV (F:Nat):aR aH:=(akU F).bX 118 4 F ⟨[0,6],[.p (.l 134),.p (.i .i64)],[],
 [⟨⟨.nm,[0],[.p (.l 134)],[]⟩,Unit,fun d r=>((d.1.1,()),())⟩,
  ⟨⟨.rt,[2],[.p (.i .i64)],[]⟩,Int,fun d r=>((r,()),())⟩],
 fun k d=>a' (vl F d.1.1 k d.1.2.1)⟩ (bJ.bU (fun d=>rfl) fun k ay az q h=>by
 conv=>rhs;simp only [vl,a6];simp only [bR]
 kernel_rfl)
noncomputable def akW (F:Nat):aR aH:=(akV F).bX 118 6 F ⟨[0,7],[.p (.l 134),.p (.i .i64)],[],
 [⟨⟨.nm,[0],[.p (.l 134)],[]⟩,Unit,fun d r=>((d.1.1,()),())⟩,
  ⟨⟨.rt,[2],[.p (.i .i64)],[]⟩,Int,fun d r=>((r,()),())⟩],
 fun k d=>a' (yL F d.1.1 k d.1.2.1)⟩ (bJ.bU (fun d=>rfl) fun k ay az q h=>by
 conv=>rhs;simp only [yL,a6];simp only [bR]
 kernel_rfl)
noncomputable def akX (F:Nat):aR aH:=(akW F).bX 118 10 F ⟨[0,10,11],[.p (.l 134),.p (.i .i64),.p (.i .i64)],[],
 [⟨⟨.nm,[0,10],[.p (.l 134),.p (.i .i64)],[]⟩,Unit,fun d r=>((d.1.1,d.1.2.1,()),())⟩,
  ⟨⟨.rt,[2],[.p (.i .i64)],[]⟩,Int,fun d r=>((r,()),())⟩],
 fun k d=>a' (yM F d.1.1 d.1.2.1 k d.1.2.2.1)⟩ (bJ.bU (fun d=>rfl) fun k ay az q h=>by
 conv=>rhs;simp only [yM,a6];simp only [bR]
 kernel_rfl)
noncomputable def akY (F:Nat):aR aH:=(akX F).bX 118 14 F ⟨[0,10,12,13,14],[.p (.l 134),.p (.i .i64),.p (.i .i64),.p (.B 0),.p (.i .i64)],[k7],
 [⟨⟨.nm,[0,10,12],[.p (.l 134),.p (.i .i64),.p (.i .i64)],[k7]⟩,Unit,fun d r=>((d.1.1,d.1.2.1,d.1.2.2.1,()),(d.2.1,()))⟩,
  ⟨⟨.rt,[2],[.p (.i .i64)],[.d]⟩,Int,fun d r=>((r,()),((),()))⟩],
 fun k d=>a' (yO F d.1.1 (r9 d.2.1) k d.1.2.2.2.2.1)⟩ (bJ.bU (fun d=>rfl) fun k ay az q h=>by
 conv=>rhs;simp only [yO,a6];simp only [bR]
 kernel_rfl)
noncomputable def akZ (F:Nat):aR aH:=(akY F).bX 118 12 F ⟨[0,10,12],[.p (.l 134),.p (.i .i64),.p (.i .i64)],[],
 [⟨⟨.nm,[0,10],[.p (.l 134),.p (.i .i64)],[]⟩,Unit,fun d r=>((d.1.1,d.1.2.1,()),())⟩,
  ⟨⟨.rt,[2],[.p (.i .i64)],[]⟩,Int,fun d r=>((r,()),())⟩],
 fun k d=>a' (yN F d.1.1 d.1.2.1 k d.1.2.2.1)⟩ (bJ.bU (fun d=>rfl) fun k ay az q h=>by
 conv=>rhs;simp only [yN,a6];simp only [bR]
 kernel_rfl)
noncomputable def ak0 (F:Nat):aR aH:=(akZ F).bX 118 8 F ⟨[0,10],[.p (.l 134),.p (.i .i64)],[],
 [⟨⟨.nm,[0],[.p (.l 134)],[]⟩,Unit,fun d r=>((d.1.1,()),())⟩,
  ⟨⟨.rt,[2],[.p (.i .i64)],[]⟩,Int,fun d r=>((r,()),())⟩],
 fun k d=>a' (vm F d.1.1 k d.1.2.1)⟩ (bJ.bU (fun d=>rfl) fun k ay az q h=>by
 conv=>rhs;simp only [vm,a6];simp only [bR]
 kernel_rfl)
noncomputable def ak2 (F:Nat):aR aH:=(ak0 F).bX 118 20 F ⟨[0,15,16,17,18],[.p (.l 134),.p (.i .i64),.p (.l 136),.p (.i .i64),.p (.i .i64)],[],
 [⟨⟨.nm,[0,15,16,17],[.p (.l 134),.p (.i .i64),.p (.l 136),.p (.i .i64)],[]⟩,Unit,fun d r=>((d.1.1,d.1.2.1,d.1.2.2.1,d.1.2.2.2.1,()),())⟩,
  ⟨⟨.rt,[2],[.p (.i .i64)],[]⟩,Int,fun d r=>((r,()),())⟩],
 fun k d=>a' (yG d.1.2.2.1 d.1.2.2.2.1 k d.1.2.2.2.2.1)⟩ (bJ.bU (fun d=>rfl) fun k ay az q h=>by
 conv=>rhs;simp only [yG,a6];simp only [bR]
 kernel_rfl)
noncomputable def ak3 (F:Nat):aR aH:=(ak2 F).bX 118 18 F ⟨[0,15,16,17],[.p (.l 134),.p (.i .i64),.p (.l 136),.p (.i .i64)],[],
 [⟨⟨.nm,[0,15],[.p (.l 134),.p (.i .i64)],[]⟩,Unit,fun d r=>((d.1.1,d.1.2.1,()),())⟩,
  ⟨⟨.rt,[2],[.p (.i .i64)],[]⟩,Int,fun d r=>((r,()),())⟩],
 fun k d=>a' (yF F d.1.2.2.1 k d.1.2.2.2.1)⟩ (bJ.bU (fun d=>rfl) fun k ay az q h=>by
 conv=>rhs;simp only [yF,a6];simp only [bR]
 kernel_rfl)
noncomputable def Qm (k:Nat) (hT:J.ap) (iu:Int) (rP:Int):=c9 (True) (a' (qV hT iu k rP))
theorem T7 (k:Nat) (hT:J.ap) (iu:Int) (rP:Int):a' (qV hT iu k rP)=Qm k (⟨[],[],[],hT.bc⟩:J.ap) iu rP:=(show a' (qV hT iu k rP)=a' (qV (⟨[],[],[],hT.bc⟩:J.ap) iu k rP) by kernel_rfl).trans (dy trivial).symm
noncomputable def ak4 (F:Nat):aR aH:=(ak3 F).bX 118 24 F ⟨[0,15,19,20,21],[.p (.l 134),.p (.i .i64),.p (.l 131),.p (.i .i64),.p (.i .i64)],[],
 [⟨⟨.nm,[0,15,19,20],[.p (.l 134),.p (.i .i64),.p (.l 131),.p (.i .i64)],[]⟩,Unit,fun d r=>((d.1.1,d.1.2.1,d.1.2.2.1,d.1.2.2.2.1,()),())⟩,
  ⟨⟨.rt,[2],[.p (.i .i64)],[]⟩,Int,fun d r=>((r,()),())⟩],
 fun k d=>Qm k (⟨[],[],[],d.1.2.2.1⟩:J.ap) d.1.2.2.2.1 d.1.2.2.2.2.1⟩ (bJ.bU (fun d=>dx) fun k ay az q h=>by
 obtain ⟨(a1:List J.ap),(v1:Int),(v2:List J.Method),(bu:Int),(v4:Int),_⟩:=ay
 conv=>rhs;change Option.map (α:=Unit ⊕ Int) _ (Qm (k+ 1) (⟨[],[],[],v2⟩:J.ap) bu v4);rw [<-T7 (k+ 1) (⟨[],[],[],v2⟩:J.ap) bu v4];simp only [qV,a6,T7];simp only [bR]
 kernel_rfl)
noncomputable def Ql (F:Nat) (k:Nat) (hT:J.ap) (iu:Int):=c9 (True) (a' (qU F hT k iu))
theorem T6 (F:Nat) (k:Nat) (hT:J.ap) (iu:Int):a' (qU F hT k iu)=Ql F k (⟨[],[],[],hT.bc⟩:J.ap) iu:=(show a' (qU F hT k iu)=a' (qU F (⟨[],[],[],hT.bc⟩:J.ap) k iu) by kernel_rfl).trans (dy trivial).symm
noncomputable def ak5 (F:Nat):aR aH:=(ak4 F).bX 118 22 F ⟨[0,15,19,20],[.p (.l 134),.p (.i .i64),.p (.l 131),.p (.i .i64)],[],
 [⟨⟨.nm,[0,15],[.p (.l 134),.p (.i .i64)],[]⟩,Unit,fun d r=>((d.1.1,d.1.2.1,()),())⟩,
  ⟨⟨.rt,[2],[.p (.i .i64)],[]⟩,Int,fun d r=>((r,()),())⟩],
 fun k d=>Ql F k (⟨[],[],[],d.1.2.2.1⟩:J.ap) d.1.2.2.2.1⟩ (bJ.bU (fun d=>dx) fun k ay az q h=>by
 obtain ⟨(a1:List J.ap),(v1:Int),(v2:List J.Method),(bu:Int),_⟩:=ay
 conv=>rhs;change Option.map (α:=Unit ⊕ Int) _ (Ql F (k+ 1) (⟨[],[],[],v2⟩:J.ap) bu);rw [<-T6 F (k+ 1) (⟨[],[],[],v2⟩:J.ap) bu];simp only [qU,a6,T7,T6];simp only [bR]
 kernel_rfl)
noncomputable def ak6 (F:Nat):aR aH:=(ak5 F).bX 118 16 F ⟨[0,15],[.p (.l 134),.p (.i .i64)],[],
 [⟨⟨.nm,[0],[.p (.l 134)],[]⟩,Unit,fun d r=>((d.1.1,()),())⟩,
  ⟨⟨.rt,[2],[.p (.i .i64)],[]⟩,Int,fun d r=>((r,()),())⟩],
 fun k d=>a' (yP F d.1.1 k d.1.2.1)⟩ (bJ.bU (fun d=>rfl) fun k ay az q h=>by
 obtain ⟨(a1:List J.ap),(v1:Int),_⟩:=ay
 conv=>rhs;simp only [yP,a6,T6];simp only [bR]
 kernel_rfl)
noncomputable def ak7 (F:Nat):aR aH:=(ak6 F).bX 118 32 F ⟨[0,22,23,24,25,26],[.p (.l 134),.p (.i .i64),.p (.l 3),.p (.i .i64),.p (.i .i64),.p (.i .i64)],[],
 [⟨⟨.nm,[0,22,23,24,25],[.p (.l 134),.p (.i .i64),.p (.l 3),.p (.i .i64),.p (.i .i64)],[]⟩,Unit,fun d r=>((d.1.1,d.1.2.1,d.1.2.2.1,d.1.2.2.2.1,d.1.2.2.2.2.1,()),())⟩,
  ⟨⟨.rt,[2],[.p (.i .i64)],[]⟩,Int,fun d r=>((r,()),())⟩],
 fun k d=>a' (vk F d.1.1 d.1.2.1 d.1.2.2.1 d.1.2.2.2.1 d.1.2.2.2.2.1 k d.1.2.2.2.2.2.1)⟩ (bJ.bU (fun d=>rfl) fun k ay az q h=>by
 obtain ⟨(a1:List J.ap),(v1:Int),(v2:List Int),(bu:Int),(v4:Int),(bZ:Int),_⟩:=ay
 conv=>rhs;simp only [vk,a6,Tw];simp only [bR]
 kernel_rfl)
noncomputable def ak8 (F:Nat):aR aH:=(ak7 F).bX 118 30 F ⟨[0,22,23,24,25],[.p (.l 134),.p (.i .i64),.p (.l 3),.p (.i .i64),.p (.i .i64)],[],
 [⟨⟨.nm,[0,22,23,24],[.p (.l 134),.p (.i .i64),.p (.l 3),.p (.i .i64)],[]⟩,Unit,fun d r=>((d.1.1,d.1.2.1,d.1.2.2.1,d.1.2.2.2.1,()),())⟩,
  ⟨⟨.rt,[2],[.p (.i .i64)],[]⟩,Int,fun d r=>((r,()),())⟩],
 fun k d=>a' (yJ F d.1.1 d.1.2.1 d.1.2.2.1 d.1.2.2.2.1 k d.1.2.2.2.2.1)⟩ (bJ.bU (fun d=>rfl) fun k ay az q h=>by
 conv=>rhs;simp only [yJ,a6];simp only [bR]
 kernel_rfl)
noncomputable def ak9 (F:Nat):aR aH:=(ak8 F).bX 118 28 F ⟨[0,22,23,24],[.p (.l 134),.p (.i .i64),.p (.l 3),.p (.i .i64)],[],
 [⟨⟨.nm,[0,22],[.p (.l 134),.p (.i .i64)],[]⟩,Unit,fun d r=>((d.1.1,d.1.2.1,()),())⟩,
  ⟨⟨.rt,[2],[.p (.i .i64)],[]⟩,Int,fun d r=>((r,()),())⟩],
 fun k d=>a' (yI F d.1.1 d.1.2.1 d.1.2.2.1 k d.1.2.2.2.1)⟩ (bJ.bU (fun d=>rfl) fun k ay az q h=>by
 conv=>rhs;simp only [yI,a6];simp only [bR]
 kernel_rfl)
noncomputable def ak_ (F:Nat):aR aH:=(ak9 F).bX 118 26 F ⟨[0,22],[.p (.l 134),.p (.i .i64)],[],
 [⟨⟨.nm,[],[],[]⟩,Unit,fun d r=>((),())⟩,
  ⟨⟨.rt,[2],[.p (.i .i64)],[]⟩,Int,fun d r=>((r,()),())⟩],
 fun k d=>a' (yH F d.1.1 k d.1.2.1)⟩ (bJ.bU (fun d=>rfl) fun k ay az q h=>by
 conv=>rhs;simp only [yH,a6];simp only [bR]
 kernel_rfl)
noncomputable def ak' (F:Nat):aR aH:=(ak_ F).rt 118 ⟨[.p (.l 134)],[],[.p (.i .i64)],[],Int,fun d=>Ex F d.1.1,fun d r=>((r,()),())⟩ fun ay az=>by
 conv=>rhs;simp only [Ex,a6]
 kernel_rfl
noncomputable def Qq (k:Nat) (k1:List (List UInt8)) (o7:J.Method) (oN:Int):=c9 (True) (pi k1 o7 k oN)
theorem T' (k:Nat) (k1:List (List UInt8)) (o7:J.Method) (oN:Int):pi k1 o7 k oN=Qq k k1 (⟨o7.Name,false,[],(⟨0,[]⟩:J.Kind),0,0,[],[]⟩:J.Method) oN:=(show pi k1 o7 k oN=pi k1 (⟨o7.Name,false,[],(⟨0,[]⟩:J.Kind),0,0,[],[]⟩:J.Method) k oN by kernel_rfl).trans (dy trivial).symm
noncomputable def alb (F:Nat):aR aH:=(ak' F).bX 120 4 F ⟨[0,6,7,8,9,10,11,12],[.p (.l 134),.p (.R 0),.p (.R 1),.p (.l 3),.p (.i .i64),.p (.i .i64),.p (.s),.p (.i .i64)],[.r 9 false,.r 166 false],
 [⟨⟨.nm,[0,6,7,8,9,10,11,12],[.p (.l 134),.p (.R 0),.p (.R 1),.p (.l 3),.p (.i .i64),.p (.i .i64),.p (.s),.p (.i .i64)],[.r 9 false,.r 166 false]⟩,Int,fun d r=>((d.1.1,(),(),d.1.2.2.2.1,d.1.2.2.2.2.1,d.1.2.2.2.2.2.1,d.1.2.2.2.2.2.2.1,r,()),(d.2.1,d.2.2.1,()))⟩],
 fun k d=>Qq k d.2.1 (⟨d.1.2.2.2.2.2.2.1,false,[],(⟨0,[]⟩:J.Kind),0,0,[],[]⟩:J.Method) d.1.2.2.2.2.2.2.2.1⟩ (bJ.bU (fun d=>dx) fun k ay az q h=>by
 obtain ⟨(a1:List J.ap),_,_,(v1:List Int),(v2:Int),(bu:Int),(v4:List UInt8),(bZ:Int),_⟩:=ay
 obtain ⟨(v6:List (List UInt8)),(cq:List J.Target),_⟩:=az
 conv=>rhs;change Option.map (α:=Int) _ (Qq (k+ 1) v6 (⟨v4,false,[],(⟨0,[]⟩:J.Kind),0,0,[],[]⟩:J.Method) bZ);rw [<-T' (k+ 1) v6 (⟨v4,false,[],(⟨0,[]⟩:J.Kind),0,0,[],[]⟩:J.Method) bZ];simp only [pi,a6,T'];simp only [bR]
 kernel_rfl)
noncomputable def alc (F:Nat):aR aH:=(alb F).bX 120 2 F ⟨[0,6,7,8,9,10],[.p (.l 134),.p (.R 0),.p (.R 1),.p (.l 3),.p (.i .i64),.p (.i .i64)],[.r 9 false,.r 166 false],
 [⟨⟨.nm,[0,6,7,8,9],[.p (.l 134),.p (.R 0),.p (.R 1),.p (.l 3),.p (.i .i64)],[.r 9 false,.r 166 false]⟩,(List J.Target) × (List (List UInt8)),fun d r=>((d.1.1,(),(),d.1.2.2.2.1,d.1.2.2.2.2.1,()),(r.2,r.1,()))⟩],
 fun k d=>y_ F d.1.1 d.1.2.2.2.1 d.1.2.2.2.2.1 k d.2.2.1 d.2.1 d.1.2.2.2.2.2.1⟩ (bJ.bU (fun d=>rfl) fun k ay az q h=>by
 obtain ⟨(a1:List J.ap),_,_,(v1:List Int),(v2:Int),(bu:Int),_⟩:=ay
 obtain ⟨(v4:List (List UInt8)),(bZ:List J.Target),_⟩:=az
 conv=>rhs;simp only [y_,a6,T'];simp only [bR]
 kernel_rfl)
noncomputable def ald (F:Nat):aR aH:=(alc F).bX 120 0 F ⟨[0,6,7,8,9],[.p (.l 134),.p (.R 0),.p (.R 1),.p (.l 3),.p (.i .i64)],[.r 9 false,.r 166 false],
 [⟨⟨.nm,[6,7],[.p (.R 0),.p (.R 1)],[.r 9 false,.r 166 false]⟩,(List J.Target) × (List (List UInt8)),fun d r=>(((),(),()),(r.2,r.1,()))⟩],
 fun k d=>y9 F d.1.1 d.1.2.2.2.1 k d.2.2.1 d.2.1 d.1.2.2.2.2.1⟩ (bJ.bU (fun d=>rfl) fun k ay az q h=>by
 conv=>rhs;simp only [y9,a6];simp only [bR]
 kernel_rfl)
noncomputable def ale (F:Nat):aR aH:=(ald F).rt 120 ⟨[.p (.l 134),.p (.i .i64)],[],[.p (.l 9),.p (.l 166)],[],(List (List UInt8)) × (List J.Target),fun d=>ED F d.1.1 d.1.2.1,fun d r=>((r.1,r.2,()),())⟩ fun ay az=>by
 conv=>rhs;simp only [ED,a6]
 kernel_rfl
noncomputable def Qo (F:Nat) (k:Nat) (a_:List J.ap) (z3:List (List J.Target)) (z4:List (List (List UInt8))) (z5:List (List J.Field)) (z6:List Int) (rL:Int) (al:List J.ap) (aV:List Int) (bS:List (List J.Field)) (dw:List (List (List UInt8))) (gR:List (List J.Target)) (kM:List J.ap):=c9 (([]:List J.ap)=al/\([]:List Int)=aV/\([]:List (List J.Field))=bS/\([]:List (List (List UInt8)))=dw/\([]:List (List J.Target))=gR/\(a_:List J.ap)=kM/\True) (a' (pg F a_ k z3 z4 z5 z6 rL))
theorem T9 (F:Nat) (k:Nat) (a_:List J.ap) (z3:List (List J.Target)) (z4:List (List (List UInt8))) (z5:List (List J.Field)) (z6:List Int) (rL:Int):a' (pg F a_ k z3 z4 z5 z6 rL)=Qo F k a_ z3 z4 z5 z6 rL [] [] [] [] [] a_:=(dy ⟨rfl,rfl,rfl,rfl,rfl,rfl,trivial⟩).symm
noncomputable def alf (F:Nat):aR aH:=(ale F).bX 86 0 F ⟨[0,2,5,6],[.p (.l 134),.p (.B 0),.p (.B 1),.p (.i .i64)],[dL,aea,.r 3 false,.r 124 false,.r 120 false,.r 121 false],
 [⟨⟨.nm,[2,5],[.p (.B 0),.p (.B 1)],[dL,aea,.r 3 false,.r 124 false,.r 120 false,.r 121 false]⟩,(List (List J.Target)) × (List (List (List UInt8))) × (List (List J.Field)) × (List Int),fun d r=>(((),(),()),(d.2.1,(d.2.2.1.1,(),(),(),(),()),r.2.2.2,r.2.2.1,r.2.1,r.1,()))⟩,
  ⟨⟨.rt,[2,3],[.p (.B 0),.p (.i .i64)],[dL,.d,.d,.d,.d,.d]⟩,J.aU × Int,fun d r=>(((),r.2,()),((r.1.ba,r.1.a8,r.1.Fields,r.1.Names,r.1.a9,()),(),(),(),(),(),()))⟩],
 fun k d=>Qo F k d.1.1 d.2.2.2.2.2.2.1 d.2.2.2.2.2.1 d.2.2.2.2.1 d.2.2.2.1 d.1.2.2.2.1 d.2.1.1 d.2.1.2.1 d.2.1.2.2.1 d.2.1.2.2.2.1 d.2.1.2.2.2.2.1 d.2.2.1.1⟩ (bJ.bU (fun d=>dx) fun k ay az q h=>by
 obtain ⟨(a1:List J.ap),_,_,(v1:Int),_⟩:=ay
 obtain ⟨⟨(v2:List J.ap),(bu:List Int),(v4:List (List J.Field)),(bZ:List (List (List UInt8))),(v6:List (List J.Target)),_⟩,⟨(cq:List J.ap),_,_,_,_,_⟩,(cy:List Int),(cH:List (List J.Field)),(v10:List (List (List UInt8))),(v11:List (List J.Target)),_⟩:=az
 obtain ⟨ax,_⟩:=dW h
 dsimp only at ax
 obtain ⟨rfl,rfl,rfl,rfl,rfl,rfl,_⟩:=ax
 conv=>rhs;change Option.map (α:=((List (List J.Target)) × (List (List (List UInt8))) × (List (List J.Field)) × (List Int)) ⊕ (J.aU × Int)) _ (Qo F (k+ 1) a1 v11 v10 cH cy v1 ([]) ([]) ([]) ([]) ([]) (a1));rw [<-T9 F (k+ 1) a1 v11 v10 cH cy v1];simp only [pg,a6,T9];simp only [bR]
 kernel_rfl)
noncomputable def alg (F:Nat):aR aH:=(alf F).rt 86 ⟨[.p (.l 134)],[],[gY,.p (.i .i64)],[],J.aU × Int,fun d=>Ez F d.1.1,fun d r=>(((r.1.ba,r.1.a8,r.1.Fields,r.1.Names,r.1.a9,()),r.2,()),())⟩ fun ay az=>by
 obtain ⟨(a1:List J.ap),_⟩:=ay
 conv=>rhs;simp only [Ez,a6,T9]
 kernel_rfl
noncomputable def alh (F:Nat):aR aH:=(alg F).rt 50 ⟨[gY],[],[.p (.i .i64)],[],Int,fun d=>sC F (e2 d.1.1),fun d r=>((r,()),())⟩ fun ay az=>by
 conv=>rhs;simp only [sC,a6]
 kernel_rfl
noncomputable def ali (F:Nat):aR aH:=(alh F).rt 59 ⟨[gY,.p (.i .i64)],[],[.p (.b)],[],Bool,fun d=>BK (e2 d.1.1) d.1.2.1,fun d r=>((r,()),())⟩ fun ay az=>by
 conv=>rhs;simp only [BK,a6]
 kernel_rfl
noncomputable def alj (F:Nat):aR aH:=(ali F).rt 60 ⟨[gY,.p (.i .i64),.p (.i .i64)],[],[.p (.b)],[],Bool,fun d=>BJ (e2 d.1.1) d.1.2.1 d.1.2.2.1,fun d r=>((r,()),())⟩ fun ay az=>by
 conv=>rhs;simp only [BJ,a6]
 kernel_rfl
noncomputable def alk (F:Nat):aR aH:=(alj F).bX 95 0 F ⟨[2,3,4,5,10],[.p (.i .i64),.p (.i .i64),.p (.B 0),.p (.B 1),.p (.R 2)],[h7,dL,.r 3 false],
 [⟨⟨.nm,[2,3,10],[.p (.i .i64),.p (.i .i64),.p (.R 2)],[h7,dL,.r 3 false]⟩,(List Int) × Int,fun d r=>((r.2,d.1.2.1,(),()),(d.2.1,d.2.2.1,r.1,()))⟩,
  ⟨⟨.rt,[8,9],[.p (.l 3),.p (.b)],[.d,.d,.d]⟩,(List Int) × Bool,fun d r=>((r.1,r.2,()),((),(),(),()))⟩],
 fun k d=>a' (vq (dN d.2.1) (e2 d.2.2.1) d.1.2.1 k d.2.2.2.1 d.1.1)⟩ (bJ.bU (fun d=>rfl) fun k ay az q h=>by
 conv=>rhs;simp only [vq,a6];simp only [bR]
 kernel_rfl)
noncomputable def aln (F:Nat):aR aH:=(alk F).rt 95 ⟨[iv,gY,.p (.i .i64),.p (.i .i64)],[],[.p (.l 3),.p (.b)],[],(List Int) × Bool,fun d=>pj F (dN d.1.1) (e2 d.1.2.1) d.1.2.2.1 d.1.2.2.2.1,fun d r=>((r.1,r.2,()),())⟩ fun ay az=>by
 conv=>rhs;simp only [pj,a6]
 kernel_rfl
noncomputable def alo (F:Nat):aR aH:=(aln F).rt 62 ⟨[iv,gY],[],[.p (.l 3),.p (.l 3),.p (.b)],[],(List Int) × (List Int) × Bool,fun d=>pk F (dN d.1.1) (e2 d.1.2.1),fun d r=>((r.1,r.2.1,r.2.2,()),())⟩ fun ay az=>by
 conv=>rhs;simp only [pk,a6]
 kernel_rfl
noncomputable def alp (F:Nat):aR aH:=(alo F).rt 71 ⟨[gY,.p (.i .i64),.p (.i .i64)],[],[.p (.b)],[],Bool,fun d=>sG (e2 d.1.1) d.1.2.1 d.1.2.2.1,fun d r=>((r,()),())⟩ fun ay az=>by
 conv=>rhs;simp only [sG,a6]
 kernel_rfl
noncomputable def alq (F:Nat):aR aH:=(alp F).bX 44 0 F ⟨[2,3,4,7,8],[.p (.i .i64),.p (.B 0),.p (.B 1),.p (.R 2),.p (.i .i64)],[h7,dL,.r 3 false],
 [⟨⟨.nm,[7],[.p (.R 2)],[h7,dL,.r 3 false]⟩,List Int,fun d r=>(((),()),(d.2.1,d.2.2.1,r,()))⟩],
 fun k d=>sD d.1.1 (dN d.2.1) (e2 d.2.2.1) k d.2.2.2.1 d.1.2.2.2.2.1⟩ (bJ.bU (fun d=>rfl) fun k ay az q h=>by
 conv=>rhs;simp only [sD,a6];simp only [bR]
 kernel_rfl)
noncomputable def alr (F:Nat):aR aH:=(alq F).rt 44 ⟨[iv,gY,.p (.i .i64)],[],[.p (.l 3)],[],List Int,fun d=>na F (dN d.1.1) (e2 d.1.2.1) d.1.2.2.1,fun d r=>((r,()),())⟩ fun ay az=>by
 conv=>rhs;simp only [na,a6]
 kernel_rfl
noncomputable def als (F:Nat):aR aH:=(alr F).bX 43 0 F ⟨[0,1,5],[.p (.l 3),.p (.i .i64),.p (.i .i64)],[],
 [⟨⟨.nm,[],[],[]⟩,Unit,fun d r=>((),())⟩,
  ⟨⟨.rt,[4],[.p (.b)],[]⟩,Bool,fun d r=>((r,()),())⟩],
 fun k d=>a' (yU d.1.1 d.1.2.1 k d.1.2.2.1)⟩ (bJ.bU (fun d=>rfl) fun k ay az q h=>by
 conv=>rhs;simp only [yU,a6];simp only [bR]
 kernel_rfl)
noncomputable def alu (F:Nat):aR aH:=(als F).rt 43 ⟨[.p (.l 3),.p (.i .i64)],[],[.p (.b)],[],Bool,fun d=>j6 F d.1.1 d.1.2.1,fun d r=>((r,()),())⟩ fun ay az=>by
 conv=>rhs;simp only [j6,a6]
 kernel_rfl
noncomputable def alv (F:Nat):aR aH:=(alu F).bX 51 0 F ⟨[2,3,6,8,9],[.p (.B 0),.p (.B 1),.p (.l 3),.p (.R 2),.p (.i .i64)],[h7,dL,.r 3 true],
 [⟨⟨.nm,[2,3,6,8],[.p (.B 0),.p (.B 1),.p (.l 3),.p (.R 2)],[h7,dL,.r 3 true]⟩,Unit,fun d r=>(((),(),d.1.2.2.1,(),()),(d.2.1,d.2.2.1,d.2.2.2.1,()))⟩,
  ⟨⟨.rt,[4],[.p (.i .i64)],[.d,.d,.d]⟩,Int,fun d r=>((r,()),((),(),(),()))⟩],
 fun k d=>a' (yC (dN d.2.1) d.2.2.2.1 k d.1.2.2.2.2.1)⟩ (bJ.bU (fun d=>rfl) fun k ay az q h=>by
 conv=>rhs;simp only [yC,a6];simp only [bR]
 kernel_rfl)
noncomputable def alw (F:Nat):aR aH:=(alv F).bX 51 4 F ⟨[2,3,6,8,10,11],[.p (.B 0),.p (.B 1),.p (.l 3),.p (.R 2),.p (.i .i64),.p (.i .i64)],[h7,dL,.r 3 true],
 [⟨⟨.nm,[2,3,6,8,10],[.p (.B 0),.p (.B 1),.p (.l 3),.p (.R 2),.p (.i .i64)],[h7,dL,.r 3 true]⟩,Unit,fun d r=>(((),(),d.1.2.2.1,(),d.1.2.2.2.2.1,()),(d.2.1,d.2.2.1,d.2.2.2.1,()))⟩,
  ⟨⟨.rt,[4],[.p (.i .i64)],[.d,.d,.d]⟩,Int,fun d r=>((r,()),((),(),(),()))⟩],
 fun k d=>a' (yD (dN d.2.1) d.2.2.2.1 d.1.2.2.2.2.1 k d.1.2.2.2.2.2.1)⟩ (bJ.bU (fun d=>rfl) fun k ay az q h=>by
 conv=>rhs;simp only [yD,a6];simp only [bR]
 kernel_rfl)
noncomputable def alx (F:Nat):aR aH:=(alw F).bX 51 2 F ⟨[2,3,6,8,10],[.p (.B 0),.p (.B 1),.p (.l 3),.p (.R 2),.p (.i .i64)],[h7,dL,.r 3 true],
 [⟨⟨.nm,[2,3,6,8],[.p (.B 0),.p (.B 1),.p (.l 3),.p (.R 2)],[h7,dL,.r 3 true]⟩,Unit,fun d r=>(((),(),d.1.2.2.1,(),()),(d.2.1,d.2.2.1,d.2.2.2.1,()))⟩,
  ⟨⟨.rt,[4],[.p (.i .i64)],[.d,.d,.d]⟩,Int,fun d r=>((r,()),((),(),(),()))⟩],
 fun k d=>a' (vi F (dN d.2.1) d.2.2.2.1 k d.1.2.2.2.2.1)⟩ (bJ.bU (fun d=>rfl) fun k ay az q h=>by
 conv=>rhs;simp only [vi,a6];simp only [bR]
 kernel_rfl)
noncomputable def alz (F:Nat):aR aH:=(alx F).bX 51 8 F ⟨[2,3,6,8,12,13,14],[.p (.B 0),.p (.B 1),.p (.l 3),.p (.l 3),.p (.i .i64),.p (.l 3),.p (.i .i64)],[h7,dL],
 [⟨⟨.nm,[2,3,6,8,12],[.p (.B 0),.p (.B 1),.p (.l 3),.p (.l 3),.p (.i .i64)],[h7,dL]⟩,Unit,fun d r=>(((),(),d.1.2.2.1,d.1.2.2.2.1,d.1.2.2.2.2.1,()),(d.2.1,d.2.2.1,()))⟩,
  ⟨⟨.rt,[4],[.p (.i .i64)],[.d,.d]⟩,Int,fun d r=>((r,()),((),(),()))⟩],
 fun k d=>a' (vj F (dN d.2.1) d.1.2.2.2.1 d.1.2.2.2.2.2.1 k d.1.2.2.2.2.2.2.1)⟩ (bJ.bU (fun d=>rfl) fun k ay az q h=>by
 conv=>rhs;simp only [vj,a6];simp only [bR]
 kernel_rfl)
noncomputable def alA (F:Nat):aR aH:=(alz F).bX 51 6 F ⟨[2,3,6,8,12],[.p (.B 0),.p (.B 1),.p (.l 3),.p (.l 3),.p (.i .i64)],[h7,dL],
 [⟨⟨.nm,[2,3,6],[.p (.B 0),.p (.B 1),.p (.l 3)],[h7,dL]⟩,Unit,fun d r=>(((),(),d.1.2.2.1,()),(d.2.1,d.2.2.1,()))⟩,
  ⟨⟨.rt,[4],[.p (.i .i64)],[.d,.d]⟩,Int,fun d r=>((r,()),((),(),()))⟩],
 fun k d=>a' (yE F (dN d.2.1) (e2 d.2.2.1) d.1.2.2.2.1 k d.1.2.2.2.2.1)⟩ (bJ.bU (fun d=>rfl) fun k ay az q h=>by
 conv=>rhs;simp only [yE,a6];simp only [bR]
 kernel_rfl)
noncomputable def alB (F:Nat):aR aH:=(alA F).bX 51 10 F ⟨[2,3,6,15],[.p (.B 0),.p (.B 1),.p (.l 3),.p (.i .i64)],[h7,dL],
 [⟨⟨.nm,[2,3,6],[.p (.B 0),.p (.B 1),.p (.l 3)],[h7,dL]⟩,Unit,fun d r=>(((),(),d.1.2.2.1,()),(d.2.1,d.2.2.1,()))⟩,
  ⟨⟨.rt,[4],[.p (.i .i64)],[.d,.d]⟩,Int,fun d r=>((r,()),((),(),()))⟩],
 fun k d=>a' (sA (dN d.2.1) k d.1.2.2.2.1)⟩ (bJ.bU (fun d=>rfl) fun k ay az q h=>by
 conv=>rhs;simp only [sA,a6];simp only [bR]
 kernel_rfl)
noncomputable def Qi (F:Nat) (k:Nat) (aB:J.aY) (aS:J.aU) (ei:(List Int) × (List Int) × Bool) (ks:Int):=c9 (True) (a' (n8 F aB aS ei k ks))
theorem T3 (F:Nat) (k:Nat) (aB:J.aY) (aS:J.aU) (ei:(List Int) × (List Int) × Bool) (ks:Int):a' (n8 F aB aS ei k ks)=Qi F k aB aS ([],ei.2.1,false) ks:=(show a' (n8 F aB aS ei k ks)=a' (n8 F aB aS ([],ei.2.1,false) k ks) by kernel_rfl).trans (dy trivial).symm
noncomputable def alC (F:Nat):aR aH:=(alB F).bX 51 12 F ⟨[2,3,6,16],[.p (.B 0),.p (.B 1),.p (.l 3),.p (.i .i64)],[h7,dL],
 [⟨⟨.nm,[2,3,6],[.p (.B 0),.p (.B 1),.p (.l 3)],[h7,dL]⟩,Unit,fun d r=>(((),(),d.1.2.2.1,()),(d.2.1,d.2.2.1,()))⟩,
  ⟨⟨.rt,[4],[.p (.i .i64)],[.d,.d]⟩,Int,fun d r=>((r,()),((),(),()))⟩],
 fun k d=>Qi F k (dN d.2.1) (e2 d.2.2.1) ([],d.1.2.2.1,false) d.1.2.2.2.1⟩ (bJ.bU (fun d=>dx) fun k ay az q h=>by
 obtain ⟨_,_,(a1:List Int),(v1:Int),_⟩:=ay
 obtain ⟨⟨(v2:List Int),(bu:Int),(v4:Int),(bZ:Int),(v6:Int),(cq:List Int),(cy:Int),_⟩,⟨(cH:List J.ap),(v10:List Int),(v11:List (List J.Field)),(df:List (List (List UInt8))),(dO:List (List J.Target)),_⟩,_⟩:=az
 conv=>rhs;change Option.map (α:=Unit ⊕ Int) _ (Qi F (k+ 1) (⟨v2,bu,v4,bZ,v6,cq,cy⟩:J.aY) (⟨cH,v10,v11,df,dO⟩:J.aU) ([],a1,false) v1);rw [<-T3 F (k+ 1) (⟨v2,bu,v4,bZ,v6,cq,cy⟩:J.aY) (⟨cH,v10,v11,df,dO⟩:J.aU) ([],a1,false) v1];simp only [n8,a6,T3];simp only [bR]
 kernel_rfl)
noncomputable def Qk (F:Nat) (k:Nat) (aB:J.aY) (ei:(List Int) × (List Int) × Bool) (h5:Int) (nP:List Int) (p8:Int):=c9 (True) (a' (pf F aB ei h5 nP k p8))
theorem T5 (F:Nat) (k:Nat) (aB:J.aY) (ei:(List Int) × (List Int) × Bool) (h5:Int) (nP:List Int) (p8:Int):a' (pf F aB ei h5 nP k p8)=Qk F k aB ([],ei.2.1,false) h5 nP p8:=(show a' (pf F aB ei h5 nP k p8)=a' (pf F aB ([],ei.2.1,false) h5 nP k p8) by kernel_rfl).trans (dy trivial).symm
noncomputable def alD (F:Nat):aR aH:=(alC F).bX 51 16 F ⟨[2,3,6,17,18,19],[.p (.B 0),.p (.B 1),.p (.l 3),.p (.i .i64),.p (.l 3),.p (.i .i64)],[h7,dL],
 [⟨⟨.nm,[2,3,6,17],[.p (.B 0),.p (.B 1),.p (.l 3),.p (.i .i64)],[h7,dL]⟩,Unit,fun d r=>(((),(),d.1.2.2.1,d.1.2.2.2.1,()),(d.2.1,d.2.2.1,()))⟩,
  ⟨⟨.rt,[4],[.p (.i .i64)],[.d,.d]⟩,Int,fun d r=>((r,()),((),(),()))⟩],
 fun k d=>Qk F k (dN d.2.1) ([],d.1.2.2.1,false) d.1.2.2.2.1 d.1.2.2.2.2.1 d.1.2.2.2.2.2.1⟩ (bJ.bU (fun d=>dx) fun k ay az q h=>by
 obtain ⟨_,_,(a1:List Int),(v1:Int),(v2:List Int),(bu:Int),_⟩:=ay
 obtain ⟨⟨(v4:List Int),(bZ:Int),(v6:Int),(cq:Int),(cy:Int),(cH:List Int),(v10:Int),_⟩,⟨(v11:List J.ap),(df:List Int),(dO:List (List J.Field)),(ec:List (List (List UInt8))),(fs:List (List J.Target)),_⟩,_⟩:=az
 conv=>rhs;change Option.map (α:=Unit ⊕ Int) _ (Qk F (k+ 1) (⟨v4,bZ,v6,cq,cy,cH,v10⟩:J.aY) ([],a1,false) v1 v2 bu);rw [<-T5 F (k+ 1) (⟨v4,bZ,v6,cq,cy,cH,v10⟩:J.aY) ([],a1,false) v1 v2 bu];simp only [pf,a6,T5];simp only [bR]
 kernel_rfl)
noncomputable def Qj (F:Nat) (k:Nat) (aB:J.aY) (aS:J.aU) (ei:(List Int) × (List Int) × Bool) (h5:Int):=c9 (True) (a' (qT F aB aS ei k h5))
theorem T4 (F:Nat) (k:Nat) (aB:J.aY) (aS:J.aU) (ei:(List Int) × (List Int) × Bool) (h5:Int):a' (qT F aB aS ei k h5)=Qj F k aB aS ([],ei.2.1,false) h5:=(show a' (qT F aB aS ei k h5)=a' (qT F aB aS ([],ei.2.1,false) k h5) by kernel_rfl).trans (dy trivial).symm
noncomputable def alE (F:Nat):aR aH:=(alD F).bX 51 14 F ⟨[2,3,6,17],[.p (.B 0),.p (.B 1),.p (.l 3),.p (.i .i64)],[h7,dL],
 [⟨⟨.nm,[],[],[h7,dL]⟩,Unit,fun d r=>((),(d.2.1,d.2.2.1,()))⟩,
  ⟨⟨.rt,[4],[.p (.i .i64)],[.d,.d]⟩,Int,fun d r=>((r,()),((),(),()))⟩],
 fun k d=>Qj F k (dN d.2.1) (e2 d.2.2.1) ([],d.1.2.2.1,false) d.1.2.2.2.1⟩ (bJ.bU (fun d=>dx) fun k ay az q h=>by
 obtain ⟨_,_,(a1:List Int),(v1:Int),_⟩:=ay
 obtain ⟨⟨(v2:List Int),(bu:Int),(v4:Int),(bZ:Int),(v6:Int),(cq:List Int),(cy:Int),_⟩,⟨(cH:List J.ap),(v10:List Int),(v11:List (List J.Field)),(df:List (List (List UInt8))),(dO:List (List J.Target)),_⟩,_⟩:=az
 conv=>rhs;change Option.map (α:=Unit ⊕ Int) _ (Qj F (k+ 1) (⟨v2,bu,v4,bZ,v6,cq,cy⟩:J.aY) (⟨cH,v10,v11,df,dO⟩:J.aU) ([],a1,false) v1);rw [<-T4 F (k+ 1) (⟨v2,bu,v4,bZ,v6,cq,cy⟩:J.aY) (⟨cH,v10,v11,df,dO⟩:J.aU) ([],a1,false) v1];simp only [qT,a6,T5,T4];simp only [bR]
 kernel_rfl)
noncomputable def alF (F:Nat):aR aH:=(alE F).rt 51 ⟨[iv,gY],[],[.p (.i .i64)],[],Int,fun d=>BI F (dN d.1.1) (e2 d.1.2.1),fun d r=>((r,()),())⟩ fun ay az=>by
 obtain ⟨⟨(a1:List Int),(v1:Int),(v2:Int),(bu:Int),(v4:Int),(bZ:List Int),(v6:Int),_⟩,⟨(cq:List J.ap),(cy:List Int),(cH:List (List J.Field)),(v10:List (List (List UInt8))),(v11:List (List J.Target)),_⟩,_⟩:=ay
 conv=>rhs;simp only [BI,a6,T3,T4]
 kernel_rfl
noncomputable def alG (F:Nat):aR aH:=(alF F).rt 20 ⟨[iv,gY],[],[.p (.i .i64)],[],Int,fun d=>n_ F (dN d.1.1) (e2 d.1.2.1),fun d r=>((r,()),())⟩ fun ay az=>by
 conv=>rhs;simp only [n_,a6]
 kernel_rfl
noncomputable def alH (F:Nat):aR aH:=(alG F).rt 14 ⟨[iv],[],[.p (.i .i64)],[],Int,fun d=>Yg (dN d.1.1),fun d r=>((r,()),())⟩ fun ay az=>by
 conv=>rhs;simp only [Yg,a6]
 kernel_rfl
noncomputable def alI (F:Nat):aR aH:=(alH F).bX 18 0 F ⟨[0,1,5],[.p (.l 3),.p (.l 3),.p (.i .i64)],[],
 [⟨⟨.nm,[],[],[]⟩,Unit,fun d r=>((),())⟩,
  ⟨⟨.rt,[4],[.p (.b)],[]⟩,Bool,fun d r=>((r,()),())⟩],
 fun k d=>a' (I3 d.1.1 d.1.2.1 k d.1.2.2.1)⟩ (bJ.bU (fun d=>rfl) fun k ay az q h=>by
 conv=>rhs;simp only [I3,a6];simp only [bR]
 kernel_rfl)
noncomputable def alK (F:Nat):aR aH:=(alI F).rt 18 ⟨[.p (.l 3),.p (.l 3)],[],[.p (.b)],[],Bool,fun d=>ph F d.1.1 d.1.2.1,fun d r=>((r,()),())⟩ fun ay az=>by
 conv=>rhs;simp only [ph,a6]
 kernel_rfl
noncomputable def alL (F:Nat):aR aH:=(alK F).rt 32 ⟨[iv,iv],[],[.p (.b)],[],Bool,fun d=>OG F (dN d.1.1) (dN d.1.2.1),fun d r=>((r,()),())⟩ fun ay az=>by
 conv=>rhs;simp only [OG,a6]
 kernel_rfl
noncomputable def alM (F:Nat):aR aH:=(alL F).rt 17 ⟨[iv,.p (.i .i64),.p (.i .i64),iv],[],[.p (.b)],[],Bool,fun d=>yx F (dN d.1.1) d.1.2.1 d.1.2.2.1 (dN d.1.2.2.2.1),fun d r=>((r,()),())⟩ fun ay az=>by
 conv=>rhs;simp only [yx,a6]
 kernel_rfl
noncomputable def Qn (F:Nat) (k:Nat) (fG:List Int) (hQ:(List Int) × (List Int) × Bool) (mL:Int):=c9 (True) (a' (n9 F fG hQ k mL))
theorem T8 (F:Nat) (k:Nat) (fG:List Int) (hQ:(List Int) × (List Int) × Bool) (mL:Int):a' (n9 F fG hQ k mL)=Qn F k fG (hQ.1,hQ.2.1,false) mL:=(show a' (n9 F fG hQ k mL)=a' (n9 F fG (hQ.1,hQ.2.1,false) k mL) by kernel_rfl).trans (dy trivial).symm
noncomputable def alN (F:Nat):aR aH:=(alM F).bX 40 0 F ⟨[2,7,8,10],[.p (.l 3),.p (.l 3),.p (.l 3),.p (.i .i64)],[],
 [⟨⟨.nm,[],[],[]⟩,Unit,fun d r=>((),())⟩,
  ⟨⟨.rt,[6],[.p (.i .i64)],[]⟩,Int,fun d r=>((r,()),())⟩],
 fun k d=>Qn F k d.1.1 (d.1.2.1,d.1.2.2.1,false) d.1.2.2.2.1⟩ (bJ.bU (fun d=>dx) fun k ay az q h=>by
 obtain ⟨(a1:List Int),(v1:List Int),(v2:List Int),(bu:Int),_⟩:=ay
 conv=>rhs;change Option.map (α:=Unit ⊕ Int) _ (Qn F (k+ 1) a1 (v1,v2,false) bu);rw [<-T8 F (k+ 1) a1 (v1,v2,false) bu];simp only [n9,a6,T8];simp only [bR]
 kernel_rfl)
noncomputable def alO (F:Nat):aR aH:=(alN F).rt 40 ⟨[iv,gY,.p (.l 3)],[],[.p (.i .i64)],[],Int,fun d=>vn F (dN d.1.1) (e2 d.1.2.1) d.1.2.2.1,fun d r=>((r,()),())⟩ fun ay az=>by
 obtain ⟨⟨(a1:List Int),(v1:Int),(v2:Int),(bu:Int),(v4:Int),(bZ:List Int),(v6:Int),_⟩,⟨(cq:List J.ap),(cy:List Int),(cH:List (List J.Field)),(v10:List (List (List UInt8))),(v11:List (List J.Target)),_⟩,(df:List Int),_⟩:=ay
 conv=>rhs;simp only [vn,a6,T8]
 kernel_rfl
noncomputable def IL (F:Nat):aR aH:=(alO F).rt 13 ⟨[iv,gY,.p (.l 3)],[],[.p (.i .i64)],[],Int,fun d=>qN F (dN d.1.1) (e2 d.1.2.1) d.1.2.2.1,fun d r=>((r,()),())⟩ fun ay az=>by
 conv=>rhs;simp only [qN,a6]
 kernel_rfl
end Go.Proofs.YteeliipnilghaaaGreat
namespace J
def ym (n:Int):Nat->List Int->Int->Option (List Int)
 | 0,_,_=>none
 | k+ 1,l,i=>cond (decide (i <n)) ((bK 8 l [i]).bind fun l'=>ym n k l' (aA (i+ 1))) (some l)
def yl (F:Nat) (n:Int):Option (List Int):=ym n F [] 0
end J
namespace Go.Proofs.YteeliipnilghaaaGreat
open Go Go.RowKit au J bn
set_option maxHeartbeats 4000000
set_option maxRecDepth 20000
def xA (a:Nat):cY Int where
 size:=1
 rd _ _ cs q:=cs= [.pointer (some ⟨a,q.toNat,none⟩)]
 len h:=by subst h;rfl
 one h v ah:=by subst h;simp at ah;subst ah;rfl
 law _ h:=h
theorem ayv {F:Nat->Prop} {w:World} {g:Nat} {i:Int}:(xA g).rd F w [.pointer (some ⟨g,0 +i.toNat* 1,none⟩)] i:=by
 show [_]= [_]
 rw [Nat.zero_add,Nat.mul_one]
theorem auJ:(Tryz.prog.info? 109).map (fun i=>(i.zero,i.size,i.bytes))=some (some (.pointer none),1,8):=by kernel_rfl
theorem aoE {W:World} {X:List Nat} {F:Nat} {A:hY} {n c:Nat} {r:List Int} {M0:List Nat} (aJ:n<= 9223372036854775807) (dl:0 <n->A=some ⟨dk A,0,none⟩) (hm:bs W M0 X W [] []) (h:J.yl F (n:Int)=some r) :
 Calls Tryz.prog 39 [.slice A n c].toArray W (fun e w'=>∃ cj:Option Addr,∃ bH:Nat,∃ xs:List Value,e= .returned (.q cj bH r)/\bs W M0 X w' [a7.row 109 1 (.q cj bH r) r xs] [bB.rows (xA (dk A)) xs r]):=by
 refine enter Tryz.func39 rfl Tryz.ntmps39 rfl fun a af=>?_;rw [J.yl] at h
 refine oi [] [(0,.slice A n c)] af fun a af=>oi [] [(3,.slice none 0 0)] af fun a af=>?_
 have hm:=hm.Gw (α:=Int) 109 1;have hm:=hm.more (y:=bB.rows (xA (dk A)) [] []) rfl
 refine wp_seq_k fun K pJ=>oi [] [(6,.i n),(7,.i 0)] af fun a af=>?_
 refine Ji (fun a w=>∃ (ea:hY) (c1:Nat) (sq:m8),Fr ⟨18,[]⟩ [(3,.q ea c1 r)] a/\bs W M0 X w [a7.row 109 1 (.q ea c1 r) r sq] [bB.rows (xA (dk A)) sq r]) (fun K pK=>?_) ?_
 · refine O8 (fun (bg:Nat) a w=>∃ (ea:hY) (c1:Nat) (l1:Bz) (sq:m8) (i:Int),Fr ⟨18,[]⟩ [(0,.slice A n c),(3,.q ea c1 l1),(6,.i n),(7,.i i)] a/\bs W M0 X w [a7.row 109 1 (.q ea c1 l1) l1 sq] [bB.rows (xA (dk A)) sq l1]/\ 0 <=i/\J.ym n bg l1 i=some r) F ⟨none,0,[],[],0,af.cut,hm,Int.le_refl _,h⟩ ?_ ?_
   · rintro a w ⟨ea,c1,l1,sq,i,af,hm,hi,h⟩;exact absurd h (by simp [J.ym])
   rintro bg a w ⟨ea,c1,l1,sq,i,af,hm,hi,h⟩ K Fg;rw [J.ym] at h
   refine oi [] [(8,.bool (decide (i <n)))] af fun a af=>?_
   refine wp_seq_k fun K Fh=>Jk (af.g rfl) h (fun ag h=>?_) (fun ag h=>?_)
   · refine wp_skip <| Fh _ _ <| wp_seq_k fun K Rf=>?_
     have bE:i <(n:Int):=of_decide_eq_true ag
     obtain ⟨g,rfl⟩:∃ g,A=some ⟨g,0,none⟩:=⟨_,dl (by omega)⟩
     obtain ⟨cB,FH,h⟩:=J.fx h
     refine Ji (fun a w=>∃ (c7:hY) (c2:Nat) (D_:m8),Fr ⟨18,[]⟩ [(0,.slice (some ⟨g,0,none⟩) n c),(3,.q c7 c2 cB),(6,.i n),(7,.i i)] a/\bs W M0 X w [a7.row 109 1 (.q c7 c2 cB) cB D_] [bB.rows (xA g) D_ cB]) (fun K Ff=>?_) ?_
     · refine oi [] [(4,.i i)] af fun a af=>?_
       refine nd <| j' 3 [] [(10,.q ea c1 l1),(11,.slice (some ⟨g,0,none⟩) n c),(12,.i i)] af fun a af=>nT wn (n1 Tryz.underlying22 Tryz.sizeOf3 rfl (af.g rfl) (af.g rfl) rfl ⟨hi,bE⟩) af rfl rfl fun a af=>?_
       refine adP (cs:=[.pointer (some ⟨g,0 +i.toNat* 1,none⟩)]) wn (Bq (vs:=[(0,.pointer (some ⟨g,0 +i.toNat* 1,none⟩))]) Tryz.underlying73 Tryz.sizeOf109 Tryz.zeroValue109 rfl rfl rfl ⟨⟨(af.g rfl),rfl⟩,trivial⟩ (by kernel_rfl)) af hm rfl rfl fun a bG w _ af hm=>?_
       refine Hc (T:=xA g) (ml:=[i]) 1 0 0 hm rfl rfl rfl Tryz.underlying73 auJ rfl rfl FH rfl rfl ⟨_,_,rfl,ayv,rfl⟩ wn rfl (af.g rfl) (af.g rfl) af rfl rfl fun a c7 c2 D_ w af hm=>?_
       refine j' 1 [] [(3,.q c7 c2 cB)] af fun a af=>wpList_nil ?_
       exact Ff _ _ ⟨c7,c2,D_,af.cut,hm.hl [0]⟩
     rintro a w ⟨c7,c2,D_,af,hm⟩
     refine Rf _ _ <| Zk [] [(7,.i (J.aA (i+ 1)))] af fun a af=>?_
     exact Fg _ _ ⟨c7,c2,cB,D_,J.aA (i+ 1),af.cut,hm,by rw [show J.aA (i+ 1)=i+ 1 by unfold J.aA;omega];omega,h⟩
   · refine wp_exit <| qI (qI (D9 ?_));obtain rfl:=cX h;exact pK _ _ ⟨ea,c1,sq,af.cut,hm⟩
 rintro a w ⟨ea,c1,sq,af,hm⟩
 refine pJ _ _ <| Ht [] [(2,.q ea c1 r)] af fun a af=>wp_ret ?_;refine GZ Tryz.results39 af rfl ?_;exact ⟨ea,c1,sq,rfl,hm⟩
theorem aeo {n:Int}:∀ {k:Nat} {l r:List Int} {i:Int},J.ym n k l i=some r->n<= 9223372036854775807 -> 0 <=i->(∀ q ∈ l,0 <=q/\q <n)-> ∀ q ∈ r,0 <=q/\q <n
 | 0,l,r,i,h,_,_,_=>by simp [J.ym] at h
 | k+ 1,l,r,i,h,aJ,hi,aq=>by
   rw [J.ym] at h
   cases ag:decide (i <n) with
   | false=>rw [ag] at h;obtain rfl:=cX h;exact aq
   | true=>
     rw [ag] at h
     have bE:=of_decide_eq_true ag
     obtain ⟨cB,aa,h⟩:=J.fx h
     have e:J.aA (i+ 1)=i+ 1 :=by unfold J.aA;omega
     rw [e] at h
     refine aeo h aJ (by omega) fun q aT=>?_
     have:cB=l++[i]:=by
      unfold bK at aa
      split at aa
      · exact (cX aa).symm
      · cases aa
     rw [this] at aT
     rcases List.mem_append.1 aT with aT | aT
     · exact aq q aT
     · cases List.mem_singleton.1 aT;exact ⟨hi,bE⟩
theorem aes {ρ:List Value} {bl:List (aC bz.El)} {F:Nat->Prop} {w:World} {g n c:Nat} (aQ:ρ[0]? =some (.slice (some ⟨g,0,none⟩) n c)) (ax:b5 bl[0]? = 0):∀ {r:List Int} {xs:List Value},(∀ q ∈ r,0 <=q/\q <(n:Int))->dS (xA g) F w xs r->qR ρ bl 0 0 1 r xs
 | [],xs,_,h=>h
 | q::r,xs,aT,h=>by
   obtain ⟨cs,ys,rfl,I,aa⟩:=h
   have I:cs= [.pointer (some ⟨g,q.toNat,none⟩)]:=I
   subst I
   have:=aT q (by simp)
   exact ⟨_,_,rfl,⟨trivial,_,aQ,Nat.zero_le _,fun _=>⟨_,_,_,rfl,this.1,this.2,by simp [dk]⟩⟩,aes aQ ax (fun q tx=>aT q (by simp [tx])) aa⟩
@[reducible] noncomputable def KR (F:Nat):hx bz:=⟨[.p (.R 0)],[.r 3 true],[.p (.P 0 1)],[.r 3 true],List Int,fun d=>yl F d.2.1.length,fun d r=>((r,()),(d.2.1,()))⟩
theorem ape (F:Nat):(KR F).ha.yu aH 39 :=by
 intro ay az gz h W M0 X ρ w vs hm ah
 obtain ⟨⟨⟩,⟨⟩⟩:=ay
 obtain ⟨l,⟨⟩⟩:=az
 have h:Option.map _ (J.yl F (l:List Int).length)=some gz:=h
 obtain ⟨r,aE,rfl⟩:=Option.map_eq_some_iff.1 h
 have hm:Mem bz W M0 X [.r 3 0 0 l] ρ w:=hm
 have ah:a4 bz (bh X [.r 3 0 0 l] ρ w) w ρ [.r 3 0 0 l] [.r 0 0] vs:=ah
 obtain ⟨aQ,Cy⟩:=hm.Ac (i:=0) rfl
 obtain ⟨A,c,xs,rfl,oz,_⟩:=hm.ok 0 _ _ rfl Cy
 simp only [a4,ar] at ah
 obtain ⟨v,_,rfl,⟨_,u,hu,_,ah⟩,rfl⟩:=ah
 rw [Cy] at hu
 cases hu
 obtain rfl:=ah rfl
 have ra:=oz.cap
 have Cp:List.length (α:=Int) l<=c:=ra.1
 have aJ:List.length (α:=Int) l<= 9223372036854775807 :=by have:=ra.2.1;simp only [maxLen] at this;omega
 have dl:0 <List.length (α:=Int) l->A=some ⟨dk A,0,none⟩:=fun aN=>by
  obtain ⟨g,rfl⟩:=ra.2.2.2 (by omega)
  rfl
 refine ⟨⟨.ret (.pp 0 0 1 r),[.r 3 0 0 l],[]⟩,by kernel_rfl,?_⟩
 refine (aoE (X:=[]) (M0:=[]) aJ dl (bs.start [] [] w [] [] (by simp) (by simp [bW]) (by simp) (by simp [bW]) (by simp)) aE).mono fun e w' ⟨cj,bH,ys,he,ao⟩=>?_
 refine ⟨ρ,hm.eT ao.bV,Mem.qq ao.bV,fun k aj _=>ao.bV.block k aj (by simp),?_⟩
 subst he
 show ar _ _ _ _ _ (.pp 0 0 1 r) _
 simp only [ar]
 have av:(a7.row 109 1 (.slice cj r.length bH) r ys).ok w':=ao.e 0 rfl
 obtain ⟨_,_,ak,al,aV,bS,dw⟩:=Ha av
 simp only [Value.slice.injEq,true_and] at ak
 obtain ⟨rfl,rfl⟩:=ak
 refine ⟨cj,bH,rfl,al,bS,fun b3=>?_⟩
 have gS:0 <r.length:=List.length_pos_iff.2 b3
 have kT:cj≠none:=fun e=>by have:=bS e;omega
 have arR:=dw kT
 have fN:∀ q ∈ r,0 <=q/\q <((List.length (α:=Int) l:Nat):Int):=aeo aE (Int.ofNat_le.2 aJ) (Int.le_refl _) (by simp)
 have pP:0 <List.length (α:=Int) l:=by
  obtain ⟨q,aT⟩:=List.exists_mem_of_ne_nil r b3
  have:=fN q aT
  omega
 have arZ:=dl pP
 obtain ⟨g,rfl⟩:∃ g,A=some ⟨g,0,none⟩:=⟨_,arZ⟩
 obtain ⟨g',rfl⟩:∃ g',cj=some ⟨g',0,none⟩:=⟨_,arR⟩
 have bE:=ao.lt g' (by simp [bW,a7.row,Value.ownBlock])
 have Ko:w.heap.size<=g':=bE.2.resolve_left (by simp)
 have d_:W.heap.size<=w.heap.size:=hm.bV.size
 refine ⟨rfl,⟨fun Rh=>?_,fun av=>?_,bE.1⟩,ys,aes Cy rfl fN (ao.d 0 rfl),?_⟩
 · have:g' <W.heap.size:=(hm.hf _ Rh).1;omega
 · have:g' <w.heap.size:=(hm.lt _ av).1;omega
 · have kV:w'.ownsRow 0 109 1 (.slice (some ⟨g',0,none⟩) r.length bH) r.length ys:=av
   have:=r1 gS (Or.inl kV)
   obtain ⟨bG,bk,bF,b1,_⟩:=this
   simp only [Option.some.injEq,Addr.mk.injEq,and_true] at bk
   subst bk
   exact b1
theorem YU (F:Nat):jj aH 39 ((KR F).run aH):=fun ys bl r ai=>Js (ape F) ys bl r (xj ai)
end Go.Proofs.YteeliipnilghaaaGreat
namespace Go.Proofs.YteeliipnilghaaaGreat
open Go Go.RowKit au J bn
@[reducible] def CO:hx bz:=⟨[],[],[.p .b],[],Bool,fun _=>some true,fun _ r=>((r,()),())⟩
theorem aqe:CO.Eq kI (Cf kI (IL 2000).t.jH (fun _ _=>none) 100) (fun _ _=>none) 16 :=fun ay az=>by
 kernel_rfl
theorem Jq (g:Nat) (h:List (aF bz.El)->List (aC bz.El)->D (fa bz.El)):jj aH g h=jj kI g h:=by kernel_rfl
theorem aoz:jj kI 16 (CO.run kI):=
 have aq:sw kI (fun _ _=>none):=fun g fn c _ _ _=>rD (fun _=>rfl) c
 have hc:=((IL 2000).ok ly).ce
 have Cp:IQ kI (IL 2000).t.jH:=⟨hc.ca,fun g h ax=>(Jq g h) ▸ hc.ok g h ax⟩
 fun ys bl r ai=>B4 JB (ka JB Cp aq 100) aq rfl (c:=CO.ha) (eg.Eq.v aqe) ys bl r (xj ai)
theorem aBl:CO.run aH=CO.run kI:=by kernel_rfl
noncomputable def alP (F:Nat):aR aH:=(IL F).add 16 (CO.run aH) (aBl ▸ (Jq 16 _) ▸ aoz)
noncomputable def alQ (F:Nat):aR aH:=(alP F).add 39 ((KR F).run aH) (YU F)
end Go.Proofs.YteeliipnilghaaaGreat
namespace Go.Proofs.YteeliipnilghaaaGreat
open Go Go.RowKit au J bn
set_option maxRecDepth 100000
@[reducible] def C8:bI:=.c 24 [.R 2,.i .i64,.i .i64,.i .i64,.i .i64,.l 3,.i .i64]
@[reducible] def xc:bI:=.c 24 [.R 1,.i .i64,.i .i64,.i .i64,.i .i64,.l 3,.i .i64]
@[reducible] def aeg:cO:=.a [.l 3,.i .i64,.i .i64,.i .i64,.i .i64,.l 3,.i .i64]
@[reducible] def C9:bI:=.c 108 [.B 1,.l 134,.l 3,.l 124,.l 120,.l 121,.M 3]
@[reducible] def C_:bI:=.c 108 [.B 0,.l 134,.l 3,.l 124,.l 120,.l 121,.M 3]
@[reducible] def aeh:cO:=.a [.l 134,.l 3,.l 124,.l 120,.l 121]
abbrev ajL:=(Unit × (Unit × List ap × List Int × List (List J.Field) × List (List (List UInt8)) × List (List J.Target) × Unit × Unit) × (Unit × Int × Int × Int × Int × List Int × Int × Unit) × List Int × List (Int × Int) × Unit)
abbrev NP:=(Unit × List ap × List Int × List (List J.Field) × List (List (List UInt8)) × List (List J.Target) × Unit × Unit)
abbrev Ix:=(Unit × Int × Int × Int × Int × List Int × Int × Unit)
def XK (F:Nat) (cv:Int) (et:List ap) (hr:List Int) (j1:List (List J.Field)) (sl:List (List (List UInt8))) (Ic:List (List J.Target)) (sm:Int) (qH:Int) (n0:Int) (kE:Int) (sa:List Int) (uM:Int) (kz:List Int) (du:List (Int × Int)):Option ((Int × Unit) × NP × Ix × List Int × List (Int × Int) × Unit):=
 cond (decide (cv= 0) || decide (sm <cv)) (some ((cv,()),((),et,hr,j1,sl,Ic,(),()),((),sm,qH,n0,kE,sa,uM,()),kz,du,())) (
cond ((dI du cv).isSome) (some ((((dI du cv).getD 0),()),((),et,hr,j1,sl,Ic,(),()),((),sm,qH,n0,kE,sa,uM,()),kz,du,())) (
(idx kz (aA (cv+ 1))).bind fun xJ=>
(if (0 :Int)<=kE/\kE<=(↑kz.length:Int)/\(↑kz.length:Int)<=(↑kz.length:Int) then some () else none).bind fun Wi=>
(if (0 :Int)<=cv/\cv<=aA (cv+aA (3 +xJ))/\aA (cv+aA (3 +xJ))<=(↑kz.length:Int) then some () else none).bind fun aHA=>
(At (decide (0 <kz.length))).bind fun aHB=>
some ((kE,()),((),et,hr,j1,sl,Ic,(),()),((),sm,qH,n0,(aA (kE+aA (3 +xJ))),sa,uM,()),(gh kz kE.toNat (List.take ((↑kz.length:Int) - kE).toNat (List.drop cv.toNat (List.take (aA (cv+aA (3 +xJ))).toNat kz)))),(hg du cv kE),())))
noncomputable def alR (F:Nat):aR aH:=(alQ F).fn 69 ⟨[.p (.B 0),.p (.i .i64)],[C9,C8,.r 3 true,.m 3 3],[.p (.i .i64)],[C9,C8,.r 3 true,.m 3 3],fun d=>XK F d.1.2.1 d.2.1.2.1 d.2.1.2.2.1 d.2.1.2.2.2.1 d.2.1.2.2.2.2.1 d.2.1.2.2.2.2.2.1 d.2.2.1.2.1 d.2.2.1.2.2.1 d.2.2.1.2.2.2.1 d.2.2.1.2.2.2.2.1 d.2.2.1.2.2.2.2.2.1 d.2.2.1.2.2.2.2.2.2.1 d.2.2.2.1 d.2.2.2.2.1⟩ fun ay az=>by kernel_rfl
def NT (F:Nat):Nat->(Int)->(Int)->(Int)->(List ap)->(List Int)->(List (List J.Field))->(List (List (List UInt8)))->(List (List J.Target))->(Int)->(Int)->(Int)->(Int)->(List Int)->(Int)->(List Int)->(List (Int × Int))->Option ajL
 | 0,_,_,_,_,_,_,_,_,_,_,_,_,_,_,_,_=>none
 | aS+ 1,x6,WX,Bh,Np,Nq,Nr,qF,m4,kD,qG,x7,x8,x_,x',sn,ya=>
   cond (decide (Bh <WX)) ((idx sn x6).bind fun Bi=>
(tj (b'.mk (aU.mk Np Nq Nr qF m4)) Bi Bh).bind fun Bj=>
cond Bj ((idx sn (aA (aA (x6+ 3)+Bh))).bind fun Bk=>
(XK F Bk Np Nq Nr qF m4 kD qG x7 x8 x_ x' sn ya).bind fun iM=>
(idx iM.2.2.2.1 (aA (aA (x6+ 3)+Bh))).bind fun D1=>
NT F aS x6 WX (aA (Bh+ 1)) iM.2.1.2.1 iM.2.1.2.2.1 iM.2.1.2.2.2.1 iM.2.1.2.2.2.2.1 iM.2.1.2.2.2.2.2.1 iM.2.2.1.2.1 iM.2.2.1.2.2.1 iM.2.2.1.2.2.2.1 iM.2.2.1.2.2.2.2.1 iM.2.2.1.2.2.2.2.2.1 iM.2.2.1.2.2.2.2.2.2.1 (List.set iM.2.2.2.1 (aA (aA (x6+ 3)+Bh)).toNat iM.1.1) iM.2.2.2.2.1) (
NT F aS x6 WX (aA (Bh+ 1)) Np Nq Nr qF m4 kD qG x7 x8 x_ x' sn ya)) (
some ((),((),Np,Nq,Nr,qF,m4,(),()),((),kD,qG,x7,x8,x_,x',()),sn,ya,()))
noncomputable def alS (F:Nat):aR aH:=(alR F).gw 70 0 F ⟨[0,1,16,17],[.p (.B 0),.p (.i .i64),.p (.i .i64),.p (.i .i64)],[C9,C8,.r 3 true,.m 3 3],[⟨.nm,[],[],[C9,C8,.r 3 true,.m 3 3]⟩],fun k d=>NT F k d.1.2.1 d.1.2.2.1 d.1.2.2.2.1 d.2.1.2.1 d.2.1.2.2.1 d.2.1.2.2.2.1 d.2.1.2.2.2.2.1 d.2.1.2.2.2.2.2.1 d.2.2.1.2.1 d.2.2.1.2.2.1 d.2.2.1.2.2.2.1 d.2.2.1.2.2.2.2.1 d.2.2.1.2.2.2.2.2.1 d.2.2.1.2.2.2.2.2.2.1 d.2.2.2.1 d.2.2.2.2.1⟩ ⟨fun d=>by kernel_rfl,fun k ay az=>by kernel_rfl⟩
def XL (F:Nat) (Bl:Int) (D2:List ap) (D3:List Int) (D4:List (List J.Field)) (D5:List (List (List UInt8))) (D6:List (List J.Target)) (D7:Int) (D8:Int) (uZ:Int) (yf:Int) (u1:List Int) (u2:Int) (u3:List Int) (sp:List (Int × Int)):Option ajL:=
 (idx u3 (aA (Bl+ 1))).bind fun Bm=>
(NT F F Bl Bm 0 D2 D3 D4 D5 D6 D7 D8 uZ yf u1 u2 u3 sp).bind fun jG=>
some ((),((),jG.2.1.2.1,jG.2.1.2.2.1,jG.2.1.2.2.2.1,jG.2.1.2.2.2.2.1,jG.2.1.2.2.2.2.2.1,(),()),((),jG.2.2.1.2.1,jG.2.2.1.2.2.1,jG.2.2.1.2.2.2.1,jG.2.2.1.2.2.2.2.1,jG.2.2.1.2.2.2.2.2.1,jG.2.2.1.2.2.2.2.2.2.1,()),jG.2.2.2.1,jG.2.2.2.2.1,())
noncomputable def alU (F:Nat):aR aH:=(alS F).fn 70 ⟨[.p (.B 0),.p (.i .i64)],[C9,C8,.r 3 true,.m 3 3],[],[C9,C8,.r 3 true,.m 3 3],fun d=>XL F d.1.2.1 d.2.1.2.1 d.2.1.2.2.1 d.2.1.2.2.2.1 d.2.1.2.2.2.2.1 d.2.1.2.2.2.2.2.1 d.2.2.1.2.1 d.2.2.1.2.2.1 d.2.2.1.2.2.2.1 d.2.2.1.2.2.2.2.1 d.2.2.1.2.2.2.2.2.1 d.2.2.1.2.2.2.2.2.2.1 d.2.2.2.1 d.2.2.2.2.1⟩ fun ay az=>by kernel_rfl
def XH (F:Nat):Nat->(Int)->(List Int)->(Int)->(Int)->(Int)->(Int)->(Int)->(Int)->(List Int)->(Int)->(List Int)->(List ap)->(List Int)->(List (List J.Field))->(List (List (List UInt8)))->(List (List J.Target))->(List (Int × Int))->(List Int)->Option ((Unit × Unit × Int × Unit) ×
 Ix × List Int × NP × List (Int × Int) × List Int × Unit)
 | 0,_,_,_,_,_,_,_,_,_,_,_,_,_,_,_,_,_,_=>none
 | aS+ 1,DH,DI,AU,AV,DJ,DK,DL,DM,DN,AW,m0,xH,DO,xI,iI,xK,AX,xL=>
   cond (decide (AV <AU)) ((idx DI AV).bind fun AZ=>
(idx xL AZ).bind fun DP=>
(XK F DP xH DO xI iI xK DJ DK DL DM DN AW m0 AX).bind fun jE=>
XH F aS DH DI AU (aA (AV+ 1)) jE.2.2.1.2.1 jE.2.2.1.2.2.1 jE.2.2.1.2.2.2.1 jE.2.2.1.2.2.2.2.1 jE.2.2.1.2.2.2.2.2.1 jE.2.2.1.2.2.2.2.2.2.1 jE.2.2.2.1 jE.2.1.2.1 jE.2.1.2.2.1 jE.2.1.2.2.2.1 jE.2.1.2.2.2.2.1 jE.2.1.2.2.2.2.2.1 jE.2.2.2.2.1 (xL.set AZ.toNat jE.1.1)) (
some (((),(),DH,()),((),DJ,DK,DL,DM,DN,AW,()),m0,((),xH,DO,xI,iI,xK,(),()),AX,xL,()))
noncomputable def alV (F:Nat):aR aH:=(alU F).gw 38 0 F ⟨[0,6,7,22,23,24],[.p (.B 0),.p (.B 2),.p (.i .i64),.p (.P 4 1),.p (.i .i64),.p (.i .i64)],[xc,.r 3 true,C_,.m 3 3,.r 3 true],[⟨.nm,[0,6,7],[.p (.B 0),.p (.B 2),.p (.i .i64)],[xc,.r 3 true,C_,.m 3 3,.r 3 true]⟩],fun k d=>XH F k d.1.2.2.1 d.1.2.2.2.1 d.1.2.2.2.2.1 d.1.2.2.2.2.2.1 d.2.1.2.1 d.2.1.2.2.1 d.2.1.2.2.2.1 d.2.1.2.2.2.2.1 d.2.1.2.2.2.2.2.1 d.2.1.2.2.2.2.2.2.1 d.2.2.1 d.2.2.2.1.2.1 d.2.2.2.1.2.2.1 d.2.2.2.1.2.2.2.1 d.2.2.2.1.2.2.2.2.1 d.2.2.2.1.2.2.2.2.2.1 d.2.2.2.2.1 d.2.2.2.2.2.1⟩ ⟨fun d=>by kernel_rfl,fun k ay az=>by kernel_rfl⟩
def XI (F:Nat):Nat->(Int)->(List Int)->(Int)->(Int)->(Int)->(Int)->(Int)->(Int)->(List Int)->(Int)->(List Int)->(List ap)->(List Int)->(List (List J.Field))->(List (List (List UInt8)))->(List (List J.Target))->(List (Int × Int))->Option ((Unit × Unit × Int × Unit) ×
 Ix × List Int × NP × List (Int × Int) × Unit)
 | 0,_,_,_,_,_,_,_,_,_,_,_,_,_,_,_,_,_=>none
 | aS+ 1,uR,sf,uS,sg,o1,DR,HL,M8,HM,agX,agY,agZ,ag0,ag1,ag2,ag3,ag4=>
   cond (decide (sg <uS)) ((idx sf sg).bind fun aDC=>
(XL F aDC agZ ag0 ag1 ag2 ag3 o1 DR HL M8 HM agX agY ag4).bind fun nZ=>
XI F aS uR sf uS (aA (sg+ 1)) nZ.2.2.1.2.1 nZ.2.2.1.2.2.1 nZ.2.2.1.2.2.2.1 nZ.2.2.1.2.2.2.2.1 nZ.2.2.1.2.2.2.2.2.1 nZ.2.2.1.2.2.2.2.2.2.1 nZ.2.2.2.1 nZ.2.1.2.1 nZ.2.1.2.2.1 nZ.2.1.2.2.2.1 nZ.2.1.2.2.2.2.1 nZ.2.1.2.2.2.2.2.1 nZ.2.2.2.2.1) (
some (((),(),uR,()),((),o1,DR,HL,M8,HM,agX,()),agY,((),agZ,ag0,ag1,ag2,ag3,(),()),ag4,()))
noncomputable def alW (F:Nat):aR aH:=(alV F).gw 38 2 F ⟨[0,6,7,39,40,41],[.p (.B 0),.p (.B 2),.p (.i .i64),.p (.l 3),.p (.i .i64),.p (.i .i64)],[xc,.r 3 true,C_,.m 3 3],[⟨.nm,[0,6,7],[.p (.B 0),.p (.B 2),.p (.i .i64)],[xc,.r 3 true,C_,.m 3 3]⟩],fun k d=>XI F k d.1.2.2.1 d.1.2.2.2.1 d.1.2.2.2.2.1 d.1.2.2.2.2.2.1 d.2.1.2.1 d.2.1.2.2.1 d.2.1.2.2.2.1 d.2.1.2.2.2.2.1 d.2.1.2.2.2.2.2.1 d.2.1.2.2.2.2.2.2.1 d.2.2.1 d.2.2.2.1.2.1 d.2.2.2.1.2.2.1 d.2.2.2.1.2.2.2.1 d.2.2.2.1.2.2.2.2.1 d.2.2.2.1.2.2.2.2.2.1 d.2.2.2.2.1⟩ ⟨fun d=>by kernel_rfl,fun k ay az=>by kernel_rfl⟩
def XJ (F:Nat):Nat->(Int)->(Int)->(Int)->(Int)->(Int)->(List Int)->(Int)->(List Int)->(List ap)->(List Int)->(List (List J.Field))->(List (List (List UInt8)))->(List (List J.Target))->(List (Int × Int))->Option ((Unit × Unit) × Ix × List Int × NP × List (Int × Int) × Unit)
 | 0,_,_,_,_,_,_,_,_,_,_,_,_,_,_=>none
 | aS+ 1,DS,Nb,Nc,Nd,HN,A2,jF,sh,HO,HP,HQ,HR,HS,HT=>
   cond (decide (DS <HN)) ((XL F DS HO HP HQ HR HS Nb Nc Nd HN A2 jF sh HT).bind fun kA=>
(idx kA.2.2.2.1 (aA (DS+ 1))).bind fun Nf=>
XJ F aS (aA (DS+aA (3 +Nf))) kA.2.2.1.2.1 kA.2.2.1.2.2.1 kA.2.2.1.2.2.2.1 kA.2.2.1.2.2.2.2.1 kA.2.2.1.2.2.2.2.2.1 kA.2.2.1.2.2.2.2.2.2.1 kA.2.2.2.1 kA.2.1.2.1 kA.2.1.2.2.1 kA.2.1.2.2.2.1 kA.2.1.2.2.2.2.1 kA.2.1.2.2.2.2.2.1 kA.2.2.2.2.1) (
some (((),()),((),Nb,Nc,Nd,HN,A2,jF,()),sh,((),HO,HP,HQ,HR,HS,(),()),HT,()))
noncomputable def alX (F:Nat):aR aH:=(alW F).gw 38 4 F ⟨[0,6,12],[.p (.B 0),.p (.B 2),.p (.i .i64)],[xc,.r 3 true,C_,.m 3 3],[⟨.nm,[0],[.p (.B 0)],[xc,.r 3 true,C_,.m 3 3]⟩],fun k d=>XJ F k d.1.2.2.1 d.2.1.2.1 d.2.1.2.2.1 d.2.1.2.2.2.1 d.2.1.2.2.2.2.1 d.2.1.2.2.2.2.2.1 d.2.1.2.2.2.2.2.2.1 d.2.2.1 d.2.2.2.1.2.1 d.2.2.2.1.2.2.1 d.2.2.2.1.2.2.2.1 d.2.2.2.1.2.2.2.2.1 d.2.2.2.1.2.2.2.2.2.1 d.2.2.2.2.1⟩ ⟨fun d=>by kernel_rfl,fun k ay az=>by kernel_rfl⟩
def Iz (F:Nat) (xV:List ap) (sj:List Int) (A3:List (List J.Field)) (A4:List (List (List UInt8))) (A5:List (List J.Target)) (xW:List Int) (A6:Int) (A7:Int) (A8:Int) (xX:Int) (A9:List Int) (A_:Int) (A':List Int) (uV:List Int):Option (Unit × Ix × List Int × List Int × Unit):=
 (XH F F xX xW (↑xW.length:Int) 0 A6 A7 A8 xX A9 A_ A' xV sj A3 A4 A5 [] uV).bind fun hS=>
(XI F F hS.1.2.2.1 hS.2.1.2.2.2.2.2.1 (↑(List.length hS.2.1.2.2.2.2.2.1):Int) 0 hS.2.1.2.1 hS.2.1.2.2.1 hS.2.1.2.2.2.1
 hS.2.1.2.2.2.2.1 hS.2.1.2.2.2.2.2.1 hS.2.1.2.2.2.2.2.2.1 hS.2.2.1 hS.2.2.2.1.2.1 hS.2.2.2.1.2.2.1 hS.2.2.2.1.2.2.2.1
 hS.2.2.2.1.2.2.2.2.1 hS.2.2.2.1.2.2.2.2.2.1 hS.2.2.2.2.1).bind fun h_=>
(XJ F F h_.1.2.2.1 h_.2.1.2.1 h_.2.1.2.2.1 h_.2.1.2.2.2.1 h_.2.1.2.2.2.2.1 h_.2.1.2.2.2.2.2.1 h_.2.1.2.2.2.2.2.2.1 h_.2.2.1
 h_.2.2.2.1.2.1 h_.2.2.2.1.2.2.1 h_.2.2.2.1.2.2.2.1 h_.2.2.2.1.2.2.2.2.1 h_.2.2.2.1.2.2.2.2.2.1 h_.2.2.2.2.1).bind fun l2=>
(if (0 :Int)<= 1 /\ 1 <=aA (l2.2.1.2.1 + 1)/\aA (l2.2.1.2.1 + 1)<=(↑(List.length l2.2.2.1):Int) then some () else none).bind fun HU=>
(At (decide (1 <aA (l2.2.1.2.1 + 1)))).bind fun uW=>
some ((),((),l2.2.1.2.1,l2.2.1.2.2.1,1,l2.2.1.2.2.2.2.1,([]),l2.2.1.2.2.2.2.2.2.1,()),(gh l2.2.2.1 (Int.toNat 1) (List.replicate (aA (l2.2.1.2.1 + 1) - 1).toNat 0)),hS.2.2.2.2.2.1,())
noncomputable def alY (F:Nat):aR aH:=(alX F).fn 38 ⟨[.p (.B 0),aeh,.p (.P 2 1)],[xc,.r 3 true,.r 3 true],[],[xc,.r 3 true,.r 3 true],fun d=>Iz F d.1.2.1.1 d.1.2.1.2.1 d.1.2.1.2.2.1 d.1.2.1.2.2.2.1 d.1.2.1.2.2.2.2.1 d.1.2.2.1 d.2.1.2.1 d.2.1.2.2.1 d.2.1.2.2.2.1 d.2.1.2.2.2.2.1 d.2.1.2.2.2.2.2.1 d.2.1.2.2.2.2.2.2.1 d.2.2.1 d.2.2.2.1⟩ fun ay az=>by kernel_rfl
def XF (F:Nat) (l3:List Int) (dG:Int) (j0:Int) (l4:Int) (l5:Int) (o2:List Int) (o3:Int) (DT:List ap) (DU:List Int) (HV:List (List J.Field)) (HW:List (List (List UInt8))) (DV:List (List J.Target)) (o4:List Int):Option (((List Int × Int × Int × Int × Int × List Int × Int × Unit) × List Int × Int × Unit) × Unit):=
 dr (jc (jO F (aY.mk l3 dG j0 l4 l5 o2 o3) (aU.mk DT DU HV HW DV))) (fun ed=>
cond (decide (ed.2 = 0)) ((Bs F
 (bd.mk (aY.mk ed.1.H.Words ed.1.H.aL ed.1.H.aW ed.1.H.a5 ed.1.H.a2 ed.1.H.aZ ed.1.H.Next)
  (b'.mk (aU.mk ed.1.S.K.ba ed.1.S.K.a8 ed.1.S.K.Fields ed.1.S.K.Names ed.1.S.K.a9)) ed.1.aL ed.1.aW ed.1.dE)
 o4).bind fun sk=>
cond (decide (sk= 0)) (cond (decide (aA (aA (aA (aA (dG+j0)+ 1) - l5) - aA (l4 - 1)) < 0)) (some (((([]),0,0,0,0,([]),0,()),([]),8,()),())) (
cond (!decide (sk= 0)) (some (((([]),0,0,0,0,([]),0,()),([]),sk,()),())) (
(tf (aY.mk l3 dG j0 l4 l5 o2 o3)).bind fun hs=>
(bK 8 [] o4).bind fun Ba=>
(yl F (↑Ba.length:Int)).bind fun DW=>
(Iz F ed.1.S.K.ba ed.1.S.K.a8 ed.1.S.K.Fields ed.1.S.K.Names ed.1.S.K.a9 DW hs.aL hs.aW hs.a5 hs.a2 hs.aZ hs.Next hs.Words Ba).bind fun o5=>
some (((o5.2.2.1,o5.2.1.2.1,o5.2.1.2.2.1,o5.2.1.2.2.2.1,o5.2.1.2.2.2.2.1,o5.2.1.2.2.2.2.2.1,o5.2.1.2.2.2.2.2.2.1,()),o5.2.2.2.1,0,()),())))) (
cond (!decide (sk= 0)) (some (((([]),0,0,0,0,([]),0,()),([]),sk,()),())) (
(tf (aY.mk l3 dG j0 l4 l5 o2 o3)).bind fun qC=>
(bK 8 [] o4).bind fun DX=>
(yl F (↑DX.length:Int)).bind fun HX=>
(Iz F ed.1.S.K.ba ed.1.S.K.a8 ed.1.S.K.Fields ed.1.S.K.Names ed.1.S.K.a9 HX qC.aL qC.aW qC.a5 qC.a2 qC.aZ qC.Next qC.Words DX).bind fun o6=>
some (((o6.2.2.1,o6.2.1.2.1,o6.2.1.2.2.1,o6.2.1.2.2.2.1,o6.2.1.2.2.2.2.1,o6.2.1.2.2.2.2.2.1,o6.2.1.2.2.2.2.2.2.1,()),o6.2.2.2.1,0,()),())))) (
cond (decide (ed.2 = 0)) (cond (decide (aA (aA (aA (aA (dG+j0)+ 1) - l5) - aA (l4 - 1)) < 0)) (some (((([]),0,0,0,0,([]),0,()),([]),8,()),())) (
cond (!decide (ed.2 = 0)) (some (((([]),0,0,0,0,([]),0,()),([]),ed.2,()),())) (
(tf (aY.mk l3 dG j0 l4 l5 o2 o3)).bind fun qD=>
(bK 8 [] o4).bind fun uX=>
(yl F (↑uX.length:Int)).bind fun xY=>
(Iz F ed.1.S.K.ba ed.1.S.K.a8 ed.1.S.K.Fields ed.1.S.K.Names ed.1.S.K.a9 xY qD.aL qD.aW qD.a5 qD.a2 qD.aZ qD.Next qD.Words uX).bind fun kB=>
some (((kB.2.2.1,kB.2.1.2.1,kB.2.1.2.2.1,kB.2.1.2.2.2.1,kB.2.1.2.2.2.2.1,kB.2.1.2.2.2.2.2.1,kB.2.1.2.2.2.2.2.2.1,()),kB.2.2.2.1,0,()),())))) (
cond (!decide (ed.2 = 0)) (some (((([]),0,0,0,0,([]),0,()),([]),ed.2,()),())) (
(tf (aY.mk l3 dG j0 l4 l5 o2 o3)).bind fun lf=>
(bK 8 [] o4).bind fun qE=>
(yl F (↑qE.length:Int)).bind fun xZ=>
(Iz F ed.1.S.K.ba ed.1.S.K.a8 ed.1.S.K.Fields ed.1.S.K.Names ed.1.S.K.a9 xZ lf.aL lf.aW lf.a5 lf.a2 lf.aZ lf.Next lf.Words qE).bind fun lg=>
some (((lg.2.2.1,lg.2.1.2.1,lg.2.1.2.2.1,lg.2.1.2.2.2.1,lg.2.1.2.2.2.2.1,lg.2.1.2.2.2.2.2.1,lg.2.1.2.2.2.2.2.2.1,()),lg.2.2.2.1,0,()),()))))) (fun m3=>
cond (decide (m3= 0)) none (
cond (decide (m3= 0)) (cond (decide (aA (aA (aA (aA (dG+j0)+ 1) - l5) - aA (l4 - 1)) < 0)) (some (((([]),0,0,0,0,([]),0,()),([]),8,()),())) (
cond (!decide (m3= 0)) (some (((([]),0,0,0,0,([]),0,()),([]),m3,()),())) (
(tf (aY.mk l3 dG j0 l4 l5 o2 o3)).bind fun x0=>
(bK 8 [] o4).bind fun x1=>
none))) (
cond (!decide (m3= 0)) (some (((([]),0,0,0,0,([]),0,()),([]),m3,()),())) (
(tf (aY.mk l3 dG j0 l4 l5 o2 o3)).bind fun x2=>
(bK 8 [] o4).bind fun x3=>
none))))
noncomputable def alZ (F:Nat):aR aH:=(alY F).fn 12 ⟨[aeg,aeh,.p (.l 3)],[],[aeg,.p (.l 3),.p (.i .i64)],[],fun d=>XF F d.1.1.1 d.1.1.2.1 d.1.1.2.2.1 d.1.1.2.2.2.1 d.1.1.2.2.2.2.1 d.1.1.2.2.2.2.2.1 d.1.1.2.2.2.2.2.2.1 d.1.2.1.1 d.1.2.1.2.1 d.1.2.1.2.2.1 d.1.2.1.2.2.2.1 d.1.2.1.2.2.2.2.1 d.1.2.2.1⟩ fun ay az=>by kernel_rfl
def OD (F:Nat):Nat->(List Int)->(Int)->(Int)->Option ((Int × Unit) × Unit ⊕ Unit × Unit)
 | 0,_,_,_=>none
 | aS+ 1,sm,qH,n0=>
   cond (decide (n0 <(↑sm.length:Int))) ((idx sm n0).bind fun kE=>
cond (decide (kE=qH)) (some (.inl ((n0,()),()))) (
OD F aS sm qH (aA (n0+ 1)))) (
some (.inr ((),())))
noncomputable def al0 (F:Nat):aR aH:=(alZ F).gw 29 0 F ⟨[0,1,5],[.p (.l 3),.p (.i .i64),.p (.i .i64)],[],[⟨.rt,[4],[.p (.i .i64)],[]⟩,⟨.nm,[],[],[]⟩],fun k d=>OD F k d.1.1 d.1.2.1 d.1.2.2.1⟩ ⟨fun d=>by kernel_rfl,fun k ay az=>by kernel_rfl⟩
def EB (F:Nat) (sa:List Int) (uM:Int):Option ((Int × Unit) × Unit):=
 dr (OD F F sa uM 0) (fun kz=>
some ((kz.1.1,()),())) (fun du=>
some (((-1),()),()))
noncomputable def al1 (F:Nat):aR aH:=(al0 F).fn 29 ⟨[.p (.l 3),.p (.i .i64)],[],[.p (.i .i64)],[],fun d=>EB F d.1.1 d.1.2.1⟩ fun ay az=>by kernel_rfl
noncomputable def al2 (F:Nat):aR aH:=(al1 F).zr 43
noncomputable def al3 (F:Nat):aR aH:=(al2 F).zr 29
end Go.Proofs.YteeliipnilghaaaGreat
namespace Go.Proofs.YteeliipnilghaaaGreat
open Go Go.RowKit au J bn
set_option maxRecDepth 100000
@[reducible] def eJ:bI:=.c 24 [.l 3,.i .i64,.i .i64,.i .i64,.i .i64,.l 3,.i .i64]
@[reducible] def C':bI:=.c 24 [.R 7,.i .i64,.i .i64,.i .i64,.i .i64,.l 3,.i .i64]
@[reducible] def LJ:bI:=.c 24 [.R 6,.i .i64,.i .i64,.i .i64,.i .i64,.l 3,.i .i64]
@[reducible] def GI:cO:=.a [.l 3,.i .i64,.i .i64,.i .i64,.i .i64,.l 3,.i .i64]
@[reducible] def jb:bI:=.c 30 [.l 134,.l 3,.l 124,.l 120,.l 121]
@[reducible] def TQ:cO:=.a [.l 134,.l 3,.l 124,.l 120,.l 121]
abbrev ajM:=(Unit ×
 (List Int × Int × Int × Int × Int × List Int × Int × Unit) ×
  (List ap × List Int × List (List J.Field) × List (List (List UInt8)) × List (List J.Target) × Unit) ×
   (Unit × Unit) × (List Int × Unit) × (Unit × Unit) × List Int × (Unit × Int × Int × Int × Int × List Int × Int × Unit) × List Int × Unit)
abbrev yk:=(List ap × List Int × List (List J.Field) × List (List (List UInt8)) × List (List J.Target) × Unit)
abbrev ajN:=(List Int × Unit × Unit × Unit × Unit × (Unit × Unit × Unit) × Int × Unit)
abbrev ajO:=(List Int × Unit × Unit × Unit × Unit × (Unit × Unit × Unit) × Unit)
abbrev ji:=(List Int × Int × Int × Int × Int × List Int × Int × Unit)
abbrev XE:=(Unit × Int × Int × Int × Int × List Int × Int × Unit)
def OH (F:Nat) (cv:Int) (et:List Int) (hr:List Int):Option ((Int × Unit) × (List Int × Unit) × (Unit × Unit) × List Int × Unit):=
 (EB F et cv).bind fun j1=>
cond (decide (cv= 0) || decide (j1.1.1 < 0)) (some ((cv,()),(et,()),((),()),hr,())) (
(idx hr j1.1.1).bind fun sl=>
some ((sl,()),(et,()),((),()),hr,()))
noncomputable def al5 (F:Nat):aR aH:=(al3 F).fn 72 ⟨[.p (.i .i64),.p (.B 0),.p (.B 1)],[.c 22 [.l 3],.c 22 [.R 2],.r 3 true],[.p (.i .i64)],[.c 22 [.l 3],.c 22 [.R 2],.r 3 true],fun d=>OH F d.1.1 d.2.1.1 d.2.2.2.1⟩ fun ay az=>by kernel_rfl
def EE (F:Nat):Nat->(Int)->(Int)->(Int)->(List Int)->(Int)->(Int)->(Int)->(Int)->(List Int)->(Int)->(List ap)->(List Int)->(List (List J.Field))->(List (List (List UInt8)))->(List (List J.Target))->(List Int)->(List Int)->(Int)->(Int)->(Int)->(Int)->(List Int)->(Int)->(List Int)->Option ajM
 | 0,_,_,_,_,_,_,_,_,_,_,_,_,_,_,_,_,_,_,_,_,_,_,_,_=>none
 | aS+ 1,qF,m4,kD,qG,x7,x8,x_,x',sn,ya,Bi,Bj,Bk,iM,D1,Bl,D2,D3,D4,D5,D6,D7,D8,uZ=>
   (idx qG (aA (qF+ 1))).bind fun yf=>
cond (decide (kD <aA (3 +yf))) ((idx qG (aA (qF+kD))).bind fun u1=>
cond (decide (3 <=kD)) ((idx qG qF).bind fun u2=>
(sG (aU.mk Bi Bj Bk iM D1) u2 (aA (kD - 3))).bind fun u3=>
cond u3 ((OH F u1 Bl D2).bind fun sp=>
(idx uZ (aA (m4+kD))).bind fun Bm=>
EE F aS qF m4 (aA (kD+ 1)) qG x7 x8 x_ x' sn ya Bi Bj Bk iM D1 sp.2.1.1 sp.2.2.2.1 D3 D4 D5 D6 D7 D8 (uZ.set (aA (m4+kD)).toNat sp.1.1)) (
(idx uZ (aA (m4+kD))).bind fun jG=>
EE F aS qF m4 (aA (kD+ 1)) qG x7 x8 x_ x' sn ya Bi Bj Bk iM D1 Bl D2 D3 D4 D5 D6 D7 D8 (uZ.set (aA (m4+kD)).toNat u1))) (
(idx uZ (aA (m4+kD))).bind fun Ii=>
EE F aS qF m4 (aA (kD+ 1)) qG x7 x8 x_ x' sn ya Bi Bj Bk iM D1 Bl D2 D3 D4 D5 D6 D7 D8 (uZ.set (aA (m4+kD)).toNat u1))) (
some ((),(qG,x7,x8,x_,x',sn,ya,()),(Bi,Bj,Bk,iM,D1,()),((),()),(Bl,()),((),()),D2,((),D3,D4,D5,D6,D7,D8,()),uZ,()))
noncomputable def al6 (F:Nat):aR aH:=(al5 F).gw 73 0 F ⟨[0,1,2,3,4,5,8],[.p (.i .i64),.p (.i .i64),.p (.B 0),.p (.B 1),.p (.B 2),.p (.B 6),.p (.i .i64)],[eJ,jb,.c 110 [.F 72 [3,4]],.c 22 [.l 3],.c 22 [.R 5],.r 3 true,C',.r 3 true],[⟨.nm,[],[],[eJ,jb,.c 110 [.F 72 [3,4]],.c 22 [.l 3],.c 22 [.R 5],.r 3 true,C',.r 3 true]⟩],fun k d=>EE F k d.1.1 d.1.2.1 d.1.2.2.2.2.2.2.1 d.2.1.1 d.2.1.2.1 d.2.1.2.2.1 d.2.1.2.2.2.1 d.2.1.2.2.2.2.1 d.2.1.2.2.2.2.2.1 d.2.1.2.2.2.2.2.2.1 d.2.2.1.1 d.2.2.1.2.1 d.2.2.1.2.2.1 d.2.2.1.2.2.2.1 d.2.2.1.2.2.2.2.1 d.2.2.2.2.1.1 d.2.2.2.2.2.2.1 d.2.2.2.2.2.2.2.1.2.1 d.2.2.2.2.2.2.2.1.2.2.1 d.2.2.2.2.2.2.2.1.2.2.2.1 d.2.2.2.2.2.2.2.1.2.2.2.2.1 d.2.2.2.2.2.2.2.1.2.2.2.2.2.1 d.2.2.2.2.2.2.2.1.2.2.2.2.2.2.1 d.2.2.2.2.2.2.2.2.1⟩ ⟨fun d=>by kernel_rfl,fun k ay az=>by kernel_rfl⟩
def OI (F:Nat) (Bn:Int) (Ij:Int) (Ik:List Int) (Il:Int) (Im:Int) (Io:Int) (Ip:Int) (Iq:List Int) (HF:Int) (V8:List ap) (V9:List Int) (V_:List (List J.Field)) (V':List (List (List UInt8))) (aC6:List (List J.Target)) (aC7:List Int) (aC8:List Int) (aC9:Int) (aC_:Int) (aC':Int) (aDa:Int) (aDc:List Int) (aDd:Int) (aDe:List Int):Option ajM:=
 (EE F F Bn Ij 0 Ik Il Im Io Ip Iq HF V8 V9 V_ V' aC6 aC7 aC8 aC9 aC_ aC' aDa aDc aDd aDe).bind fun iH=>
some ((),(iH.2.1.1,iH.2.1.2.1,iH.2.1.2.2.1,iH.2.1.2.2.2.1,iH.2.1.2.2.2.2.1,iH.2.1.2.2.2.2.2.1,iH.2.1.2.2.2.2.2.2.1,()),(iH.2.2.1.1,iH.2.2.1.2.1,iH.2.2.1.2.2.1,iH.2.2.1.2.2.2.1,iH.2.2.1.2.2.2.2.1,()),((),()),(iH.2.2.2.2.1.1,()),((),()),iH.2.2.2.2.2.2.1,((),iH.2.2.2.2.2.2.2.1.2.1,iH.2.2.2.2.2.2.2.1.2.2.1,iH.2.2.2.2.2.2.2.1.2.2.2.1,iH.2.2.2.2.2.2.2.1.2.2.2.2.1,iH.2.2.2.2.2.2.2.1.2.2.2.2.2.1,iH.2.2.2.2.2.2.2.1.2.2.2.2.2.2.1,()),iH.2.2.2.2.2.2.2.2.1,())
noncomputable def al7 (F:Nat):aR aH:=(al6 F).fn 73 ⟨[.p (.i .i64),.p (.i .i64),.p (.B 0),.p (.B 1),.p (.B 2),.p (.B 6)],[eJ,jb,.c 110 [.F 72 [3,4]],.c 22 [.l 3],.c 22 [.R 5],.r 3 true,C',.r 3 true],[],[eJ,jb,.c 110 [.F 72 [3,4]],.c 22 [.l 3],.c 22 [.R 5],.r 3 true,C',.r 3 true],fun d=>OI F d.1.1 d.1.2.1 d.2.1.1 d.2.1.2.1 d.2.1.2.2.1 d.2.1.2.2.2.1 d.2.1.2.2.2.2.1 d.2.1.2.2.2.2.2.1 d.2.1.2.2.2.2.2.2.1 d.2.2.1.1 d.2.2.1.2.1 d.2.2.1.2.2.1 d.2.2.1.2.2.2.1 d.2.2.1.2.2.2.2.1 d.2.2.2.2.1.1 d.2.2.2.2.2.2.1 d.2.2.2.2.2.2.2.1.2.1 d.2.2.2.2.2.2.2.1.2.2.1 d.2.2.2.2.2.2.2.1.2.2.2.1 d.2.2.2.2.2.2.2.1.2.2.2.2.1 d.2.2.2.2.2.2.2.1.2.2.2.2.2.1 d.2.2.2.2.2.2.2.1.2.2.2.2.2.2.1 d.2.2.2.2.2.2.2.2.1⟩ fun ay az=>by kernel_rfl
def OJ (F:Nat):Nat->(Int)->(List Int)->(Int)->(Int)->(List Int)->(Int)->(Int)->(Int)->(Int)->(List Int)->(Int)->(List ap)->(List Int)->(List (List J.Field))->(List (List (List UInt8)))->(List (List J.Target))->(List Int)->(List Int)->(Int)->(Int)->(Int)->(Int)->(List Int)->(Int)->(List Int)->Option ((Int × List Int × Unit × Unit × Unit × Unit × Unit × Int × Unit) ×
 ji ×
  yk × (List Int × Unit) × ji × (Unit × Unit) × List Int × Unit)
 | 0,_,_,_,_,_,_,_,_,_,_,_,_,_,_,_,_,_,_,_,_,_,_,_,_,_=>none
 | aS+ 1,M6,M7,uN,qz,qA,qB,xN,xO,xP,xQ,xR,xS,iJ,sb,sc,sd,o0,uP,uQ,A0,A1,DQ,uR,sf,uS=>
   cond (decide (qz <(↑o0.length:Int))) ((bK 8 uS [uN]).bind fun sg=>
(idx o0 qz).bind fun o1=>
(idx qA (aA (o1+ 1))).bind fun DR=>
OJ F aS M6 M7 (aA (uN+aA (3 +DR))) (aA (qz+ 1)) qA qB xN xO xP xQ xR xS iJ sb sc sd o0 uP uQ A0 A1 DQ uR sf sg) (
some ((M6,M7,(),(),(),(),(),uN,()),(qA,qB,xN,xO,xP,xQ,xR,()),(xS,iJ,sb,sc,sd,()),(o0,()),(uP,uQ,A0,A1,DQ,uR,sf,()),((),()),uS,()))
noncomputable def al8 (F:Nat):aR aH:=(al7 F).gw 45 0 F ⟨[3,4,5,6,7,10,12,13,14],[.p (.i .i64),.p (.l 3),.p (.B 0),.p (.B 1),.p (.B 2),.p (.B 3),.p (.B 4),.p (.i .i64),.p (.i .i64)],[eJ,jb,.c 22 [.l 3],eJ,.c 22 [.R 5],.r 3 false],[⟨.nm,[3,4,5,6,7,10,12,13],[.p (.i .i64),.p (.l 3),.p (.B 0),.p (.B 1),.p (.B 2),.p (.B 3),.p (.B 4),.p (.i .i64)],[eJ,jb,.c 22 [.l 3],eJ,.c 22 [.R 5],.r 3 false]⟩],fun k d=>OJ F k d.1.1 d.1.2.1 d.1.2.2.2.2.2.2.2.1 d.1.2.2.2.2.2.2.2.2.1 d.2.1.1 d.2.1.2.1 d.2.1.2.2.1 d.2.1.2.2.2.1 d.2.1.2.2.2.2.1 d.2.1.2.2.2.2.2.1 d.2.1.2.2.2.2.2.2.1 d.2.2.1.1 d.2.2.1.2.1 d.2.2.1.2.2.1 d.2.2.1.2.2.2.1 d.2.2.1.2.2.2.2.1 d.2.2.2.1.1 d.2.2.2.2.1.1 d.2.2.2.2.1.2.1 d.2.2.2.2.1.2.2.1 d.2.2.2.2.1.2.2.2.1 d.2.2.2.2.1.2.2.2.2.1 d.2.2.2.2.1.2.2.2.2.2.1 d.2.2.2.2.1.2.2.2.2.2.2.1 d.2.2.2.2.2.2.1⟩ ⟨fun d=>by kernel_rfl,fun k ay az=>by kernel_rfl⟩
def OL (F:Nat):Nat->(Int)->(List Int)->(Int)->(List Int)->(Int)->(Int)->(Int)->(Int)->(List Int)->(Int)->(List Int)->(List Int)->(Int)->(Int)->(Int)->(Int)->(List Int)->(Int)->(List Int)->(Int)->(Int)->(Int)->(Int)->(List Int)->(Int)->(List Int)->(List ap)->(List Int)->(List (List J.Field))->(List (List (List UInt8)))->(List (List J.Target))->Option ((List Int × Unit × Unit × Unit × Unit × Unit × (Unit × Unit × Unit × Unit × Unit) × Unit) ×
 ji ×
  (List Int × Unit) ×
   ji ×
    (Unit × Unit) × List Int × (Unit × Unit) × XE × List Int × yk × Unit)
 | 0,_,_,_,_,_,_,_,_,_,_,_,_,_,_,_,_,_,_,_,_,_,_,_,_,_,_,_,_,_,_,_=>none
 | aS+ 1,A2,jF,sh,HO,HP,HQ,HR,HS,HT,kA,Nf,xV,sj,A3,A4,A5,xW,A6,A7,A8,xX,A9,A_,A',uV,hS,h_,l2,HU,uW,l3=>
   cond (decide (sh <A2)) ((OI F sh sh HO HP HQ HR HS HT kA h_ l2 HU uW l3 Nf A7 A8 xX A9 A_ A' uV hS).bind fun dG=>
(idx dG.2.1.1 (aA (sh+ 1))).bind fun j0=>
OL F aS A2 jF (aA (sh+aA (3 +j0))) dG.2.1.1 dG.2.1.2.1 dG.2.1.2.2.1 dG.2.1.2.2.2.1 dG.2.1.2.2.2.2.1 dG.2.1.2.2.2.2.2.1 dG.2.1.2.2.2.2.2.2.1 dG.2.2.2.2.1.1 xV sj A3 A4 A5 xW A6 dG.2.2.2.2.2.2.1 dG.2.2.2.2.2.2.2.1.2.1 dG.2.2.2.2.2.2.2.1.2.2.1 dG.2.2.2.2.2.2.2.1.2.2.2.1 dG.2.2.2.2.2.2.2.1.2.2.2.2.1 dG.2.2.2.2.2.2.2.1.2.2.2.2.2.1 dG.2.2.2.2.2.2.2.1.2.2.2.2.2.2.1 dG.2.2.2.2.2.2.2.2.1 dG.2.2.1.1 dG.2.2.1.2.1 dG.2.2.1.2.2.1 dG.2.2.1.2.2.2.1 dG.2.2.1.2.2.2.2.1) (
some ((jF,(),(),(),(),(),((),(),(),(),()),()),(HO,HP,HQ,HR,HS,HT,kA,()),(Nf,()),(xV,sj,A3,A4,A5,xW,A6,()),((),()),A7,((),()),((),A8,xX,A9,A_,A',uV,()),hS,(h_,l2,HU,uW,l3,()),()))
noncomputable def al9 (F:Nat):aR aH:=(al8 F).gw 45 2 F ⟨[3,4,5,7,10,12,15,16,17,18],[.p (.i .i64),.p (.l 3),.p (.B 0),.p (.B 1),.p (.B 2),.p (.B 3),.p (.B 5),.p (.B 6),.f 73 [.B 0,.B 8,.B 5,.B 6],.p (.i .i64)],[eJ,.c 22 [.l 3],eJ,.c 22 [.R 4],.r 3 true,.c 110 [.F 72 [1,3]],C',.r 3 true,jb],[⟨.nm,[4,7,10,12,15,16,17],[.p (.l 3),.p (.B 1),.p (.B 2),.p (.B 3),.p (.B 5),.p (.B 6),.f 73 [.B 0,.B 8,.B 5,.B 6]],[eJ,.c 22 [.l 3],eJ,.c 22 [.R 4],.r 3 true,.c 110 [.F 72 [1,3]],C',.r 3 true,jb]⟩],fun k d=>OL F k d.1.1 d.1.2.1 d.1.2.2.2.2.2.2.2.2.2.1 d.2.1.1 d.2.1.2.1 d.2.1.2.2.1 d.2.1.2.2.2.1 d.2.1.2.2.2.2.1 d.2.1.2.2.2.2.2.1 d.2.1.2.2.2.2.2.2.1 d.2.2.1.1 d.2.2.2.1.1 d.2.2.2.1.2.1 d.2.2.2.1.2.2.1 d.2.2.2.1.2.2.2.1 d.2.2.2.1.2.2.2.2.1 d.2.2.2.1.2.2.2.2.2.1 d.2.2.2.1.2.2.2.2.2.2.1 d.2.2.2.2.2.1 d.2.2.2.2.2.2.2.1.2.1 d.2.2.2.2.2.2.2.1.2.2.1 d.2.2.2.2.2.2.2.1.2.2.2.1 d.2.2.2.2.2.2.2.1.2.2.2.2.1 d.2.2.2.2.2.2.2.1.2.2.2.2.2.1 d.2.2.2.2.2.2.2.1.2.2.2.2.2.2.1 d.2.2.2.2.2.2.2.2.1 d.2.2.2.2.2.2.2.2.2.1.1 d.2.2.2.2.2.2.2.2.2.1.2.1 d.2.2.2.2.2.2.2.2.2.1.2.2.1 d.2.2.2.2.2.2.2.2.2.1.2.2.2.1 d.2.2.2.2.2.2.2.2.2.1.2.2.2.2.1⟩ ⟨fun d=>by kernel_rfl,fun k ay az=>by kernel_rfl⟩
def OM (F:Nat):Nat->(List Int)->(Int)->(List Int)->(List Int)->(Int)->(Int)->(Int)->(Int)->(List Int)->(Int)->(List Int)->(Int)->(Int)->(Int)->(Int)->(List Int)->(Int)->(List Int)->(List Int)->(Int)->(Int)->(Int)->(Int)->(List Int)->(Int)->(List ap)->(List Int)->(List (List J.Field))->(List (List (List UInt8)))->(List (List J.Target))->Option ((List Int × Unit × Unit × Unit × Unit) ×
 (List Int × Unit) ×
  ji ×
   (Unit × Unit) ×
    List Int ×
     (Unit × Unit) ×
      XE ×
       List Int × ji × yk × Unit)
 | 0,_,_,_,_,_,_,_,_,_,_,_,_,_,_,_,_,_,_,_,_,_,_,_,_,_,_,_,_,_,_=>none
 | aS+ 1,H0,Bd,j2,Nh,ahj,ahk,ahl,ahm,ahn,aho,WH,ahp,ahq,ahr,ahs,aht,ahu,ahv,ahw,ahx,ahy,ahz,ahA,ahB,ahC,ahD,ahE,ahF,ahG,ahH=>
   cond (decide (Bd <(↑j2.length:Int))) ((idx j2 Bd).bind fun aD1=>
(idx WH Bd).bind fun aD2=>
(OI F aD1 aD2 ahw ahx ahy ahz ahA ahB ahC ahD ahE ahF ahG ahH j2 WH ahp ahq ahr ahs aht ahu ahv).bind fun iL=>
OM F aS H0 (aA (Bd+ 1)) iL.2.2.2.2.1.1 Nh ahj ahk ahl ahm ahn aho iL.2.2.2.2.2.2.1 iL.2.2.2.2.2.2.2.1.2.1 iL.2.2.2.2.2.2.2.1.2.2.1 iL.2.2.2.2.2.2.2.1.2.2.2.1 iL.2.2.2.2.2.2.2.1.2.2.2.2.1 iL.2.2.2.2.2.2.2.1.2.2.2.2.2.1 iL.2.2.2.2.2.2.2.1.2.2.2.2.2.2.1 iL.2.2.2.2.2.2.2.2.1 iL.2.1.1 iL.2.1.2.1 iL.2.1.2.2.1 iL.2.1.2.2.2.1 iL.2.1.2.2.2.2.1 iL.2.1.2.2.2.2.2.1 iL.2.1.2.2.2.2.2.2.1 iL.2.2.1.1 iL.2.2.1.2.1 iL.2.2.1.2.2.1 iL.2.2.1.2.2.2.1 iL.2.2.1.2.2.2.2.1) (
some ((H0,(),(),(),()),(j2,()),(Nh,ahj,ahk,ahl,ahm,ahn,aho,()),((),()),WH,((),()),((),ahp,ahq,ahr,ahs,aht,ahu,()),ahv,(ahw,ahx,ahy,ahz,ahA,ahB,ahC,()),(ahD,ahE,ahF,ahG,ahH,()),()))
noncomputable def al_ (F:Nat):aR aH:=(al9 F).gw 45 4 F ⟨[4,7,10,12,15,16,17,19],[.p (.l 3),.p (.B 0),.p (.B 1),.p (.B 2),.p (.B 4),.p (.B 5),.f 73 [.B 7,.B 8,.B 4,.B 5],.p (.i .i64)],[.c 22 [.l 3],eJ,.c 22 [.R 3],.r 3 true,.c 110 [.F 72 [0,2]],LJ,.r 3 true,eJ,jb],[⟨.nm,[4,10,15,16],[.p (.l 3),.p (.B 1),.p (.B 4),.p (.B 5)],[.c 22 [.l 3],eJ,.c 22 [.R 3],.r 3 true,.c 110 [.F 72 [0,2]],LJ,.r 3 true,eJ,jb]⟩],fun k d=>OM F k d.1.1 d.1.2.2.2.2.2.2.2.1 d.2.1.1 d.2.2.1.1 d.2.2.1.2.1 d.2.2.1.2.2.1 d.2.2.1.2.2.2.1 d.2.2.1.2.2.2.2.1 d.2.2.1.2.2.2.2.2.1 d.2.2.1.2.2.2.2.2.2.1 d.2.2.2.2.1 d.2.2.2.2.2.2.1.2.1 d.2.2.2.2.2.2.1.2.2.1 d.2.2.2.2.2.2.1.2.2.2.1 d.2.2.2.2.2.2.1.2.2.2.2.1 d.2.2.2.2.2.2.1.2.2.2.2.2.1 d.2.2.2.2.2.2.1.2.2.2.2.2.2.1 d.2.2.2.2.2.2.2.1 d.2.2.2.2.2.2.2.2.1.1 d.2.2.2.2.2.2.2.2.1.2.1 d.2.2.2.2.2.2.2.2.1.2.2.1 d.2.2.2.2.2.2.2.2.1.2.2.2.1 d.2.2.2.2.2.2.2.2.1.2.2.2.2.1 d.2.2.2.2.2.2.2.2.1.2.2.2.2.2.1 d.2.2.2.2.2.2.2.2.1.2.2.2.2.2.2.1 d.2.2.2.2.2.2.2.2.2.1.1 d.2.2.2.2.2.2.2.2.2.1.2.1 d.2.2.2.2.2.2.2.2.2.1.2.2.1 d.2.2.2.2.2.2.2.2.2.1.2.2.2.1 d.2.2.2.2.2.2.2.2.2.1.2.2.2.2.1⟩ ⟨fun d=>by kernel_rfl,fun k ay az=>by kernel_rfl⟩
def OO (F:Nat):Nat->(List Int)->(Int)->(List Int)->(Int)->(Int)->(Int)->(Int)->(List Int)->(Int)->(List Int)->(List Int)->(Int)->(Int)->(Int)->(Int)->(List Int)->(Int)->(List Int)->(List Int)->Option ((Unit × Unit × Unit × Unit) × ji × (Unit × Unit) × (List Int × Unit) × (Unit × Unit) × List Int × XE × List Int × List Int × Unit)
 | 0,_,_,_,_,_,_,_,_,_,_,_,_,_,_,_,_,_,_,_=>none
 | aS+ 1,WK,WL,ahI,ahJ,ahK,ahL,ahM,ahN,ahO,ahP,ahQ,ahR,ahS,ahT,ahU,ahV,ahW,ahX,ahY=>
   cond (decide (WL <(↑WK.length:Int))) ((idx WK WL).bind fun aEk=>
(OH F aEk ahP ahQ).bind fun WN=>
(bK 8 ahY [WN.1.1]).bind fun aEo=>
OO F aS WK (aA (WL+ 1)) ahI ahJ ahK ahL ahM ahN ahO WN.2.1.1 WN.2.2.2.1 ahR ahS ahT ahU ahV ahW ahX aEo) (
some (((),(),(),()),(ahI,ahJ,ahK,ahL,ahM,ahN,ahO,()),((),()),(ahP,()),((),()),ahQ,((),ahR,ahS,ahT,ahU,ahV,ahW,()),ahX,ahY,()))
noncomputable def al' (F:Nat):aR aH:=(al_ F).gw 45 6 F ⟨[4,10,15,16,20,21],[.p (.l 3),.p (.B 0),.p (.B 1),.p (.B 5),.p (.R 7),.p (.i .i64)],[eJ,.c 110 [.F 72 [2,3]],.c 22 [.l 3],.c 22 [.R 4],.r 3 true,LJ,.r 3 true,.r 3 false],[⟨.nm,[10,16,20],[.p (.B 0),.p (.B 5),.p (.R 7)],[eJ,.c 110 [.F 72 [2,3]],.c 22 [.l 3],.c 22 [.R 4],.r 3 true,LJ,.r 3 true,.r 3 false]⟩],fun k d=>OO F k d.1.1 d.1.2.2.2.2.2.1 d.2.1.1 d.2.1.2.1 d.2.1.2.2.1 d.2.1.2.2.2.1 d.2.1.2.2.2.2.1 d.2.1.2.2.2.2.2.1 d.2.1.2.2.2.2.2.2.1 d.2.2.2.1.1 d.2.2.2.2.2.1 d.2.2.2.2.2.2.1.2.1 d.2.2.2.2.2.2.1.2.2.1 d.2.2.2.2.2.2.1.2.2.2.1 d.2.2.2.2.2.2.1.2.2.2.2.1 d.2.2.2.2.2.2.1.2.2.2.2.2.1 d.2.2.2.2.2.2.1.2.2.2.2.2.2.1 d.2.2.2.2.2.2.2.1 d.2.2.2.2.2.2.2.2.1⟩ ⟨fun d=>by kernel_rfl,fun k ay az=>by kernel_rfl⟩
def Yi (F:Nat) (aEp:List Int) (aEq:Int) (aEr:Int) (aEs:Int) (aEt:Int) (aEu:List Int) (aEw:Int) (aEx:List ap) (aEy:List Int) (aEA:List (List J.Field)) (aEB:List (List (List UInt8))) (aEC:List (List J.Target)) (aEF:List Int) (ahZ:Int) (aEH:List Int):Option ((ji × List Int × Unit) × Unit):=
 (OJ F F ahZ aEH ahZ 0 aEp aEq aEr aEs aEt aEu aEw aEx aEy aEA aEB aEC aEF [] 0 0 0 0 [] 0 []).bind fun gm=>
(Gn 0 8 (↑(List.length gm.2.1.1):Int)).bind fun aEI=>
(OL F F gm.1.1 gm.1.2.1 (aA (gm.2.1.2.1 + 1)) gm.2.1.1 gm.2.1.2.1 gm.2.1.2.2.1 gm.2.1.2.2.2.1 gm.2.1.2.2.2.2.1
 gm.2.1.2.2.2.2.2.1 gm.2.1.2.2.2.2.2.2.1 gm.2.2.2.1.1 gm.2.2.2.2.1.1 gm.2.2.2.2.1.2.1 gm.2.2.2.2.1.2.2.1
 gm.2.2.2.2.1.2.2.2.1 gm.2.2.2.2.1.2.2.2.2.1 gm.2.2.2.2.1.2.2.2.2.2.1 gm.2.2.2.2.1.2.2.2.2.2.2.1 gm.2.2.2.2.2.2.1
 gm.2.1.2.1 gm.2.1.2.2.1 1 gm.1.2.2.2.2.2.2.2.1 [] gm.2.1.2.2.2.2.2.2.1 aEI gm.2.2.1.1 gm.2.2.1.2.1 gm.2.2.1.2.2.1
 gm.2.2.1.2.2.2.1 gm.2.2.1.2.2.2.2.1).bind fun gn=>
(OM F F gn.1.1 0 gn.2.2.1.1 gn.2.2.2.1.1 gn.2.2.2.1.2.1 gn.2.2.2.1.2.2.1 gn.2.2.2.1.2.2.2.1 gn.2.2.2.1.2.2.2.2.1
 gn.2.2.2.1.2.2.2.2.2.1 gn.2.2.2.1.2.2.2.2.2.2.1 gn.2.2.2.2.2.1 gn.2.2.2.2.2.2.2.1.2.1 gn.2.2.2.2.2.2.2.1.2.2.1
 gn.2.2.2.2.2.2.2.1.2.2.2.1 gn.2.2.2.2.2.2.2.1.2.2.2.2.1 gn.2.2.2.2.2.2.2.1.2.2.2.2.2.1 gn.2.2.2.2.2.2.2.1.2.2.2.2.2.2.1
 gn.2.2.2.2.2.2.2.2.1 gn.2.1.1 gn.2.1.2.1 gn.2.1.2.2.1 gn.2.1.2.2.2.1 gn.2.1.2.2.2.2.1 gn.2.1.2.2.2.2.2.1
 gn.2.1.2.2.2.2.2.2.1 gn.2.2.2.2.2.2.2.2.2.1.1 gn.2.2.2.2.2.2.2.2.2.1.2.1 gn.2.2.2.2.2.2.2.2.2.1.2.2.1
 gn.2.2.2.2.2.2.2.2.2.1.2.2.2.1 gn.2.2.2.2.2.2.2.2.2.1.2.2.2.2.1).bind fun kC=>
(OO F F kC.1.1 0 kC.2.2.1.1 kC.2.2.1.2.1 kC.2.2.1.2.2.1 kC.2.2.1.2.2.2.1 kC.2.2.1.2.2.2.2.1 kC.2.2.1.2.2.2.2.2.1
 kC.2.2.1.2.2.2.2.2.2.1 kC.2.1.1 kC.2.2.2.2.1 kC.2.2.2.2.2.2.1.2.1 kC.2.2.2.2.2.2.1.2.2.1 kC.2.2.2.2.2.2.1.2.2.2.1
 kC.2.2.2.2.2.2.1.2.2.2.2.1 kC.2.2.2.2.2.2.1.2.2.2.2.2.1 kC.2.2.2.2.2.2.1.2.2.2.2.2.2.1 kC.2.2.2.2.2.2.2.1 []).bind fun x4=>
some (((x4.2.2.2.2.2.2.2.1,x4.2.2.2.2.2.2.1.2.1,x4.2.2.2.2.2.2.1.2.2.1,x4.2.2.2.2.2.2.1.2.2.2.1,x4.2.2.2.2.2.2.1.2.2.2.2.1,x4.2.2.2.2.2.2.1.2.2.2.2.2.1,x4.2.2.2.2.2.2.1.2.2.2.2.2.2.1,()),x4.2.2.2.2.2.2.2.2.1,()),())
noncomputable def ama (F:Nat):aR aH:=(al' F).fn 45 ⟨[GI,TQ,.p (.l 3),.p (.i .i64),.p (.l 3)],[],[GI,.p (.l 3)],[],fun d=>Yi F d.1.1.1 d.1.1.2.1 d.1.1.2.2.1 d.1.1.2.2.2.1 d.1.1.2.2.2.2.1 d.1.1.2.2.2.2.2.1 d.1.1.2.2.2.2.2.2.1 d.1.2.1.1 d.1.2.1.2.1 d.1.2.1.2.2.1 d.1.2.1.2.2.2.1 d.1.2.1.2.2.2.2.1 d.1.2.2.1 d.1.2.2.2.1 d.1.2.2.2.2.1⟩ fun ay az=>by kernel_rfl
def Ey (F:Nat) (Ni:Int) (WO:List Int) (Nj:Int) (WQ:Int) (WR:Int) (WS:Int) (WT:List Int) (WU:Int) (Nk:List Int):Option (Unit × ji × (Unit × Unit) × List Int × Unit):=
 cond (decide (1 <=Ni) && decide (Ni<=Nj)) ((j6 F Nk Ni).bind fun aEL=>
cond (!aEL) ((bK 8 Nk [Ni]).bind fun aEM=>
some ((),(WO,Nj,WQ,WR,WS,WT,WU,()),((),()),aEM,())) (
some ((),(WO,Nj,WQ,WR,WS,WT,WU,()),((),()),Nk,()))) (
some ((),(WO,Nj,WQ,WR,WS,WT,WU,()),((),()),Nk,()))
noncomputable def amb (F:Nat):aR aH:=(ama F).fn 41 ⟨[.p (.i .i64),.p (.B 0),.p (.B 1)],[eJ,.c 22 [.R 2],.r 3 false],[],[eJ,.c 22 [.R 2],.r 3 false],fun d=>Ey F d.1.1 d.2.1.1 d.2.1.2.1 d.2.1.2.2.1 d.2.1.2.2.2.1 d.2.1.2.2.2.2.1 d.2.1.2.2.2.2.2.1 d.2.1.2.2.2.2.2.2.1 d.2.2.2.1⟩ fun ay az=>by kernel_rfl
def Oy (F:Nat):Nat->(List Int)->(Int)->(List Int)->(Int)->(Int)->(Int)->(Int)->(List Int)->(Int)->(List ap)->(List Int)->(List (List J.Field))->(List (List (List UInt8)))->(List (List J.Target))->(List Int)->(Int)->(Int)->(Int)->(Int)->(List Int)->(Int)->(List Int)->Option (ajO ×
 ji ×
  yk × ji × (Unit × Unit) × List Int × Unit)
 | 0,_,_,_,_,_,_,_,_,_,_,_,_,_,_,_,_,_,_,_,_,_,_=>none
 | aS+ 1,Nl,WV,ah0,ah1,ah2,ah3,ah4,ah5,ah6,ah7,ah8,ah9,ah_,ah',aia,aib,aic,aid,aie,aif,aih,aii=>
   cond (decide (WV <(↑Nl.length:Int))) ((idx Nl WV).bind fun aEQ=>
(Ey F aEQ ah0 ah1 ah2 ah3 ah4 ah5 ah6 aii).bind fun x5=>
Oy F aS Nl (aA (WV+ 1)) x5.2.1.1 x5.2.1.2.1 x5.2.1.2.2.1 x5.2.1.2.2.2.1 x5.2.1.2.2.2.2.1 x5.2.1.2.2.2.2.2.1 x5.2.1.2.2.2.2.2.2.1 ah7 ah8 ah9 ah_ ah' aia aib aic aid aie aif aih x5.2.2.2.1) (
some ((Nl,(),(),(),(),((),(),()),()),(ah0,ah1,ah2,ah3,ah4,ah5,ah6,()),(ah7,ah8,ah9,ah_,ah',()),(aia,aib,aic,aid,aie,aif,aih,()),((),()),aii,()))
noncomputable def amc (F:Nat):aR aH:=(amb F).gw 15 0 F ⟨[2,3,4,6,8,9,10],[.p (.l 3),.p (.B 0),.p (.B 1),.p (.B 2),.p (.B 3),.f 41 [.B 0,.B 3],.p (.i .i64)],[eJ,jb,eJ,.c 22 [.R 4],.r 3 false],[⟨.nm,[2,3,4,6,8,9],[.p (.l 3),.p (.B 0),.p (.B 1),.p (.B 2),.p (.B 3),.f 41 [.B 0,.B 3]],[eJ,jb,eJ,.c 22 [.R 4],.r 3 false]⟩],fun k d=>Oy F k d.1.1 d.1.2.2.2.2.2.2.1 d.2.1.1 d.2.1.2.1 d.2.1.2.2.1 d.2.1.2.2.2.1 d.2.1.2.2.2.2.1 d.2.1.2.2.2.2.2.1 d.2.1.2.2.2.2.2.2.1 d.2.2.1.1 d.2.2.1.2.1 d.2.2.1.2.2.1 d.2.2.1.2.2.2.1 d.2.2.1.2.2.2.2.1 d.2.2.2.1.1 d.2.2.2.1.2.1 d.2.2.2.1.2.2.1 d.2.2.2.1.2.2.2.1 d.2.2.2.1.2.2.2.2.1 d.2.2.2.1.2.2.2.2.2.1 d.2.2.2.1.2.2.2.2.2.2.1 d.2.2.2.2.2.1⟩ ⟨fun d=>by kernel_rfl,fun k ay az=>by kernel_rfl⟩
def OA (F:Nat):Nat->(List Int)->(Int)->(List Int)->(Int)->(List Int)->(Int)->(Int)->(Int)->(Int)->(List Int)->(Int)->(List ap)->(List Int)->(List (List J.Field))->(List (List (List UInt8)))->(List (List J.Target))->(List Int)->(Int)->(Int)->(Int)->(Int)->(List Int)->(Int)->(List Int)->Option (ajN ×
 ji ×
  yk × ji × (Unit × Unit) × List Int × Unit)
 | 0,_,_,_,_,_,_,_,_,_,_,_,_,_,_,_,_,_,_,_,_,_,_,_,_=>none
 | aS+ 1,aip,aiq,WY,WZ,W0,air,ais,ait,aiu,aiv,aiw,aix,aiy,aiz,aiA,aiB,aiC,aiD,aiE,aiF,aiG,aiH,aiI,aiJ=>
   cond (decide (WZ <(↑WY.length:Int))) ((idx WY WZ).bind fun aFa=>
(idx W0 aFa).bind fun aFb=>
(Ey F aFb W0 air ais ait aiu aiv aiw aiJ).bind fun x9=>
OA F aS aip aiq WY (aA (WZ+ 1)) x9.2.1.1 x9.2.1.2.1 x9.2.1.2.2.1 x9.2.1.2.2.2.1 x9.2.1.2.2.2.2.1 x9.2.1.2.2.2.2.2.1 x9.2.1.2.2.2.2.2.2.1 aix aiy aiz aiA aiB aiC aiD aiE aiF aiG aiH aiI x9.2.2.2.1) (
some ((aip,(),(),(),(),((),(),()),aiq,()),(W0,air,ais,ait,aiu,aiv,aiw,()),(aix,aiy,aiz,aiA,aiB,()),(aiC,aiD,aiE,aiF,aiG,aiH,aiI,()),((),()),aiJ,()))
noncomputable def ame (F:Nat):aR aH:=(amc F).gw 15 4 F ⟨[2,3,4,6,8,9,11,12,13],[.p (.l 3),.p (.B 0),.p (.B 1),.p (.B 2),.p (.B 3),.f 41 [.B 0,.B 3],.p (.i .i64),.p (.l 3),.p (.i .i64)],[eJ,jb,eJ,.c 22 [.R 4],.r 3 false],[⟨.nm,[2,3,4,6,8,9,11],[.p (.l 3),.p (.B 0),.p (.B 1),.p (.B 2),.p (.B 3),.f 41 [.B 0,.B 3],.p (.i .i64)],[eJ,jb,eJ,.c 22 [.R 4],.r 3 false]⟩],fun k d=>OA F k d.1.1 d.1.2.2.2.2.2.2.1 d.1.2.2.2.2.2.2.2.1 d.1.2.2.2.2.2.2.2.2.1 d.2.1.1 d.2.1.2.1 d.2.1.2.2.1 d.2.1.2.2.2.1 d.2.1.2.2.2.2.1 d.2.1.2.2.2.2.2.1 d.2.1.2.2.2.2.2.2.1 d.2.2.1.1 d.2.2.1.2.1 d.2.2.1.2.2.1 d.2.2.1.2.2.2.1 d.2.2.1.2.2.2.2.1 d.2.2.2.1.1 d.2.2.2.1.2.1 d.2.2.2.1.2.2.1 d.2.2.2.1.2.2.2.1 d.2.2.2.1.2.2.2.2.1 d.2.2.2.1.2.2.2.2.2.1 d.2.2.2.1.2.2.2.2.2.2.1 d.2.2.2.2.2.1⟩ ⟨fun d=>by kernel_rfl,fun k ay az=>by kernel_rfl⟩
def Oz (F:Nat):Nat->(List Int)->(Int)->(List Int)->(Int)->(Int)->(Int)->(Int)->(List Int)->(Int)->(List ap)->(List Int)->(List (List J.Field))->(List (List (List UInt8)))->(List (List J.Target))->(List Int)->(Int)->(Int)->(Int)->(Int)->(List Int)->(Int)->(List Int)->Option (ajO ×
 ji ×
  yk × ji × (Unit × Unit) × List Int × Unit)
 | 0,_,_,_,_,_,_,_,_,_,_,_,_,_,_,_,_,_,_,_,_,_,_=>none
 | aS+ 1,aiK,W1,W2,W3,W4,W5,W6,If,W7,W8,W9,W_,W',Xa,aiL,aiM,aiN,aiO,aiP,aiQ,aiR,aiS=>
   cond (decide (W1 <(↑If.length:Int))) ((idx If W1).bind fun aFk=>
(na F (aY.mk W2 W3 W4 W5 W6 If W7) (aU.mk W8 W9 W_ W' Xa) aFk).bind fun aFl=>
(OA F F aiK W1 aFl 0 W2 W3 W4 W5 W6 If W7 W8 W9 W_ W' Xa aiL aiM aiN aiO aiP aiQ aiR aiS).bind fun ia=>
Oz F aS ia.1.1 (aA (ia.1.2.2.2.2.2.2.1 + 1)) ia.2.1.1 ia.2.1.2.1 ia.2.1.2.2.1 ia.2.1.2.2.2.1 ia.2.1.2.2.2.2.1 ia.2.1.2.2.2.2.2.1 ia.2.1.2.2.2.2.2.2.1 ia.2.2.1.1 ia.2.2.1.2.1 ia.2.2.1.2.2.1 ia.2.2.1.2.2.2.1 ia.2.2.1.2.2.2.2.1 ia.2.2.2.1.1 ia.2.2.2.1.2.1 ia.2.2.2.1.2.2.1 ia.2.2.2.1.2.2.2.1 ia.2.2.2.1.2.2.2.2.1 ia.2.2.2.1.2.2.2.2.2.1 ia.2.2.2.1.2.2.2.2.2.2.1 ia.2.2.2.2.2.1) (
some ((aiK,(),(),(),(),((),(),()),()),(W2,W3,W4,W5,W6,If,W7,()),(W8,W9,W_,W',Xa,()),(aiL,aiM,aiN,aiO,aiP,aiQ,aiR,()),((),()),aiS,()))
noncomputable def amf (F:Nat):aR aH:=(ame F).gw 15 2 F ⟨[2,3,4,6,8,9,11],[.p (.l 3),.p (.B 0),.p (.B 1),.p (.B 2),.p (.B 3),.f 41 [.B 0,.B 3],.p (.i .i64)],[eJ,jb,eJ,.c 22 [.R 4],.r 3 false],[⟨.nm,[2,3,4,6,8,9],[.p (.l 3),.p (.B 0),.p (.B 1),.p (.B 2),.p (.B 3),.f 41 [.B 0,.B 3]],[eJ,jb,eJ,.c 22 [.R 4],.r 3 false]⟩],fun k d=>Oz F k d.1.1 d.1.2.2.2.2.2.2.1 d.2.1.1 d.2.1.2.1 d.2.1.2.2.1 d.2.1.2.2.2.1 d.2.1.2.2.2.2.1 d.2.1.2.2.2.2.2.1 d.2.1.2.2.2.2.2.2.1 d.2.2.1.1 d.2.2.1.2.1 d.2.2.1.2.2.1 d.2.2.1.2.2.2.1 d.2.2.1.2.2.2.2.1 d.2.2.2.1.1 d.2.2.2.1.2.1 d.2.2.2.1.2.2.1 d.2.2.2.1.2.2.2.1 d.2.2.2.1.2.2.2.2.1 d.2.2.2.1.2.2.2.2.2.1 d.2.2.2.1.2.2.2.2.2.2.1 d.2.2.2.2.2.1⟩ ⟨fun d=>by kernel_rfl,fun k ay az=>by kernel_rfl⟩
def OC (F:Nat):Nat->(List Int)->(Int)->(List Int)->(Int)->(List Int)->(Int)->(Int)->(Int)->(Int)->(List Int)->(Int)->(List ap)->(List Int)->(List (List J.Field))->(List (List (List UInt8)))->(List (List J.Target))->(List Int)->(Int)->(Int)->(Int)->(Int)->(List Int)->(Int)->(List Int)->Option (ajN ×
 ji ×
  yk × ji × (Unit × Unit) × List Int × Unit)
 | 0,_,_,_,_,_,_,_,_,_,_,_,_,_,_,_,_,_,_,_,_,_,_,_,_=>none
 | aS+ 1,aiV,aiW,Xc,Xd,Xf,aiX,aiY,aiZ,ai0,ai1,ai2,ai3,ai4,ai5,ai6,ai7,ai8,ai9,ai_,ai',aja,ajb,ajc,ajd=>
   cond (decide (Xd <(↑Xc.length:Int))) ((idx Xc Xd).bind fun aFq=>
(idx Xf aFq).bind fun aFr=>
(Ey F aFr Xf aiX aiY aiZ ai0 ai1 ai2 ajd).bind fun yg=>
OC F aS aiV aiW Xc (aA (Xd+ 1)) yg.2.1.1 yg.2.1.2.1 yg.2.1.2.2.1 yg.2.1.2.2.2.1 yg.2.1.2.2.2.2.1 yg.2.1.2.2.2.2.2.1 yg.2.1.2.2.2.2.2.2.1 ai3 ai4 ai5 ai6 ai7 ai8 ai9 ai_ ai' aja ajb ajc yg.2.2.2.1) (
some ((aiV,(),(),(),(),((),(),()),aiW,()),(Xf,aiX,aiY,aiZ,ai0,ai1,ai2,()),(ai3,ai4,ai5,ai6,ai7,()),(ai8,ai9,ai_,ai',aja,ajb,ajc,()),((),()),ajd,()))
noncomputable def amg (F:Nat):aR aH:=(amf F).gw 15 8 F ⟨[2,3,4,6,8,9,14,15,16],[.p (.l 3),.p (.B 0),.p (.B 1),.p (.B 2),.p (.B 3),.f 41 [.B 0,.B 3],.p (.i .i64),.p (.l 3),.p (.i .i64)],[eJ,jb,eJ,.c 22 [.R 4],.r 3 false],[⟨.nm,[2,3,4,6,8,9,14],[.p (.l 3),.p (.B 0),.p (.B 1),.p (.B 2),.p (.B 3),.f 41 [.B 0,.B 3],.p (.i .i64)],[eJ,jb,eJ,.c 22 [.R 4],.r 3 false]⟩],fun k d=>OC F k d.1.1 d.1.2.2.2.2.2.2.1 d.1.2.2.2.2.2.2.2.1 d.1.2.2.2.2.2.2.2.2.1 d.2.1.1 d.2.1.2.1 d.2.1.2.2.1 d.2.1.2.2.2.1 d.2.1.2.2.2.2.1 d.2.1.2.2.2.2.2.1 d.2.1.2.2.2.2.2.2.1 d.2.2.1.1 d.2.2.1.2.1 d.2.2.1.2.2.1 d.2.2.1.2.2.2.1 d.2.2.1.2.2.2.2.1 d.2.2.2.1.1 d.2.2.2.1.2.1 d.2.2.2.1.2.2.1 d.2.2.2.1.2.2.2.1 d.2.2.2.1.2.2.2.2.1 d.2.2.2.1.2.2.2.2.2.1 d.2.2.2.1.2.2.2.2.2.2.1 d.2.2.2.2.2.1⟩ ⟨fun d=>by kernel_rfl,fun k ay az=>by kernel_rfl⟩
def OB (F:Nat):Nat->(List Int)->(Int)->(List Int)->(Int)->(Int)->(Int)->(Int)->(List Int)->(Int)->(List ap)->(List Int)->(List (List J.Field))->(List (List (List UInt8)))->(List (List J.Target))->(List Int)->(Int)->(Int)->(Int)->(Int)->(List Int)->(Int)->(List Int)->Option ((List Int × Unit × Unit × Unit × Unit × Unit) ×
 ji ×
  yk × ji × (Unit × Unit) × List Int × Unit)
 | 0,_,_,_,_,_,_,_,_,_,_,_,_,_,_,_,_,_,_,_,_,_,_=>none
 | aS+ 1,ajh,Xi,Xj,Xk,Xl,Xm,Xn,Xo,Xp,Xq,Xr,Xs,Xt,Xu,aji,ajj,ajk,ajl,ajm,ajn,ajo,Nu=>
   cond (decide (Xi <(↑Nu.length:Int))) ((idx Nu Xi).bind fun aFC=>
(na F (aY.mk Xj Xk Xl Xm Xn Xo Xp) (aU.mk Xq Xr Xs Xt Xu) aFC).bind fun aCG=>
(OC F F ajh Xi aCG 0 Xj Xk Xl Xm Xn Xo Xp Xq Xr Xs Xt Xu aji ajj ajk ajl ajm ajn ajo Nu).bind fun h9=>
OB F aS h9.1.1 (aA (h9.1.2.2.2.2.2.2.1 + 1)) h9.2.1.1 h9.2.1.2.1 h9.2.1.2.2.1 h9.2.1.2.2.2.1 h9.2.1.2.2.2.2.1 h9.2.1.2.2.2.2.2.1 h9.2.1.2.2.2.2.2.2.1 h9.2.2.1.1 h9.2.2.1.2.1 h9.2.2.1.2.2.1 h9.2.2.1.2.2.2.1 h9.2.2.1.2.2.2.2.1 h9.2.2.2.1.1 h9.2.2.2.1.2.1 h9.2.2.2.1.2.2.1 h9.2.2.2.1.2.2.2.1 h9.2.2.2.1.2.2.2.2.1 h9.2.2.2.1.2.2.2.2.2.1 h9.2.2.2.1.2.2.2.2.2.2.1 h9.2.2.2.2.2.1) (
some ((ajh,(),(),(),(),()),(Xj,Xk,Xl,Xm,Xn,Xo,Xp,()),(Xq,Xr,Xs,Xt,Xu,()),(aji,ajj,ajk,ajl,ajm,ajn,ajo,()),((),()),Nu,()))
noncomputable def amh (F:Nat):aR aH:=(amg F).gw 15 6 F ⟨[2,3,4,6,8,9,14],[.p (.l 3),.p (.B 0),.p (.B 1),.p (.B 2),.p (.B 3),.f 41 [.B 0,.B 3],.p (.i .i64)],[eJ,jb,eJ,.c 22 [.R 4],.r 3 false],[⟨.nm,[2,3,4,6,8],[.p (.l 3),.p (.B 0),.p (.B 1),.p (.B 2),.p (.B 3)],[eJ,jb,eJ,.c 22 [.R 4],.r 3 false]⟩],fun k d=>OB F k d.1.1 d.1.2.2.2.2.2.2.1 d.2.1.1 d.2.1.2.1 d.2.1.2.2.1 d.2.1.2.2.2.1 d.2.1.2.2.2.2.1 d.2.1.2.2.2.2.2.1 d.2.1.2.2.2.2.2.2.1 d.2.2.1.1 d.2.2.1.2.1 d.2.2.1.2.2.1 d.2.2.1.2.2.2.1 d.2.2.1.2.2.2.2.1 d.2.2.2.1.1 d.2.2.2.1.2.1 d.2.2.2.1.2.2.1 d.2.2.2.1.2.2.2.1 d.2.2.2.1.2.2.2.2.1 d.2.2.2.1.2.2.2.2.2.1 d.2.2.2.1.2.2.2.2.2.2.1 d.2.2.2.2.2.1⟩ ⟨fun d=>by kernel_rfl,fun k ay az=>by kernel_rfl⟩
def Ox (F:Nat) (aCH:List Int) (aCI:Int) (aCJ:Int) (aCK:Int) (aCL:Int) (aCM:List Int) (aCN:Int) (aCO:List ap) (aCP:List Int) (aCQ:List (List J.Field)) (aCR:List (List (List UInt8))) (aCS:List (List J.Target)) (aCT:List Int):Option ((ji × List Int × Unit) × Unit):=
 (Oy F F aCT 0 aCH aCI aCJ aCK aCL aCM aCN aCO aCP aCQ aCR aCS [] 0 0 0 0 [] 0 []).bind fun iF=>
(Oz F F iF.1.1 0 iF.2.1.1 iF.2.1.2.1 iF.2.1.2.2.1 iF.2.1.2.2.2.1 iF.2.1.2.2.2.2.1 iF.2.1.2.2.2.2.2.1
 iF.2.1.2.2.2.2.2.2.1 iF.2.2.1.1 iF.2.2.1.2.1 iF.2.2.1.2.2.1 iF.2.2.1.2.2.2.1 iF.2.2.1.2.2.2.2.1 iF.2.2.2.1.1
 iF.2.2.2.1.2.1 iF.2.2.2.1.2.2.1 iF.2.2.2.1.2.2.2.1 iF.2.2.2.1.2.2.2.2.1 iF.2.2.2.1.2.2.2.2.2.1
 iF.2.2.2.1.2.2.2.2.2.2.1 iF.2.2.2.2.2.1).bind fun iG=>
(OB F F iG.1.1 0 iG.2.1.1 iG.2.1.2.1 iG.2.1.2.2.1 iG.2.1.2.2.2.1 iG.2.1.2.2.2.2.1 iG.2.1.2.2.2.2.2.1
 iG.2.1.2.2.2.2.2.2.1 iG.2.2.1.1 iG.2.2.1.2.1 iG.2.2.1.2.2.1 iG.2.2.1.2.2.2.1 iG.2.2.1.2.2.2.2.1 iG.2.2.2.1.1
 iG.2.2.2.1.2.1 iG.2.2.2.1.2.2.1 iG.2.2.2.1.2.2.2.1 iG.2.2.2.1.2.2.2.2.1 iG.2.2.2.1.2.2.2.2.2.1
 iG.2.2.2.1.2.2.2.2.2.2.1 iG.2.2.2.2.2.1).bind fun lZ=>
(Yi F lZ.2.1.1 lZ.2.1.2.1 lZ.2.1.2.2.1 lZ.2.1.2.2.2.1 lZ.2.1.2.2.2.2.1 lZ.2.1.2.2.2.2.2.1 lZ.2.1.2.2.2.2.2.2.1
 lZ.2.2.1.1 lZ.2.2.1.2.1 lZ.2.2.1.2.2.1 lZ.2.2.1.2.2.2.1 lZ.2.2.1.2.2.2.2.1 lZ.2.2.2.2.2.1 lZ.2.1.2.2.2.2.1 lZ.1.1).bind fun xE=>
some (((xE.1.1.1,xE.1.1.2.1,xE.1.1.2.2.1,xE.1.1.2.2.2.1,xE.1.1.2.2.2.2.1,xE.1.1.2.2.2.2.2.1,xE.1.1.2.2.2.2.2.2.1,()),xE.1.2.1,()),())
noncomputable def ami (F:Nat):aR aH:=(amh F).fn 15 ⟨[GI,TQ,.p (.l 3)],[],[GI,.p (.l 3)],[],fun d=>Ox F d.1.1.1 d.1.1.2.1 d.1.1.2.2.1 d.1.1.2.2.2.1 d.1.1.2.2.2.2.1 d.1.1.2.2.2.2.2.1 d.1.1.2.2.2.2.2.2.1 d.1.2.1.1 d.1.2.1.2.1 d.1.2.1.2.2.1 d.1.2.1.2.2.2.1 d.1.2.1.2.2.2.2.1 d.1.2.2.1⟩ fun ay az=>by kernel_rfl
def anR (F:Nat) (MP:List Int) (HG:Int) (HH:Int) (HI:Int) (HJ:Int) (MQ:List Int) (MR:Int) (MS:List ap) (MT:List Int) (MU:List (List J.Field)) (MV:List (List (List UInt8))) (MW:List (List J.Target)) (MX:List Int):Option ((Bool × Unit) × Unit):=
 (XF F MP HG HH HI HJ MQ MR MS MT MU MV MW MX).bind fun ej=>
(qN F (aY.mk MP HG HH HI HJ MQ MR) (aU.mk MS MT MU MV MW) MX).bind fun AR=>
cond (decide (AR= 0)) (cond (decide (aA (aA (aA (aA (aA (HG+HH)+ 1) - HJ) - HI)+ 1) < 0)) ((yx F (aY.mk ej.1.1.1 ej.1.1.2.1 ej.1.1.2.2.1 ej.1.1.2.2.2.1 ej.1.1.2.2.2.2.1 ej.1.1.2.2.2.2.2.1 ej.1.1.2.2.2.2.2.2.1)
 ej.1.2.2.1 8 (aY.mk [] 0 0 0 0 [] 0)).bind fun aCV=>
cond aCV ((ph F ej.1.2.1 []).bind fun aCW=>
some ((aCW,()),())) (
some ((false,()),()))) (
cond (decide (AR= 0)) ((Ox F MP HG HH HI HJ MQ MR MS MT MU MV MW MX).bind fun xF=>
(yx F (aY.mk ej.1.1.1 ej.1.1.2.1 ej.1.1.2.2.1 ej.1.1.2.2.2.1 ej.1.1.2.2.2.2.1 ej.1.1.2.2.2.2.2.1 ej.1.1.2.2.2.2.2.2.1)
 ej.1.2.2.1 AR
 (aY.mk xF.1.1.1 xF.1.1.2.1 xF.1.1.2.2.1 xF.1.1.2.2.2.1 xF.1.1.2.2.2.2.1 xF.1.1.2.2.2.2.2.1 xF.1.1.2.2.2.2.2.2.1)).bind fun aCX=>
cond aCX ((ph F ej.1.2.1 xF.1.2.1).bind fun aCY=>
some ((aCY,()),())) (
some ((false,()),()))) (
(yx F (aY.mk ej.1.1.1 ej.1.1.2.1 ej.1.1.2.2.1 ej.1.1.2.2.2.1 ej.1.1.2.2.2.2.1 ej.1.1.2.2.2.2.2.1 ej.1.1.2.2.2.2.2.2.1)
 ej.1.2.2.1 AR (aY.mk [] 0 0 0 0 [] 0)).bind fun aCZ=>
cond aCZ ((ph F ej.1.2.1 []).bind fun aC1=>
some ((aC1,()),())) (
some ((false,()),()))))) (
cond (decide (AR= 0)) ((Ox F MP HG HH HI HJ MQ MR MS MT MU MV MW MX).bind fun xG=>
(yx F (aY.mk ej.1.1.1 ej.1.1.2.1 ej.1.1.2.2.1 ej.1.1.2.2.2.1 ej.1.1.2.2.2.2.1 ej.1.1.2.2.2.2.2.1 ej.1.1.2.2.2.2.2.2.1)
 ej.1.2.2.1 AR
 (aY.mk xG.1.1.1 xG.1.1.2.1 xG.1.1.2.2.1 xG.1.1.2.2.2.1 xG.1.1.2.2.2.2.1 xG.1.1.2.2.2.2.2.1 xG.1.1.2.2.2.2.2.2.1)).bind fun aC2=>
cond aC2 ((ph F ej.1.2.1 xG.1.2.1).bind fun aC3=>
some ((aC3,()),())) (
some ((false,()),()))) (
(yx F (aY.mk ej.1.1.1 ej.1.1.2.1 ej.1.1.2.2.1 ej.1.1.2.2.2.1 ej.1.1.2.2.2.2.1 ej.1.1.2.2.2.2.2.1 ej.1.1.2.2.2.2.2.2.1)
 ej.1.2.2.1 AR (aY.mk [] 0 0 0 0 [] 0)).bind fun aC4=>
cond aC4 ((ph F ej.1.2.1 []).bind fun aC5=>
some ((aC5,()),())) (
some ((false,()),()))))
@[reducible] noncomputable def aHb (F:Nat):eg bz:=⟨[GI,TQ,.p (.l 3)],[],[.p (.b)],[],fun d=>anR F d.1.1.1 d.1.1.2.1 d.1.1.2.2.1 d.1.1.2.2.2.1 d.1.1.2.2.2.2.1 d.1.1.2.2.2.2.2.1 d.1.1.2.2.2.2.2.2.1 d.1.2.1.1 d.1.2.1.2.1 d.1.2.1.2.2.1 d.1.2.1.2.2.2.1 d.1.2.1.2.2.2.2.1 d.1.2.2.1⟩
end Go.Proofs.YteeliipnilghaaaGreat
namespace Go.Proofs.YteeliipnilghaaaGreat
open Go Go.RowKit au J bn
set_option maxRecDepth 100000
@[reducible] def aHl:bI:=.c 24 [.l 3,.i .i64,.i .i64,.i .i64,.i .i64,.l 3,.i .i64]
@[reducible] def ayk:cO:=.a [.l 3,.i .i64,.i .i64,.i .i64,.i .i64,.l 3,.i .i64]
@[reducible] def aHm:bI:=.c 30 [.l 134,.l 3,.l 124,.l 120,.l 121]
@[reducible] def ayl:cO:=.a [.l 134,.l 3,.l 124,.l 120,.l 121]
abbrev XC:=(List ap × List Int × List (List J.Field) × List (List (List UInt8)) × List (List J.Target) × Unit)
abbrev XD:=(List Int × Int × Int × Int × Int × List Int × Int × Unit)
def BB (F:Nat) (cv:Int) (et:List Int):Option ((Int × Unit) × (Unit × Unit) × List Int × Unit):=
 cond (decide (cv= 0)) (some ((0,()),((),()),et,())) (
(EB F et cv).bind fun hr=>
cond (decide (hr.1.1 < 0)) ((bK 8 et [cv]).bind fun j1=>
some (((aA (aA ((↑j1.length:Int) - 1)+ 1)),()),((),()),j1,())) (
some (((aA (hr.1.1 + 1)),()),((),()),et,())))
def Ot (F:Nat):Nat->(List Int)->(Int)->(List Int)->(Int)->(Int)->(Int)->(Int)->(List Int)->(Int)->(List ap)->(List Int)->(List (List J.Field))->(List (List (List UInt8)))->(List (List J.Target))->(List Int)->(List Int)->Option ((Unit × Unit × Unit × Unit × (Unit × Unit) × Unit) ×
 XD × XC × (Unit × Unit) × List Int × List Int × Unit)
 | 0,_,_,_,_,_,_,_,_,_,_,_,_,_,_,_,_=>none
 | aS+ 1,DZ,D0,H2,H3,H4,H5,H6,H7,H8,H9,H_,H',Ia,Nm,Nn,aij=>
   cond (decide (D0 <(↑DZ.length:Int))) ((idx DZ D0).bind fun aET=>
(BB F aET Nn).bind fun ail=>
(bK 8 aij [ail.1.1]).bind fun x6=>
Ot F aS DZ (aA (D0+ 1)) H2 H3 H4 H5 H6 H7 H8 H9 H_ H' Ia Nm ail.2.2.1 x6) (
some (((),(),(),(),((),()),()),(H2,H3,H4,H5,H6,H7,H8,()),(H9,H_,H',Ia,Nm,()),((),()),Nn,aij,()))
def IY (F:Nat):Nat->(Int)->(Int)->(Int)->(List Int)->(Int)->(Int)->(Int)->(Int)->(List Int)->(Int)->(List ap)->(List Int)->(List (List J.Field))->(List (List (List UInt8)))->(List (List J.Target))->(List Int)->(List Int)->Option ((Unit × Unit × Unit × Unit × (Unit × Unit) × Int × Unit) ×
 XD × XC × (Unit × Unit) × List Int × List Int × Unit)
 | 0,_,_,_,_,_,_,_,_,_,_,_,_,_,_,_,_,_=>none
 | aS+ 1,uN,qz,qA,qB,xN,xO,xP,xQ,xR,xS,iJ,sb,sc,sd,o0,uP,uQ=>
   (idx qB (aA (qz+ 1))).bind fun A0=>
cond (decide (qA <A0)) ((idx qB (aA (aA (qz+ 3)+qA))).bind fun A1=>
(idx qB qz).bind fun DQ=>
(sG (aU.mk iJ sb sc sd o0) DQ qA).bind fun uR=>
cond uR ((BB F A1 uP).bind fun sf=>
(bK 8 uQ [sf.1.1]).bind fun uS=>
IY F aS uN qz (aA (qA+ 1)) qB xN xO xP xQ xR xS iJ sb sc sd o0 sf.2.2.1 uS) (
(bK 8 uQ [A1]).bind fun sg=>
IY F aS uN qz (aA (qA+ 1)) qB xN xO xP xQ xR xS iJ sb sc sd o0 uP sg)) (
some (((),(),(),(),((),()),uN,()),(qB,xN,xO,xP,xQ,xR,xS,()),(iJ,sb,sc,sd,o0,()),((),()),uP,uQ,()))
def BC (F:Nat):Nat->(Int)->(List Int)->(Int)->(Int)->(Int)->(Int)->(List Int)->(Int)->(List ap)->(List Int)->(List (List J.Field))->(List (List (List UInt8)))->(List (List J.Target))->(List Int)->(List Int)->Option ((Unit × Unit) × XD × XC × (Unit × Unit) × List Int × List Int × Unit)
 | 0,_,_,_,_,_,_,_,_,_,_,_,_,_,_,_=>none
 | aS+ 1,xV,sj,A3,A4,A5,xW,A6,A7,A8,xX,A9,A_,A',uV,hS=>
   cond (decide (xV <(↑uV.length:Int))) ((idx uV xV).bind fun h_=>
(idx sj h_).bind fun l2=>
(idx sj (aA (h_+ 1))).bind fun HU=>
(idx sj (aA (h_+ 2))).bind fun uW=>
(bK 8 hS [l2,HU,uW]).bind fun l3=>
(IY F F xV h_ 0 sj A3 A4 A5 xW A6 A7 A8 xX A9 A_ A' uV l3).bind fun dG=>
BC F aS (aA (dG.1.2.2.2.2.2.1 + 1)) dG.2.1.1 dG.2.1.2.1 dG.2.1.2.2.1 dG.2.1.2.2.2.1 dG.2.1.2.2.2.2.1 dG.2.1.2.2.2.2.2.1 dG.2.1.2.2.2.2.2.2.1 dG.2.2.1.1 dG.2.2.1.2.1 dG.2.2.1.2.2.1 dG.2.2.1.2.2.2.1 dG.2.2.1.2.2.2.2.1 dG.2.2.2.2.1 dG.2.2.2.2.2.1) (
some (((),()),(sj,A3,A4,A5,xW,A6,A7,()),(A8,xX,A9,A_,A',()),((),()),uV,hS,()))
def BA (F:Nat) (j0:List Int) (l4:Int) (l5:Int) (o2:Int) (o3:Int) (DT:List Int) (DU:Int) (HV:List ap) (HW:List Int) (DV:List (List J.Field)) (o4:List (List (List UInt8))) (ed:List (List J.Target)) (sk:List Int):Option ((List Int × Unit) × Unit):=
 (Ot F F sk 0 j0 l4 l5 o2 o3 DT DU HV HW DV o4 ed [] []).bind fun hs=>
(BC F F 0 hs.2.1.1 hs.2.1.2.1 hs.2.1.2.2.1 hs.2.1.2.2.2.1 hs.2.1.2.2.2.2.1 hs.2.1.2.2.2.2.2.1 hs.2.1.2.2.2.2.2.2.1 hs.2.2.1.1
 hs.2.2.1.2.1 hs.2.2.1.2.2.1 hs.2.2.1.2.2.2.1 hs.2.2.1.2.2.2.2.1 hs.2.2.2.2.1 hs.2.2.2.2.2.1).bind fun Ba=>
some ((Ba.2.2.2.2.2.1,()),())
def Oq (F:Nat) (DW:List Int) (o5:Int) (qC:Int) (DX:Int) (HX:Int) (o6:List Int) (qD:Int) (uX:List ap) (xY:List Int) (kB:List (List J.Field)) (lf:List (List (List UInt8))) (qE:List (List J.Target)) (xZ:List Int) (lg:List Int) (m3:Int) (x0:Int) (x1:Int) (x2:Int) (x3:List Int) (Bb:Int) (Bc:List Int):Option ((Bool × Unit) × Unit):=
 (n_ F (aY.mk lg m3 x0 x1 x2 x3 Bb) (aU.mk uX xY kB lf qE)).bind fun HY=>
cond (decide (HY= 0)) ((vn F (aY.mk lg m3 x0 x1 x2 x3 Bb) (aU.mk uX xY kB lf qE) Bc).bind fun DY=>
cond (decide (DY= 0) && decide ((↑xZ.length:Int)=(↑Bc.length:Int))) ((BA F DW o5 qC DX HX o6 qD uX xY kB lf qE xZ).bind fun HZ=>
(BA F lg m3 x0 x1 x2 x3 Bb uX xY kB lf qE Bc).bind fun WE=>
(ph F HZ.1.1 WE.1.1).bind fun aDY=>
some ((aDY,()),())) (
some ((false,()),()))) (
some ((false,()),()))
def anS (F:Nat) (ag':List Int) (aha:Int) (ahb:Int) (ahc:Int) (ahd:Int) (ahe:List Int) (WG:Int) (ahf:List ap) (ahg:List Int) (ahh:List (List J.Field)) (ahi:List (List (List UInt8))) (H0:List (List J.Target)) (Bd:List Int):Option ((Bool × Unit) × Unit):=
 (XF F ag' aha ahb ahc ahd ahe WG ahf ahg ahh ahi H0 Bd).bind fun j2=>
cond (!decide (j2.1.2.2.1 = 0)) (some (((decide ((↑(List.length j2.1.2.1):Int)= 0)),()),())) (
(Oq F ag' aha ahb ahc ahd ahe WG ahf ahg ahh ahi H0 Bd j2.1.1.1 j2.1.1.2.1 j2.1.1.2.2.1 j2.1.1.2.2.2.1 j2.1.1.2.2.2.2.1 j2.1.1.2.2.2.2.2.1
 j2.1.1.2.2.2.2.2.2.1 j2.1.2.1).bind fun Nh=>
some (((Nh.1.1 && decide (j2.1.1.2.2.2.1 = 1) && decide ((↑(List.length j2.1.1.2.2.2.2.2.1):Int)= 0) && decide (j2.1.1.2.2.2.2.2.2.1 =WG)),()),()))
@[reducible] noncomputable def aHc (F:Nat):eg bz:=⟨[ayk,ayl,.p (.l 3)],[],[.p (.b)],[],fun d=>anS F d.1.1.1 d.1.1.2.1 d.1.1.2.2.1 d.1.1.2.2.2.1 d.1.1.2.2.2.2.1 d.1.1.2.2.2.2.2.1 d.1.1.2.2.2.2.2.2.1 d.1.2.1.1 d.1.2.1.2.1 d.1.2.1.2.2.1 d.1.2.1.2.2.2.1 d.1.2.1.2.2.2.2.1 d.1.2.2.1⟩
end Go.Proofs.YteeliipnilghaaaGreat
namespace Go.Proofs.YteeliipnilghaaaGreat
open Go Go.RowKit au J bn
set_option maxRecDepth 100000
@[reducible] def Da:bI:=.c 24 [.l 3,.i .i64,.i .i64,.i .i64,.i .i64,.l 3,.i .i64]
@[reducible] def TR:cO:=.a [.l 3,.i .i64,.i .i64,.i .i64,.i .i64,.l 3,.i .i64]
@[reducible] def Db:bI:=.c 30 [.l 134,.l 3,.l 124,.l 120,.l 121]
@[reducible] def aei:cO:=.a [.l 134,.l 3,.l 124,.l 120,.l 121]
noncomputable def amj (F:Nat):aR aH:=(ami F).fn 88 ⟨[.p (.i .i64),.p (.B 0)],[.c 22 [.R 1],.r 3 false],[.p (.i .i64)],[.c 22 [.R 1],.r 3 false],fun d=>BB F d.1.1 d.2.2.1⟩ fun ay az=>by kernel_rfl
noncomputable def amk (F:Nat):aR aH:=(amj F).gw 52 0 F ⟨[2,3,4,7,8,9,10],[.p (.l 3),.p (.B 0),.p (.B 1),.p (.B 2),.p (.R 4),.f 88 [.B 2],.p (.i .i64)],[Da,Db,.c 22 [.R 3],.r 3 false,.r 3 false],[⟨.nm,[3,4,7,8,9],[.p (.B 0),.p (.B 1),.p (.B 2),.p (.R 4),.f 88 [.B 2]],[Da,Db,.c 22 [.R 3],.r 3 false,.r 3 false]⟩],fun k d=>Ot F k d.1.1 d.1.2.2.2.2.2.2.1 d.2.1.1 d.2.1.2.1 d.2.1.2.2.1 d.2.1.2.2.2.1 d.2.1.2.2.2.2.1 d.2.1.2.2.2.2.2.1 d.2.1.2.2.2.2.2.2.1 d.2.2.1.1 d.2.2.1.2.1 d.2.2.1.2.2.1 d.2.2.1.2.2.2.1 d.2.2.1.2.2.2.2.1 d.2.2.2.2.1 d.2.2.2.2.2.1⟩ ⟨fun d=>by kernel_rfl,fun k ay az=>by kernel_rfl⟩
noncomputable def aml (F:Nat):aR aH:=(amk F).gw 52 4 F ⟨[3,4,7,8,9,11,12,13],[.p (.B 0),.p (.B 1),.p (.B 2),.p (.R 4),.f 88 [.B 2],.p (.i .i64),.p (.i .i64),.p (.i .i64)],[Da,Db,.c 22 [.R 3],.r 3 false,.r 3 false],[⟨.nm,[3,4,7,8,9,11],[.p (.B 0),.p (.B 1),.p (.B 2),.p (.R 4),.f 88 [.B 2],.p (.i .i64)],[Da,Db,.c 22 [.R 3],.r 3 false,.r 3 false]⟩],fun k d=>IY F k d.1.2.2.2.2.2.1 d.1.2.2.2.2.2.2.1 d.1.2.2.2.2.2.2.2.1 d.2.1.1 d.2.1.2.1 d.2.1.2.2.1 d.2.1.2.2.2.1 d.2.1.2.2.2.2.1 d.2.1.2.2.2.2.2.1 d.2.1.2.2.2.2.2.2.1 d.2.2.1.1 d.2.2.1.2.1 d.2.2.1.2.2.1 d.2.2.1.2.2.2.1 d.2.2.1.2.2.2.2.1 d.2.2.2.2.1 d.2.2.2.2.2.1⟩ ⟨fun d=>by kernel_rfl,fun k ay az=>by kernel_rfl⟩
noncomputable def amm (F:Nat):aR aH:=(aml F).gw 52 2 F ⟨[3,4,7,8,9,11],[.p (.B 0),.p (.B 1),.p (.B 2),.p (.R 4),.f 88 [.B 2],.p (.i .i64)],[Da,Db,.c 22 [.R 3],.r 3 false,.r 3 false],[⟨.nm,[8],[.p (.R 4)],[Da,Db,.c 22 [.R 3],.r 3 false,.r 3 false]⟩],fun k d=>BC F k d.1.2.2.2.2.2.1 d.2.1.1 d.2.1.2.1 d.2.1.2.2.1 d.2.1.2.2.2.1 d.2.1.2.2.2.2.1 d.2.1.2.2.2.2.2.1 d.2.1.2.2.2.2.2.2.1 d.2.2.1.1 d.2.2.1.2.1 d.2.2.1.2.2.1 d.2.2.1.2.2.2.1 d.2.2.1.2.2.2.2.1 d.2.2.2.2.1 d.2.2.2.2.2.1⟩ ⟨fun d=>by kernel_rfl,fun k ay az=>by kernel_rfl⟩
noncomputable def amn (F:Nat):aR aH:=(amm F).fn 52 ⟨[TR,aei,.p (.l 3)],[],[.p (.l 3)],[],fun d=>BA F d.1.1.1 d.1.1.2.1 d.1.1.2.2.1 d.1.1.2.2.2.1 d.1.1.2.2.2.2.1 d.1.1.2.2.2.2.2.1 d.1.1.2.2.2.2.2.2.1 d.1.2.1.1 d.1.2.1.2.1 d.1.2.1.2.2.1 d.1.2.1.2.2.2.1 d.1.2.1.2.2.2.2.1 d.1.2.2.1⟩ fun ay az=>by kernel_rfl
noncomputable def amp (F:Nat):aR aH:=(amn F).fn 21 ⟨[TR,aei,.p (.l 3),TR,.p (.l 3)],[],[.p (.b)],[],fun d=>Oq F d.1.1.1 d.1.1.2.1 d.1.1.2.2.1 d.1.1.2.2.2.1 d.1.1.2.2.2.2.1 d.1.1.2.2.2.2.2.1 d.1.1.2.2.2.2.2.2.1 d.1.2.1.1 d.1.2.1.2.1 d.1.2.1.2.2.1 d.1.2.1.2.2.2.1 d.1.2.1.2.2.2.2.1 d.1.2.2.1 d.1.2.2.2.1.1 d.1.2.2.2.1.2.1 d.1.2.2.2.1.2.2.1 d.1.2.2.2.1.2.2.2.1 d.1.2.2.2.1.2.2.2.2.1 d.1.2.2.2.1.2.2.2.2.2.1 d.1.2.2.2.1.2.2.2.2.2.2.1 d.1.2.2.2.2.1⟩ fun ay az=>by kernel_rfl
end Go.Proofs.YteeliipnilghaaaGreat
