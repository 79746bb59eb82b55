/- Part 5 of the proof that is ended in the last text: small logic, what the functions compute, walks, plain laws. -/
import Derived.Test.YteeliipnilghaaaGreatZc4
namespace Go.Proofs.YteeliipnilghaaaGreat
open Go Go.RowKit av J bz
set_option maxRecDepth 100000
@[reducible] def Cc {α:Type} (x:List UInt8 × List UInt8 × List J.Field × List J.Method × α):J.al:=⟨x.1,x.2.1,x.2.2.1,x.2.2.2.1⟩
@[reducible] def dF {α:Type} (x:List Int × Int × Int × Int × Int × List Int × Int × α):J.aV:=⟨x.1,x.2.1,x.2.2.1,x.2.2.2.1,x.2.2.2.2.1,x.2.2.2.2.2.1,x.2.2.2.2.2.2.1⟩
@[reducible] def FN {α:Type} (x:Int × List UInt8 × α):J.Kind:=⟨x.1,x.2.1⟩
@[reducible] def eQ {α:Type} (x:List J.al × List Int × List (List J.Field) × List (List (List UInt8)) × List (List J.Target) × α):J.aP:=⟨x.1,x.2.1,x.2.2.1,x.2.2.2.1,x.2.2.2.2.1⟩
@[reducible] def rz {α:Type} (x:List UInt8 × Bool × List J.Kind × Int × List UInt8 × Int × Int × List UInt8 × List J.Handler × α):J.Method:=⟨x.1,x.2.1,x.2.2.1,⟨x.2.2.2.1,x.2.2.2.2.1⟩,x.2.2.2.2.2.1,x.2.2.2.2.2.2.1,x.2.2.2.2.2.2.2.1,x.2.2.2.2.2.2.2.2.1⟩
@[reducible] def gw {α:Type} (x:List J.al × List Int × List (List J.Field) × List (List (List UInt8)) × List (List J.Target) × α):J.cb:=⟨⟨x.1,x.2.1,x.2.2.1,x.2.2.2.1,x.2.2.2.2.1⟩⟩
@[reducible] def fg:bK:=.c 72 [.l 3,.i .i64,.i .i64,.i .i64,.i .i64,.l 3,.i .i64,.l 134,.l 3,.l 124,.l 120,.l 121,.l 3,.l 3,.M 1]
@[reducible] def hC:bK:=.c 72 [.l 3,.i .i64,.i .i64,.i .i64,.i .i64,.l 3,.i .i64,.l 134,.l 3,.l 124,.l 120,.l 121,.l 3,.l 3,.M 2]
@[reducible] def kF:bK:=.c 131 [.s,.b,.l 128,.i .i64,.s,.i .i64,.i .i64,.s,.l 157]
@[reducible] def aaK:bK:=.c 24 [.R 1,.i .i64,.i .i64,.i .i64,.i .i64,.l 3,.i .i64]
@[reducible] def h2:bK:=.c 24 [.l 3,.i .i64,.i .i64,.i .i64,.i .i64,.l 3,.i .i64]
@[reducible] def JB:dp:=.a [.s,.b,.l 128,.i .i64,.s,.i .i64,.i .i64,.s,.l 157]
@[reducible] def io:dp:=.a [.l 3,.i .i64,.i .i64,.i .i64,.i .i64,.l 3,.i .i64]
@[reducible] def dE:bK:=.c 30 [.l 134,.l 3,.l 124,.l 120,.l 121]
@[reducible] def gX:dp:=.a [.l 134,.l 3,.l 124,.l 120,.l 121]
@[reducible] def aaL:bK:=.c 30 [.l 134,.l 3,.R 4,.R 5,.R 6]
@[reducible] def aaH:bK:=.c 30 [.l 134,.R 2,.R 3,.R 4,.R 5]
@[reducible] def hD:bK:=.c 134 [.s,.s,.l 136,.l 131]
@[reducible] def aaI:bK:=.c 134 [.s,.s,.R 2,.R 3]
@[reducible] def jI:bK:=.c 117 [.l 134,.M 1,.R 2]
@[reducible] def eh:bK:=.c 117 [.l 134,.M 1,.l 3]
@[reducible] def aaJ:bK:=.c 117 [.l 134,.M 2,.l 3]
noncomputable def akG (F:Nat):aT aR:=⟨GF F,fun _=>alg F,rfl⟩
noncomputable def NQ (k:Nat) (od:List UInt8) (vK:Int) (e2:Int):=c0 ((od.length:Int)=e2/\True) (a9 (yL od k vK))
theorem RF (k:Nat) (od:List UInt8) (vK:Int):a9 (yL od k vK)=NQ k od vK (od.length:Int):=(dt ⟨rfl,trivial⟩).symm
noncomputable def ag4 (F:Nat):aT aR:=(akG F).bT 140 0 F ⟨[0,6,7,8],[.p (.s),.p (.l 5),.p (.i .i64),.p (.i .i64)],[],
 [⟨⟨.nm,[0],[.p (.s)],[]⟩,Unit,fun d r=>((d.1.1,()),())⟩,
  ⟨⟨.rt,[2],[.p (.b)],[]⟩,Bool,fun d r=>((r,()),())⟩],
 fun k d=>NQ k d.1.2.1 d.1.2.2.2.1 d.1.2.2.1⟩ (bI.bS (fun d=>dr) fun k ax aB q h=>by
 obtain ⟨(aY:List UInt8),(v1:List UInt8),(v2:Int),(bq:Int),_⟩:=ax
 obtain ⟨aw,_⟩:=dT h
 dsimp only at aw
 obtain ⟨rfl,_⟩:=aw
 conv=>rhs;change Option.map (α:=Unit ⊕ Bool) _ (NQ (k+ 1) v1 bq (v1.length:Int));rw [<-RF (k+ 1) v1 bq];simp only [yL,a6,RF];simp only [bM]
 kernel_rfl)
noncomputable def UY (F:Nat):aT aR:=(ag4 F).rt 140 ⟨[.p (.s)],[],[.p (.b)],[],Bool,fun d=>mc F d.1.1,fun d r=>((r,()),())⟩ fun ax aB=>by
 obtain ⟨(aY:List UInt8),_⟩:=ax
 conv=>rhs;simp only [mc,a6,RF]
 kernel_rfl
noncomputable def ajt (F:Nat):aT aR:=(UY F).rt 162 ⟨[.p (.i .i64)],[],[.p (.b)],[],Bool,fun d=>Iz d.1.1,fun d r=>((r,()),())⟩ fun ax aB=>by
 conv=>rhs;simp only [Iz,a6]
 kernel_rfl
noncomputable def ajE (F:Nat):aT aR:=(ajt F).rt 141 ⟨[.a [.i .i64,.s]],[],[.p (.b)],[],Bool,fun d=>sK F (FN d.1.1),fun d r=>((r,()),())⟩ fun ax aB=>by
 conv=>rhs;simp only [sK,a6]
 kernel_rfl
noncomputable def ajP (F:Nat):aT aR:=(ajE F).rt 163 ⟨[.p (.i .i64),.p (.i .i64),.p (.i .i64)],[],[.p (.b)],[],Bool,fun d=>k8 d.1.1 d.1.2.1 d.1.2.2.1,fun d r=>((r,()),())⟩ fun ax aB=>by
 conv=>rhs;simp only [k8,a6]
 kernel_rfl
noncomputable def NR (F:Nat) (k:Nat) (m_:J.Method) (vR:Int) (e1:Int) (e5:List J.Kind):=c0 ((m_.cr.length:Int)=e1/\(m_.cr:List J.Kind)=e5/\True) (a9 (vj F m_ k vR))
theorem RG (F:Nat) (k:Nat) (m_:J.Method) (vR:Int):a9 (vj F m_ k vR)=NR F k m_ vR (m_.cr.length:Int) m_.cr:=(dt ⟨rfl,rfl,trivial⟩).symm
noncomputable def aj0 (F:Nat):aT aR:=(ajP F).bT 142 1 F ⟨[1,41,42,43],[.p (.B 0),.p (.l 128),.p (.i .i64),.p (.i .i64)],[kF],
 [⟨⟨.nm,[1],[.p (.B 0)],[kF]⟩,Unit,fun d r=>(((),()),(d.2.1,()))⟩,
  ⟨⟨.rt,[2],[.p (.i .i64)],[.d]⟩,Int,fun d r=>((r,()),((),()))⟩],
 fun k d=>NR F k (⟨d.2.1.1,d.2.1.2.1,d.1.2.1,(FN d.2.1.2.2.2),d.2.1.2.2.2.2.2.1,d.2.1.2.2.2.2.2.2.1,d.2.1.2.2.2.2.2.2.2.1,d.2.1.2.2.2.2.2.2.2.2.1⟩:J.Method) d.1.2.2.2.1 d.1.2.2.1 d.2.1.2.2.1⟩ (bI.bS (fun d=>dr) fun k ax aB q h=>by
 obtain ⟨_,(aY:List J.Kind),(v1:Int),(v2:Int),_⟩:=ax
 obtain ⟨⟨(bq:List UInt8),(v4:Bool),(bW:List J.Kind),(v6:Int),(cm:List UInt8),(cv:Int),(cB:Int),(v10:List UInt8),(v11:List J.Handler),_⟩,_⟩:=aB
 obtain ⟨aw,_⟩:=dT h
 dsimp only at aw
 obtain ⟨rfl,rfl,_⟩:=aw
 conv=>rhs;change Option.map (α:=Unit ⊕ Int) _ (NR F (k+ 1) (⟨bq,v4,aY,(⟨v6,cm⟩:J.Kind),cv,cB,v10,v11⟩:J.Method) v2 (aY.length:Int) (aY));rw [<-RG F (k+ 1) (⟨bq,v4,aY,(⟨v6,cm⟩:J.Kind),cv,cB,v10,v11⟩:J.Method) v2];simp only [vj,a6,RG];simp only [bM]
 kernel_rfl)
noncomputable def HU (F:Nat) (k:Nat) (m_:J.Method) (kA:Int) (e1:Int):=c0 ((m_.cw.length:Int)=e1/\True) (a9 (pA F m_ k kA))
theorem JT (F:Nat) (k:Nat) (m_:J.Method) (kA:Int):a9 (pA F m_ k kA)=HU F k (⟨[],false,[],(⟨0,[]⟩:J.Kind),0,0,[],m_.cw⟩:J.Method) kA (m_.cw.length:Int):=(show a9 (pA F m_ k kA)=a9 (pA F (⟨[],false,[],(⟨0,[]⟩:J.Kind),0,0,[],m_.cw⟩:J.Method) k kA) by kernel_rfl).trans (dt ⟨rfl,trivial⟩).symm
theorem auO (F:Nat) (k:Nat) (m_:J.Method) (kA:Int):a9 (yP F m_ k kA)=HU F k (⟨[],false,[],(⟨0,[]⟩:J.Kind),0,0,[],m_.cw⟩:J.Method) kA (m_.cw.length:Int):=(show a9 (yP F m_ k kA)=a9 (pA F m_ k kA) by kernel_rfl).trans (JT F k m_ kA)
noncomputable def aj' (F:Nat):aT aR:=(aj0 F).bT 142 3 F ⟨[62,63,64],[.p (.l 157),.p (.i .i64),.p (.i .i64)],[],
 [⟨⟨.nm,[],[],[]⟩,Unit,fun d r=>((),())⟩,
  ⟨⟨.rt,[2],[.p (.i .i64)],[]⟩,Int,fun d r=>((r,()),())⟩],
 fun k d=>HU F k (⟨[],false,[],(⟨0,[]⟩:J.Kind),0,0,[],d.1.1⟩:J.Method) d.1.2.2.1 d.1.2.1⟩ (bI.bS (fun d=>dr) fun k ax aB q h=>by
 obtain ⟨(aY:List J.Handler),(v1:Int),(v2:Int),_⟩:=ax
 obtain ⟨aw,_⟩:=dT h
 dsimp only at aw
 obtain ⟨rfl,_⟩:=aw
 conv=>rhs;change Option.map (α:=Unit ⊕ Int) _ (HU F (k+ 1) (⟨[],false,[],(⟨0,[]⟩:J.Kind),0,0,[],aY⟩:J.Method) v2 (aY.length:Int));rw [<-JT F (k+ 1) (⟨[],false,[],(⟨0,[]⟩:J.Kind),0,0,[],aY⟩:J.Method) v2];simp only [pA,a6,JT];simp only [bM]
 kernel_rfl)
noncomputable def akk (F:Nat):aT aR:=(aj' F).rt 142 ⟨[JB],[],[.p (.i .i64)],[],Int,fun d=>yO F (rz d.1.1),fun d r=>((r,()),())⟩ fun ax aB=>by
 obtain ⟨⟨(aY:List UInt8),(v1:Bool),(v2:List J.Kind),(bq:Int),(v4:List UInt8),(bW:Int),(v6:Int),(cm:List UInt8),(cv:List J.Handler),_⟩,_⟩:=ax
 conv=>rhs;simp only [yO,a6,RG,JT,auO]
 kernel_rfl
noncomputable def HS (F:Nat) (k:Nat) (c_:J.al) (mm:Int) (e1:Int) (e5:List J.Field):=c0 ((c_.Fields.length:Int)=e1/\(c_.Fields:List J.Field)=e5/\True) (a9 (sJ F c_ k mm))
theorem JR (F:Nat) (k:Nat) (c_:J.al) (mm:Int):a9 (sJ F c_ k mm)=HS F k c_ mm (c_.Fields.length:Int) c_.Fields:=(dt ⟨rfl,rfl,trivial⟩).symm
theorem auM (F:Nat) (k:Nat) (c_:J.al) (mm:Int):a9 (yM F c_ k mm)=HS F k c_ mm (c_.Fields.length:Int) c_.Fields:=(show a9 (yM F c_ k mm)=a9 (sJ F c_ k mm) by kernel_rfl).trans (JR F k c_ mm)
noncomputable def akv (F:Nat):aT aR:=(akk F).bT 107 1 F ⟨[1,36,37,38],[.p (.B 0),.p (.l 136),.p (.i .i64),.p (.i .i64)],[hD],
 [⟨⟨.nm,[1],[.p (.B 0)],[hD]⟩,Unit,fun d r=>(((),()),(d.2.1,()))⟩,
  ⟨⟨.rt,[2],[.p (.i .i64)],[.d]⟩,Int,fun d r=>((r,()),((),()))⟩],
 fun k d=>HS F k (⟨d.2.1.1,d.2.1.2.1,d.1.2.1,d.2.1.2.2.2.1⟩:J.al) d.1.2.2.2.1 d.1.2.2.1 d.2.1.2.2.1⟩ (bI.bS (fun d=>dr) fun k ax aB q h=>by
 obtain ⟨_,(aY:List J.Field),(v1:Int),(v2:Int),_⟩:=ax
 obtain ⟨⟨(bq:List UInt8),(v4:List UInt8),(bW:List J.Field),(v6:List J.Method),_⟩,_⟩:=aB
 obtain ⟨aw,_⟩:=dT h
 dsimp only at aw
 obtain ⟨rfl,rfl,_⟩:=aw
 conv=>rhs;change Option.map (α:=Unit ⊕ Int) _ (HS F (k+ 1) (⟨bq,v4,aY,v6⟩:J.al) v2 (aY.length:Int) (aY));rw [<-JR F (k+ 1) (⟨bq,v4,aY,v6⟩:J.al) v2];simp only [sJ,a6,JR];simp only [bM]
 kernel_rfl)
noncomputable def HT (F:Nat) (k:Nat) (c_:J.al) (kB:Int) (e1:Int):=c0 ((c_.bb.length:Int)=e1/\True) (a9 (pz F c_ k kB))
theorem JS (F:Nat) (k:Nat) (c_:J.al) (kB:Int):a9 (pz F c_ k kB)=HT F k (⟨[],[],[],c_.bb⟩:J.al) kB (c_.bb.length:Int):=(show a9 (pz F c_ k kB)=a9 (pz F (⟨[],[],[],c_.bb⟩:J.al) k kB) by kernel_rfl).trans (dt ⟨rfl,trivial⟩).symm
theorem auN (F:Nat) (k:Nat) (c_:J.al) (kB:Int):a9 (yN F c_ k kB)=HT F k (⟨[],[],[],c_.bb⟩:J.al) kB (c_.bb.length:Int):=(show a9 (yN F c_ k kB)=a9 (pz F c_ k kB) by kernel_rfl).trans (JS F k c_ kB)
noncomputable def ag5 (F:Nat):aT aR:=(akv F).bT 107 4 F ⟨[54,55,56],[.p (.l 131),.p (.i .i64),.p (.i .i64)],[],
 [⟨⟨.nm,[],[],[]⟩,Unit,fun d r=>((),())⟩,
  ⟨⟨.rt,[2],[.p (.i .i64)],[]⟩,Int,fun d r=>((r,()),())⟩],
 fun k d=>HT F k (⟨[],[],[],d.1.1⟩:J.al) d.1.2.2.1 d.1.2.1⟩ (bI.bS (fun d=>dr) fun k ax aB q h=>by
 obtain ⟨(aY:List J.Method),(v1:Int),(v2:Int),_⟩:=ax
 obtain ⟨aw,_⟩:=dT h
 dsimp only at aw
 obtain ⟨rfl,_⟩:=aw
 conv=>rhs;change Option.map (α:=Unit ⊕ Int) _ (HT F (k+ 1) (⟨[],[],[],aY⟩:J.al) v2 (aY.length:Int));rw [<-JS F (k+ 1) (⟨[],[],[],aY⟩:J.al) v2];simp only [pz,a6,JS];simp only [bM]
 kernel_rfl)
noncomputable def ahe (F:Nat):aT aR:=(ag5 F).rt 107 ⟨[.a [.s,.s,.l 136,.l 131]],[],[.p (.i .i64)],[],Int,fun d=>Er F (Cc d.1.1),fun d r=>((r,()),())⟩ fun ax aB=>by
 obtain ⟨⟨(aY:List UInt8),(v1:List UInt8),(v2:List J.Field),(bq:List J.Method),_⟩,_⟩:=ax
 conv=>rhs;simp only [Er,a6,JR,auM,JS,auN]
 kernel_rfl
noncomputable def NP (F:Nat) (k:Nat) (a8:List J.al) (vU:Int) (e1:Int):=c0 ((a8.length:Int)=e1/\True) (a9 (vi F a8 k vU))
theorem RE (F:Nat) (k:Nat) (a8:List J.al) (vU:Int):a9 (vi F a8 k vU)=NP F k a8 vU (a8.length:Int):=(dt ⟨rfl,trivial⟩).symm
noncomputable def ahp (F:Nat):aT aR:=(ahe F).bT 74 0 F ⟨[9,10,11],[.p (.l 134),.p (.i .i64),.p (.i .i64)],[],
 [⟨⟨.nm,[],[],[]⟩,Unit,fun d r=>((),())⟩,
  ⟨⟨.rt,[2],[.p (.i .i64)],[]⟩,Int,fun d r=>((r,()),())⟩],
 fun k d=>NP F k d.1.1 d.1.2.2.1 d.1.2.1⟩ (bI.bS (fun d=>dr) fun k ax aB q h=>by
 obtain ⟨(aY:List J.al),(v1:Int),(v2:Int),_⟩:=ax
 obtain ⟨aw,_⟩:=dT h
 dsimp only at aw
 obtain ⟨rfl,_⟩:=aw
 conv=>rhs;change Option.map (α:=Unit ⊕ Int) _ (NP F (k+ 1) aY v2 (aY.length:Int));rw [<-RE F (k+ 1) aY v2];simp only [vi,a6,RE];simp only [bM]
 kernel_rfl)
noncomputable def ahA (F:Nat):aT aR:=(ahp F).rt 74 ⟨[.p (.l 134)],[],[.p (.i .i64)],[],Int,fun d=>Ep F d.1.1,fun d r=>((r,()),())⟩ fun ax aB=>by
 obtain ⟨(aY:List J.al),_⟩:=ax
 conv=>rhs;simp only [Ep,a6,RE]
 kernel_rfl
noncomputable def ahL (F:Nat):aT aR:=(ahA F).bT 75 2 F ⟨[3,5,8,9,10,23,24,25],[.p (.R 0),.p (.B 1),.p (.l 134),.p (.i .i64),.p (.i .i64),.p (.R 3),.p (.i .i64),.p (.i .i64)],[.r 134 false,aaI,.r 136 true,.r 131 true],
 [⟨⟨.nm,[3,5,8,9,10],[.p (.R 0),.p (.B 1),.p (.l 134),.p (.i .i64),.p (.i .i64)],[.r 134 false,aaI,.r 136 true,.r 131 true]⟩,List J.Method,fun d r=>(((),(),d.1.2.2.1,d.1.2.2.2.1,d.1.2.2.2.2.1,()),(d.2.1,(d.2.2.1.1,d.2.2.1.2.1,(),(),()),d.2.2.2.1,r,()))⟩],
 fun k d=>q3 k d.2.2.2.2.1 d.1.2.2.2.2.2.2.1 d.1.2.2.2.2.2.2.2.1⟩ (bI.bS (fun d=>rfl) fun k ax aB q h=>by
 obtain ⟨_,_,(aY:List J.al),(v1:Int),(v2:Int),_,(bq:Int),(v4:Int),_⟩:=ax
 obtain ⟨(bW:List J.al),⟨(v6:List UInt8),(cm:List UInt8),_,_,_⟩,(cv:List J.Field),(cB:List J.Method),_⟩:=aB
 conv=>rhs;simp only [q3,a6,S2,S3];simp only [bM]
 kernel_rfl)
noncomputable def Ob (F:Nat) (k:Nat) (a8:List J.al) (y6:List J.al) (vS:Int) (e1:Int):=c0 ((a8.length:Int)=e1/\True) (pK F a8 k y6 vS)
theorem R0 (F:Nat) (k:Nat) (a8:List J.al) (y6:List J.al) (vS:Int):pK F a8 k y6 vS=Ob F k a8 y6 vS (a8.length:Int):=(dt ⟨rfl,trivial⟩).symm
noncomputable def ahW (F:Nat):aT aR:=(ahL F).bT 75 0 F ⟨[3,8,9,10],[.p (.R 0),.p (.l 134),.p (.i .i64),.p (.i .i64)],[.r 134 false],
 [⟨⟨.nm,[3],[.p (.R 0)],[.r 134 false]⟩,List J.al,fun d r=>(((),()),(r,()))⟩],
 fun k d=>Ob F k d.1.2.1 d.2.1 d.1.2.2.2.1 d.1.2.2.1⟩ (bI.bS (fun d=>dr) fun k ax aB q h=>by
 obtain ⟨_,(aY:List J.al),(v1:Int),(v2:Int),_⟩:=ax
 obtain ⟨(bq:List J.al),_⟩:=aB
 obtain ⟨aw,_⟩:=dT h
 dsimp only at aw
 obtain ⟨rfl,_⟩:=aw
 conv=>rhs;change Option.map (α:=List J.al) _ (Ob F (k+ 1) aY bq v2 (aY.length:Int));rw [<-R0 F (k+ 1) aY bq v2];simp only [pK,a6,R0,S1,S4];simp only [bM]
 kernel_rfl)
noncomputable def ah7 (F:Nat):aT aR:=(ahW F).rt 75 ⟨[.p (.l 134)],[],[.p (.l 134)],[],List J.al,fun d=>EF F d.1.1,fun d r=>((r,()),())⟩ fun ax aB=>by
 obtain ⟨(aY:List J.al),_⟩:=ax
 conv=>rhs;simp only [EF,a6,R0]
 kernel_rfl
noncomputable def N2 (k:Nat) (aM:J.bj) (nc:List ((List UInt8) × Int)) (pO:Int) (e1:Int) (e3:List J.al):=c0 ((aM.l.length:Int)=e1/\(aM.l:List J.al)=e3/\True) (a9 (na aM k nc pO))
theorem RQ (k:Nat) (aM:J.bj) (nc:List ((List UInt8) × Int)) (pO:Int):a9 (na aM k nc pO)=N2 k (⟨aM.l,[],aM.dh⟩:J.bj) nc pO (aM.l.length:Int) aM.l:=(show a9 (na aM k nc pO)=a9 (na (⟨aM.l,[],aM.dh⟩:J.bj) k nc pO) by kernel_rfl).trans (dt ⟨rfl,rfl,trivial⟩).symm
noncomputable def aih (F:Nat):aT aR:=(ah7 F).bT 76 0 F ⟨[0,14,15,16],[.p (.B 0),.p (.l 134),.p (.i .i64),.p (.i .i64)],[jI,.m 9 3,.r 3 true],
 [⟨⟨.nm,[0],[.p (.B 0)],[jI,.m 9 3,.r 3 true]⟩,List ((List UInt8) × Int),fun d r=>(((),()),((d.2.1.1,(),(),()),r,d.2.2.2.1,()))⟩,
  ⟨⟨.rt,[2],[.p (.i .i64)],[jI,.m 9 3,.r 3 true]⟩,Int × J.bj,fun d r=>((r.1,()),((d.2.1.1,(),(),()),r.2.bY,d.2.2.2.1,()))⟩],
 fun k d=>N2 k (⟨d.1.2.1,[],d.2.2.2.1⟩:J.bj) d.2.2.1 d.1.2.2.2.1 d.1.2.2.1 d.2.1.1⟩ (bI.bS (fun d=>dr) fun k ax aB q h=>by
 obtain ⟨_,(aY:List J.al),(v1:Int),(v2:Int),_⟩:=ax
 obtain ⟨⟨(bq:List J.al),_,_,_⟩,(v4:List ((List UInt8) × Int)),(bW:List Int),_⟩:=aB
 obtain ⟨aw,_⟩:=dT h
 dsimp only at aw
 obtain ⟨rfl,rfl,_⟩:=aw
 conv=>rhs;change Option.map (α:=(List ((List UInt8) × Int)) ⊕ (Int × J.bj)) _ (N2 (k+ 1) (⟨aY,[],bW⟩:J.bj) v4 v2 (aY.length:Int) (aY));rw [<-RQ (k+ 1) (⟨aY,[],bW⟩:J.bj) v4 v2];simp only [na,a6,RQ];simp only [bM]
 kernel_rfl)
noncomputable def ais (F:Nat):aT aR:=(aih F).rt 76 ⟨[.p (.B 0)],[jI,.m 9 3,.r 3 true],[.p (.i .i64)],[jI,.m 9 3,.r 3 true],Int × J.bj,fun d=>Bq F (⟨d.2.1.1,d.2.2.1,d.2.2.2.1⟩:J.bj),fun d r=>((r.1,()),((d.2.1.1,(),(),()),r.2.bY,d.2.2.2.1,()))⟩ fun ax aB=>by
 obtain ⟨_,_⟩:=ax
 obtain ⟨⟨(aY:List J.al),_,_,_⟩,(v1:List ((List UInt8) × Int)),(v2:List Int),_⟩:=aB
 conv=>rhs;simp only [Bq,a6,RQ]
 kernel_rfl
noncomputable def NT (k:Nat) (aM:J.bj) (vT:Int) (e1:Int) (e3:List J.al):=c0 ((aM.l.length:Int)=e1/\(aM.l:List J.al)=e3/\True) (a9 (s9 aM k vT))
theorem RI (k:Nat) (aM:J.bj) (vT:Int):a9 (s9 aM k vT)=NT k aM vT (aM.l.length:Int) aM.l:=(dt ⟨rfl,rfl,trivial⟩).symm
noncomputable def aiD (F:Nat):aT aR:=(ais F).bT 77 0 F ⟨[0,14,15,16],[.p (.B 0),.p (.l 134),.p (.i .i64),.p (.i .i64)],[jI,.m 9 3,.r 3 true],
 [⟨⟨.nm,[0],[.p (.B 0)],[jI,.m 9 3,.r 3 true]⟩,Unit,fun d r=>(((),()),((d.2.1.1,(),(),()),d.2.2.1,d.2.2.2.1,()))⟩,
  ⟨⟨.rt,[2],[.p (.i .i64)],[jI,.m 9 3,.r 3 true]⟩,Int × J.bj,fun d r=>((r.1,()),((d.2.1.1,(),(),()),d.2.2.1,r.2.dh,()))⟩],
 fun k d=>NT k (⟨d.1.2.1,d.2.2.1,d.2.2.2.1⟩:J.bj) d.1.2.2.2.1 d.1.2.2.1 d.2.1.1⟩ (bI.bS (fun d=>dr) fun k ax aB q h=>by
 obtain ⟨_,(aY:List J.al),(v1:Int),(v2:Int),_⟩:=ax
 obtain ⟨⟨(bq:List J.al),_,_,_⟩,(v4:List ((List UInt8) × Int)),(bW:List Int),_⟩:=aB
 obtain ⟨aw,_⟩:=dT h
 dsimp only at aw
 obtain ⟨rfl,rfl,_⟩:=aw
 conv=>rhs;change Option.map (α:=Unit ⊕ (Int × J.bj)) _ (NT (k+ 1) (⟨aY,v4,bW⟩:J.bj) v2 (aY.length:Int) (aY));rw [<-RI (k+ 1) (⟨aY,v4,bW⟩:J.bj) v2];simp only [s9,a6,RI];simp only [bM]
 kernel_rfl)
noncomputable def NU (k:Nat) (aM:J.bj) (qY:List Int) (q9:Int) (e1:Int) (e3:List J.al):=c0 ((aM.l.length:Int)=e1/\(aM.l:List J.al)=e3/\True) (a9 (ld aM k qY q9))
theorem RJ (k:Nat) (aM:J.bj) (qY:List Int) (q9:Int):a9 (ld aM k qY q9)=NU k (⟨aM.l,aM.bY,[]⟩:J.bj) qY q9 (aM.l.length:Int) aM.l:=(show a9 (ld aM k qY q9)=a9 (ld (⟨aM.l,aM.bY,[]⟩:J.bj) k qY q9) by kernel_rfl).trans (dt ⟨rfl,rfl,trivial⟩).symm
noncomputable def aiO (F:Nat):aT aR:=(aiD F).bT 77 2 F ⟨[0,31,32,33],[.p (.B 0),.p (.l 134),.p (.i .i64),.p (.i .i64)],[jI,.m 9 3,.r 3 false],
 [⟨⟨.nm,[0],[.p (.B 0)],[jI,.m 9 3,.r 3 false]⟩,List Int,fun d r=>(((),()),((d.2.1.1,(),(),()),d.2.2.1,r,()))⟩,
  ⟨⟨.rt,[2],[.p (.i .i64)],[jI,.m 9 3,.r 3 false]⟩,Int × J.bj,fun d r=>((r.1,()),((d.2.1.1,(),(),()),d.2.2.1,r.2.dh,()))⟩],
 fun k d=>NU k (⟨d.1.2.1,d.2.2.1,[]⟩:J.bj) d.2.2.2.1 d.1.2.2.2.1 d.1.2.2.1 d.2.1.1⟩ (bI.bS (fun d=>dr) fun k ax aB q h=>by
 obtain ⟨_,(aY:List J.al),(v1:Int),(v2:Int),_⟩:=ax
 obtain ⟨⟨(bq:List J.al),_,_,_⟩,(v4:List ((List UInt8) × Int)),(bW:List Int),_⟩:=aB
 obtain ⟨aw,_⟩:=dT h
 dsimp only at aw
 obtain ⟨rfl,rfl,_⟩:=aw
 conv=>rhs;change Option.map (α:=(List Int) ⊕ (Int × J.bj)) _ (NU (k+ 1) (⟨aY,v4,[]⟩:J.bj) bW v2 (aY.length:Int) (aY));rw [<-RJ (k+ 1) (⟨aY,v4,[]⟩:J.bj) bW v2];simp only [ld,a6,RJ];simp only [bM]
 kernel_rfl)
noncomputable def NW (k:Nat) (aM:J.bj) (hL:List Int) (tj:Int) (tk:Int) (e1:Int) (e3:Int):=c0 ((aM.l.length:Int)=e1/\(aM.l.length:Int)=e3/\True) (q1 aM hL k tj tk)
theorem RL (k:Nat) (aM:J.bj) (hL:List Int) (tj:Int) (tk:Int):q1 aM hL k tj tk=NW k (⟨aM.l,aM.bY,[]⟩:J.bj) hL tj tk (aM.l.length:Int) (aM.l.length:Int):=(show q1 aM hL k tj tk=q1 (⟨aM.l,aM.bY,[]⟩:J.bj) hL k tj tk by kernel_rfl).trans (dt ⟨rfl,rfl,trivial⟩).symm
noncomputable def aiY (F:Nat):aT aR:=(aiO F).bT 77 7 F ⟨[0,10,69,70,78,79],[.p (.B 0),.p (.i .i64),.p (.i .i64),.p (.i .i64),.p (.i .i64),.p (.i .i64)],[jI,.m 9 3,.r 3 true],
 [⟨⟨.nm,[0,10,69,70],[.p (.B 0),.p (.i .i64),.p (.i .i64),.p (.i .i64)],[jI,.m 9 3,.r 3 true]⟩,Int,fun d r=>(((),r,d.1.2.2.1,d.1.2.2.2.1,()),((d.2.1.1,(),(),()),d.2.2.1,d.2.2.2.1,()))⟩],
 fun k d=>NW k (⟨d.2.1.1,d.2.2.1,[]⟩:J.bj) d.2.2.2.1 d.1.2.1 d.1.2.2.2.2.2.1 d.1.2.2.1 d.1.2.2.2.2.1⟩ (bI.bS (fun d=>dr) fun k ax aB q h=>by
 obtain ⟨_,(aY:Int),(v1:Int),(v2:Int),(bq:Int),(v4:Int),_⟩:=ax
 obtain ⟨⟨(bW:List J.al),_,_,_⟩,(v6:List ((List UInt8) × Int)),(cm:List Int),_⟩:=aB
 obtain ⟨aw,_⟩:=dT h
 dsimp only at aw
 obtain ⟨rfl,rfl,_⟩:=aw
 conv=>rhs;change Option.map (α:=Int) _ (NW (k+ 1) (⟨bW,v6,[]⟩:J.bj) cm aY v4 (bW.length:Int) (bW.length:Int));rw [<-RL (k+ 1) (⟨bW,v6,[]⟩:J.bj) cm aY v4];simp only [q1,a6,RL];simp only [bM]
 kernel_rfl)
noncomputable def NV (F:Nat) (k:Nat) (aM:J.bj) (hL:List Int) (q6:Int) (cW:Int):=c0 ((aM.l.length:Int)=cW/\True) (a9 (pD F aM hL k q6))
theorem RK (F:Nat) (k:Nat) (aM:J.bj) (hL:List Int) (q6:Int):a9 (pD F aM hL k q6)=NV F k (⟨aM.l,aM.bY,[]⟩:J.bj) hL q6 (aM.l.length:Int):=(show a9 (pD F aM hL k q6)=a9 (pD F (⟨aM.l,aM.bY,[]⟩:J.bj) hL k q6) by kernel_rfl).trans (dt ⟨rfl,trivial⟩).symm
noncomputable def ai9 (F:Nat):aT aR:=(aiY F).bT 77 5 F ⟨[0,69,70],[.p (.B 0),.p (.i .i64),.p (.i .i64)],[jI,.m 9 3,.r 3 true],
 [⟨⟨.nm,[],[],[jI,.m 9 3,.r 3 true]⟩,Unit,fun d r=>((),((d.2.1.1,(),(),()),d.2.2.1,d.2.2.2.1,()))⟩,
  ⟨⟨.rt,[2],[.p (.i .i64)],[jI,.m 9 3,.r 3 true]⟩,Int × J.bj,fun d r=>((r.1,()),((d.2.1.1,(),(),()),d.2.2.1,r.2.dh,()))⟩],
 fun k d=>NV F k (⟨d.2.1.1,d.2.2.1,[]⟩:J.bj) d.2.2.2.1 d.1.2.2.1 d.1.2.1⟩ (bI.bS (fun d=>dr) fun k ax aB q h=>by
 obtain ⟨_,(aY:Int),(v1:Int),_⟩:=ax
 obtain ⟨⟨(v2:List J.al),_,_,_⟩,(bq:List ((List UInt8) × Int)),(v4:List Int),_⟩:=aB
 obtain ⟨aw,_⟩:=dT h
 dsimp only at aw
 obtain ⟨rfl,_⟩:=aw
 conv=>rhs;change Option.map (α:=Unit ⊕ (Int × J.bj)) _ (NV F (k+ 1) (⟨v2,bq,[]⟩:J.bj) v4 v1 (v2.length:Int));rw [<-RK F (k+ 1) (⟨v2,bq,[]⟩:J.bj) v4 v1];simp only [pD,a6,RL,RK];simp only [bM]
 kernel_rfl)
noncomputable def aji (F:Nat):aT aR:=(ai9 F).rt 77 ⟨[.p (.B 0)],[jI,.m 9 3,.r 3 false],[.p (.i .i64)],[jI,.m 9 3,.r 3 false],Int × J.bj,fun d=>IX F (⟨d.2.1.1,d.2.2.1,d.2.2.2.1⟩:J.bj),fun d r=>((r.1,()),((d.2.1.1,(),(),()),d.2.2.1,r.2.dh,()))⟩ fun ax aB=>by
 obtain ⟨_,_⟩:=ax
 obtain ⟨⟨(aY:List J.al),_,_,_⟩,(v1:List ((List UInt8) × Int)),(v2:List Int),_⟩:=aB
 conv=>rhs;simp only [IX,a6,RI,RJ,RK]
 kernel_rfl
noncomputable def ajn (F:Nat):aT aR:=(aji F).rt 78 ⟨[.p (.B 0)],[eh,.m 9 3],[.p (.i .i64)],[eh,.m 9 3],Int,fun d=>IY F (⟨d.2.1.1,d.2.2.1,d.2.1.2.2.1⟩:J.bj),fun d r=>((r,()),((d.2.1.1,(),d.2.1.2.2.1,()),d.2.2.1,()))⟩ fun ax aB=>by
 conv=>rhs;simp only [IY,a6]
 kernel_rfl
noncomputable def ajo (F:Nat):aT aR:=(ajn F).rt 112 ⟨[.a [.i .i64,.s],.p (.B 0)],[.c 120 [.R 1],.r 9 false],[],[.c 120 [.R 1],.r 9 false],List (List UInt8),fun d=>y9 (FN d.1.1) d.2.2.1,fun d r=>((),(((),()),r,()))⟩ fun ax aB=>by
 conv=>rhs;simp only [y9,a6]
 kernel_rfl
noncomputable def N7 (k:Nat) (gi:J.al) (y4:List (List UInt8)) (vO:Int) (e4:Int) (amh:List J.Field):=c0 ((gi.Fields.length:Int)=e4/\(gi.Fields:List J.Field)=amh/\True) (td gi k y4 vO)
theorem RV (k:Nat) (gi:J.al) (y4:List (List UInt8)) (vO:Int):td gi k y4 vO=N7 k gi y4 vO (gi.Fields.length:Int) gi.Fields:=(dt ⟨rfl,rfl,trivial⟩).symm
noncomputable def ajp (F:Nat):aT aR:=(ajo F).bT 79 2 F ⟨[0,3,4,6,23,24,25,30,31,32],[.p (.B 0),.p (.B 2),.f 112 [.B 2],.p (.B 4),.p (.l 134),.p (.i .i64),.p (.i .i64),.p (.l 136),.p (.i .i64),.p (.i .i64)],[eh,.m 9 3,.c 120 [.R 3],.r 9 false,hD],
 [⟨⟨.nm,[0,3,4,6,23,24,25],[.p (.B 0),.p (.B 2),.f 112 [.B 2],.p (.B 4),.p (.l 134),.p (.i .i64),.p (.i .i64)],[eh,.m 9 3,.c 120 [.R 3],.r 9 false,hD]⟩,List (List UInt8),fun d r=>(((),(),((),()),(),d.1.2.2.2.2.1,d.1.2.2.2.2.2.1,d.1.2.2.2.2.2.2.1,()),((d.2.1.1,(),d.2.1.2.2.1,()),d.2.2.1,((),()),r,d.2.2.2.2.2.1,()))⟩],
 fun k d=>N7 k (⟨d.2.2.2.2.2.1.1,d.2.2.2.2.2.1.2.1,d.1.2.2.2.2.2.2.2.1,d.2.2.2.2.2.1.2.2.2.1⟩:J.al) d.2.2.2.2.1 d.1.2.2.2.2.2.2.2.2.2.1 d.1.2.2.2.2.2.2.2.2.1 d.2.2.2.2.2.1.2.2.1⟩ (bI.bS (fun d=>dr) fun k ax aB q h=>by
 obtain ⟨_,_,⟨_,_⟩,_,(aY:List J.al),(v1:Int),(v2:Int),(bq:List J.Field),(v4:Int),(bW:Int),_⟩:=ax
 obtain ⟨⟨(v6:List J.al),_,(cm:List Int),_⟩,(cv:List ((List UInt8) × Int)),⟨_,_⟩,(cB:List (List UInt8)),⟨(v10:List UInt8),(v11:List UInt8),(da:List J.Field),(dG:List J.Method),_⟩,_⟩:=aB
 obtain ⟨aw,_⟩:=dT h
 dsimp only at aw
 obtain ⟨rfl,rfl,_⟩:=aw
 conv=>rhs;change Option.map (α:=List (List UInt8)) _ (N7 (k+ 1) (⟨v10,v11,bq,dG⟩:J.al) cB bW (bq.length:Int) (bq));rw [<-RV (k+ 1) (⟨v10,v11,bq,dG⟩:J.al) cB bW];simp only [td,a6,RV];simp only [bM]
 kernel_rfl)
noncomputable def N9 (k:Nat) (fR:J.Method) (y5:List (List UInt8)) (vP:Int) (e7:Int) (amt:List J.Kind):=c0 ((fR.cr.length:Int)=e7/\(fR.cr:List J.Kind)=amt/\True) (tf fR k y5 vP)
theorem RX (k:Nat) (fR:J.Method) (y5:List (List UInt8)) (vP:Int):tf fR k y5 vP=N9 k fR y5 vP (fR.cr.length:Int) fR.cr:=(dt ⟨rfl,rfl,trivial⟩).symm
noncomputable def ajq (F:Nat):aT aR:=(ajp F).bT 79 6 F ⟨[0,3,4,10,23,24,25,42,43,44,49,50,51],[.p (.B 0),.p (.B 2),.f 112 [.B 2],.p (.B 4),.p (.l 134),.p (.i .i64),.p (.i .i64),.p (.l 131),.p (.i .i64),.p (.i .i64),.p (.l 128),.p (.i .i64),.p (.i .i64)],[eh,.m 9 3,.c 120 [.R 3],.r 9 false,kF],
 [⟨⟨.nm,[0,3,4,10,23,24,25,42,43,44],[.p (.B 0),.p (.B 2),.f 112 [.B 2],.p (.B 4),.p (.l 134),.p (.i .i64),.p (.i .i64),.p (.l 131),.p (.i .i64),.p (.i .i64)],[eh,.m 9 3,.c 120 [.R 3],.r 9 false,kF]⟩,List (List UInt8),fun d r=>(((),(),((),()),(),d.1.2.2.2.2.1,d.1.2.2.2.2.2.1,d.1.2.2.2.2.2.2.1,d.1.2.2.2.2.2.2.2.1,d.1.2.2.2.2.2.2.2.2.1,d.1.2.2.2.2.2.2.2.2.2.1,()),((d.2.1.1,(),d.2.1.2.2.1,()),d.2.2.1,((),()),r,d.2.2.2.2.2.1,()))⟩],
 fun k d=>N9 k (⟨d.2.2.2.2.2.1.1,d.2.2.2.2.2.1.2.1,d.1.2.2.2.2.2.2.2.2.2.2.1,(FN d.2.2.2.2.2.1.2.2.2),d.2.2.2.2.2.1.2.2.2.2.2.1,d.2.2.2.2.2.1.2.2.2.2.2.2.1,d.2.2.2.2.2.1.2.2.2.2.2.2.2.1,d.2.2.2.2.2.1.2.2.2.2.2.2.2.2.1⟩:J.Method) d.2.2.2.2.1 d.1.2.2.2.2.2.2.2.2.2.2.2.2.1 d.1.2.2.2.2.2.2.2.2.2.2.2.1 d.2.2.2.2.2.1.2.2.1⟩ (bI.bS (fun d=>dr) fun k ax aB q h=>by
 obtain ⟨_,_,⟨_,_⟩,_,(aY:List J.al),(v1:Int),(v2:Int),(bq:List J.Method),(v4:Int),(bW:Int),(v6:List J.Kind),(cm:Int),(cv:Int),_⟩:=ax
 obtain ⟨⟨(cB:List J.al),_,(v10:List Int),_⟩,(v11:List ((List UInt8) × Int)),⟨_,_⟩,(da:List (List UInt8)),⟨(dG:List UInt8),(dZ:Bool),(fq:List J.Kind),(fP:Int),(g1:List UInt8),(lr:Int),(Cg:Int),(v20:List UInt8),(FP:List J.Handler),_⟩,_⟩:=aB
 obtain ⟨aw,_⟩:=dT h
 dsimp only at aw
 obtain ⟨rfl,rfl,_⟩:=aw
 conv=>rhs;change Option.map (α:=List (List UInt8)) _ (N9 (k+ 1) (⟨dG,dZ,v6,(⟨fP,g1⟩:J.Kind),lr,Cg,v20,FP⟩:J.Method) da cv (v6.length:Int) (v6));rw [<-RX (k+ 1) (⟨dG,dZ,v6,(⟨fP,g1⟩:J.Kind),lr,Cg,v20,FP⟩:J.Method) da cv];simp only [tf,a6,RX];simp only [bM]
 kernel_rfl)
noncomputable def N_ (k:Nat) (fR:J.Method) (sX:List (List UInt8)) (rc:Int) (e7:Int):=c0 ((fR.cw.length:Int)=e7/\True) (pJ fR k sX rc)
theorem RY (k:Nat) (fR:J.Method) (sX:List (List UInt8)) (rc:Int):pJ fR k sX rc=N_ k (⟨[],false,[],(⟨0,[]⟩:J.Kind),0,0,[],fR.cw⟩:J.Method) sX rc (fR.cw.length:Int):=(show pJ fR k sX rc=pJ (⟨[],false,[],(⟨0,[]⟩:J.Kind),0,0,[],fR.cw⟩:J.Method) k sX rc by kernel_rfl).trans (dt ⟨rfl,trivial⟩).symm
noncomputable def ajr (F:Nat):aT aR:=(ajq F).bT 79 8 F ⟨[0,3,4,23,24,25,42,43,44,64,65,66],[.p (.B 0),.p (.B 2),.f 112 [.B 2],.p (.l 134),.p (.i .i64),.p (.i .i64),.p (.l 131),.p (.i .i64),.p (.i .i64),.p (.l 157),.p (.i .i64),.p (.i .i64)],[eh,.m 9 3,.c 120 [.R 3],.r 9 false],
 [⟨⟨.nm,[0,3,4,23,24,25,42,43,44],[.p (.B 0),.p (.B 2),.f 112 [.B 2],.p (.l 134),.p (.i .i64),.p (.i .i64),.p (.l 131),.p (.i .i64),.p (.i .i64)],[eh,.m 9 3,.c 120 [.R 3],.r 9 false]⟩,List (List UInt8),fun d r=>(((),(),((),()),d.1.2.2.2.1,d.1.2.2.2.2.1,d.1.2.2.2.2.2.1,d.1.2.2.2.2.2.2.1,d.1.2.2.2.2.2.2.2.1,d.1.2.2.2.2.2.2.2.2.1,()),((d.2.1.1,(),d.2.1.2.2.1,()),d.2.2.1,((),()),r,()))⟩],
 fun k d=>N_ k (⟨[],false,[],(⟨0,[]⟩:J.Kind),0,0,[],d.1.2.2.2.2.2.2.2.2.2.1⟩:J.Method) d.2.2.2.2.1 d.1.2.2.2.2.2.2.2.2.2.2.2.1 d.1.2.2.2.2.2.2.2.2.2.2.1⟩ (bI.bS (fun d=>dr) fun k ax aB q h=>by
 obtain ⟨_,_,⟨_,_⟩,(aY:List J.al),(v1:Int),(v2:Int),(bq:List J.Method),(v4:Int),(bW:Int),(v6:List J.Handler),(cm:Int),(cv:Int),_⟩:=ax
 obtain ⟨⟨(cB:List J.al),_,(v10:List Int),_⟩,(v11:List ((List UInt8) × Int)),⟨_,_⟩,(da:List (List UInt8)),_⟩:=aB
 obtain ⟨aw,_⟩:=dT h
 dsimp only at aw
 obtain ⟨rfl,_⟩:=aw
 conv=>rhs;change Option.map (α:=List (List UInt8)) _ (N_ (k+ 1) (⟨[],false,[],(⟨0,[]⟩:J.Kind),0,0,[],v6⟩:J.Method) da cv (v6.length:Int));rw [<-RY (k+ 1) (⟨[],false,[],(⟨0,[]⟩:J.Kind),0,0,[],v6⟩:J.Method) da cv];simp only [pJ,a6,RY];simp only [bM]
 kernel_rfl)
noncomputable def N8 (F:Nat) (k:Nat) (gi:J.al) (sW:List (List UInt8)) (ra:Int) (e4:Int):=c0 ((gi.bb.length:Int)=e4/\True) (pI F gi k sW ra)
theorem RW (F:Nat) (k:Nat) (gi:J.al) (sW:List (List UInt8)) (ra:Int):pI F gi k sW ra=N8 F k (⟨[],[],[],gi.bb⟩:J.al) sW ra (gi.bb.length:Int):=(show pI F gi k sW ra=pI F (⟨[],[],[],gi.bb⟩:J.al) k sW ra by kernel_rfl).trans (dt ⟨rfl,trivial⟩).symm
noncomputable def ajs (F:Nat):aT aR:=(ajr F).bT 79 4 F ⟨[0,3,4,23,24,25,42,43,44],[.p (.B 0),.p (.B 2),.f 112 [.B 2],.p (.l 134),.p (.i .i64),.p (.i .i64),.p (.l 131),.p (.i .i64),.p (.i .i64)],[eh,.m 9 3,.c 120 [.R 3],.r 9 false],
 [⟨⟨.nm,[0,3,4,23,24,25],[.p (.B 0),.p (.B 2),.f 112 [.B 2],.p (.l 134),.p (.i .i64),.p (.i .i64)],[eh,.m 9 3,.c 120 [.R 3],.r 9 false]⟩,List (List UInt8),fun d r=>(((),(),((),()),d.1.2.2.2.1,d.1.2.2.2.2.1,d.1.2.2.2.2.2.1,()),((d.2.1.1,(),d.2.1.2.2.1,()),d.2.2.1,((),()),r,()))⟩],
 fun k d=>N8 F k (⟨[],[],[],d.1.2.2.2.2.2.2.1⟩:J.al) d.2.2.2.2.1 d.1.2.2.2.2.2.2.2.2.1 d.1.2.2.2.2.2.2.2.1⟩ (bI.bS (fun d=>dr) fun k ax aB q h=>by
 obtain ⟨_,_,⟨_,_⟩,(aY:List J.al),(v1:Int),(v2:Int),(bq:List J.Method),(v4:Int),(bW:Int),_⟩:=ax
 obtain ⟨⟨(v6:List J.al),_,(cm:List Int),_⟩,(cv:List ((List UInt8) × Int)),⟨_,_⟩,(cB:List (List UInt8)),_⟩:=aB
 obtain ⟨aw,_⟩:=dT h
 dsimp only at aw
 obtain ⟨rfl,_⟩:=aw
 conv=>rhs;change Option.map (α:=List (List UInt8)) _ (N8 F (k+ 1) (⟨[],[],[],bq⟩:J.al) cB bW (bq.length:Int));rw [<-RW F (k+ 1) (⟨[],[],[],bq⟩:J.al) cB bW];simp only [pI,a6,RX,RY,RW];simp only [bM]
 kernel_rfl)
noncomputable def N6 (F:Nat) (k:Nat) (aM:J.bj) (y3:List (List UInt8)) (vM:Int) (e1:Int) (e3:List J.al):=c0 ((aM.l.length:Int)=e1/\(aM.l:List J.al)=e3/\True) (tc F aM k y3 vM)
theorem RU (F:Nat) (k:Nat) (aM:J.bj) (y3:List (List UInt8)) (vM:Int):tc F aM k y3 vM=N6 F k aM y3 vM (aM.l.length:Int) aM.l:=(dt ⟨rfl,rfl,trivial⟩).symm
noncomputable def aju (F:Nat):aT aR:=(ajs F).bT 79 0 F ⟨[0,3,4,23,24,25],[.p (.B 0),.p (.B 2),.f 112 [.B 2],.p (.l 134),.p (.i .i64),.p (.i .i64)],[eh,.m 9 3,.c 120 [.R 3],.r 9 false],
 [⟨⟨.nm,[0,3],[.p (.B 0),.p (.B 2)],[eh,.m 9 3,.c 120 [.R 3],.r 9 false]⟩,List (List UInt8),fun d r=>(((),(),()),((d.2.1.1,(),d.2.1.2.2.1,()),d.2.2.1,((),()),r,()))⟩],
 fun k d=>N6 F k (⟨d.1.2.2.2.1,d.2.2.1,d.2.1.2.2.1⟩:J.bj) d.2.2.2.2.1 d.1.2.2.2.2.2.1 d.1.2.2.2.2.1 d.2.1.1⟩ (bI.bS (fun d=>dr) fun k ax aB q h=>by
 obtain ⟨_,_,⟨_,_⟩,(aY:List J.al),(v1:Int),(v2:Int),_⟩:=ax
 obtain ⟨⟨(bq:List J.al),_,(v4:List Int),_⟩,(bW:List ((List UInt8) × Int)),⟨_,_⟩,(v6:List (List UInt8)),_⟩:=aB
 obtain ⟨aw,_⟩:=dT h
 dsimp only at aw
 obtain ⟨rfl,rfl,_⟩:=aw
 conv=>rhs;change Option.map (α:=List (List UInt8)) _ (N6 F (k+ 1) (⟨aY,bW,v4⟩:J.bj) v6 v2 (aY.length:Int) (aY));rw [<-RU F (k+ 1) (⟨aY,bW,v4⟩:J.bj) v6 v2];simp only [tc,a6,RV,RW,RU];simp only [bM]
 kernel_rfl)
noncomputable def Oa (k:Nat) (aM:J.bj) (oh:List (List UInt8)) (vQ:Int) (cW:Int):=c0 ((oh.length:Int)=cW/\True) (a9 (vB aM oh k vQ))
theorem RZ (k:Nat) (aM:J.bj) (oh:List (List UInt8)) (vQ:Int):a9 (vB aM oh k vQ)=Oa k aM oh vQ (oh.length:Int):=(dt ⟨rfl,trivial⟩).symm
noncomputable def ajv (F:Nat):aT aR:=(aju F).bT 79 10 F ⟨[0,78,79,80],[.p (.B 0),.p (.R 2),.p (.i .i64),.p (.i .i64)],[eh,.m 9 3,.r 9 true],
 [⟨⟨.nm,[],[],[eh,.m 9 3,.d]⟩,Unit,fun d r=>((),((d.2.1.1,(),d.2.1.2.2.1,()),d.2.2.1,(),()))⟩,
  ⟨⟨.rt,[2],[.p (.i .i64)],[eh,.m 9 3,.d]⟩,Int,fun d r=>((r,()),((d.2.1.1,(),d.2.1.2.2.1,()),d.2.2.1,(),()))⟩],
 fun k d=>Oa k (⟨d.2.1.1,d.2.2.1,d.2.1.2.2.1⟩:J.bj) d.2.2.2.1 d.1.2.2.2.1 d.1.2.2.1⟩ (bI.bS (fun d=>dr) fun k ax aB q h=>by
 obtain ⟨_,_,(aY:Int),(v1:Int),_⟩:=ax
 obtain ⟨⟨(v2:List J.al),_,(bq:List Int),_⟩,(v4:List ((List UInt8) × Int)),(bW:List (List UInt8)),_⟩:=aB
 obtain ⟨aw,_⟩:=dT h
 dsimp only at aw
 obtain ⟨rfl,_⟩:=aw
 conv=>rhs;change Option.map (α:=Unit ⊕ Int) _ (Oa (k+ 1) (⟨v2,v4,bq⟩:J.bj) bW v1 (bW.length:Int));rw [<-RZ (k+ 1) (⟨v2,v4,bq⟩:J.bj) bW v1];simp only [vB,a6,RZ];simp only [bM]
 kernel_rfl)
noncomputable def ajw (F:Nat):aT aR:=(ajv F).rt 79 ⟨[.p (.B 0)],[eh,.m 9 3],[.p (.i .i64)],[eh,.m 9 3],Int,fun d=>EE F (⟨d.2.1.1,d.2.2.1,d.2.1.2.2.1⟩:J.bj),fun d r=>((r,()),((d.2.1.1,(),d.2.1.2.2.1,()),d.2.2.1,()))⟩ fun ax aB=>by
 obtain ⟨_,_⟩:=ax
 obtain ⟨⟨(aY:List J.al),_,(v1:List Int),_⟩,(v2:List ((List UInt8) × Int)),_⟩:=aB
 conv=>rhs;simp only [EE,a6,RU,RZ]
 kernel_rfl
noncomputable def Oc (k:Nat) (a8:List (List UInt8)) (y_:List ((List UInt8) × Bool)) (vJ:Int) (e1:List (List UInt8)) (e2:Int):=c0 ((a8:List (List UInt8))=e1/\(a8.length:Int)=e2/\True) (vC a8 k y_ vJ)
theorem R1 (k:Nat) (a8:List (List UInt8)) (y_:List ((List UInt8) × Bool)) (vJ:Int):vC a8 k y_ vJ=Oc k a8 y_ vJ a8 (a8.length:Int):=(dt ⟨rfl,rfl,trivial⟩).symm
noncomputable def ajx (F:Nat):aT aR:=(ajw F).bT 113 0 F ⟨[0,3,7,8,9],[.p (.l 9),.p (.M 0),.p (.l 9),.p (.i .i64),.p (.i .i64)],[.m 9 4],
 [⟨⟨.nm,[0,3],[.p (.l 9),.p (.M 0)],[.m 9 4]⟩,List ((List UInt8) × Bool),fun d r=>((d.1.1,(),()),(r,()))⟩],
 fun k d=>Oc k d.1.1 d.2.1 d.1.2.2.2.2.1 d.1.2.2.1 d.1.2.2.2.1⟩ (bI.bS (fun d=>dr) fun k ax aB q h=>by
 obtain ⟨(aY:List (List UInt8)),_,(v1:List (List UInt8)),(v2:Int),(bq:Int),_⟩:=ax
 obtain ⟨(v4:List ((List UInt8) × Bool)),_⟩:=aB
 obtain ⟨aw,_⟩:=dT h
 dsimp only at aw
 obtain ⟨rfl,rfl,_⟩:=aw
 conv=>rhs;change Option.map (α:=List ((List UInt8) × Bool)) _ (Oc (k+ 1) aY v4 bq (aY) (aY.length:Int));rw [<-R1 (k+ 1) aY v4 bq];simp only [vC,a6,R1];simp only [bM]
 kernel_rfl)
noncomputable def ajy (F:Nat):aT aR:=(ajx F).rt 113 ⟨[.p (.l 9)],[],[.p (.b)],[],Bool,fun d=>Bs F d.1.1,fun d r=>((r,()),())⟩ fun ax aB=>by
 obtain ⟨(aY:List (List UInt8)),_⟩:=ax
 conv=>rhs;simp only [Bs,a6,R1]
 kernel_rfl
noncomputable def N4 (k:Nat) (nj:List J.Field) (y2:List (List UInt8)) (vL:Int) (e3:Int) (amo:List (List UInt8)):=c0 ((nj.length:Int)=e3/\([]:List (List UInt8))=amo/\True) (ta nj k y2 vL)
theorem RS (k:Nat) (nj:List J.Field) (y2:List (List UInt8)) (vL:Int):ta nj k y2 vL=N4 k nj y2 vL (nj.length:Int) []:=(dt ⟨rfl,rfl,trivial⟩).symm
noncomputable def ajz (F:Nat):aT aR:=(ajy F).bT 80 2 F ⟨[0,4,5,6,14,15,16,23,24,25],[.p (.B 0),.p (.B 2),.p (.R 3),.p (.R 4),.p (.l 134),.p (.i .i64),.p (.i .i64),.p (.R 5),.p (.i .i64),.p (.i .i64)],[eh,.m 9 3,hD,.r 9 false,.r 9 false,.r 136 true],
 [⟨⟨.nm,[0,4,5,6,14,15,16],[.p (.B 0),.p (.B 2),.p (.R 3),.p (.R 4),.p (.l 134),.p (.i .i64),.p (.i .i64)],[eh,.m 9 3,hD,.r 9 false,.r 9 false,.d]⟩,List (List UInt8),fun d r=>(((),(),(),(),d.1.2.2.2.2.1,d.1.2.2.2.2.2.1,d.1.2.2.2.2.2.2.1,()),((d.2.1.1,(),d.2.1.2.2.1,()),d.2.2.1,d.2.2.2.1,r,d.2.2.2.2.2.1,(),()))⟩],
 fun k d=>N4 k d.2.2.2.2.2.2.1 d.2.2.2.2.1 d.1.2.2.2.2.2.2.2.2.2.1 d.1.2.2.2.2.2.2.2.2.1 d.2.2.2.2.2.1⟩ (bI.bS (fun d=>dr) fun k ax aB q h=>by
 obtain ⟨_,_,_,_,(aY:List J.al),(v1:Int),(v2:Int),_,(bq:Int),(v4:Int),_⟩:=ax
 obtain ⟨⟨(bW:List J.al),_,(v6:List Int),_⟩,(cm:List ((List UInt8) × Int)),⟨(cv:List UInt8),(cB:List UInt8),(v10:List J.Field),(v11:List J.Method),_⟩,(da:List (List UInt8)),(dG:List (List UInt8)),(dZ:List J.Field),_⟩:=aB
 obtain ⟨aw,_⟩:=dT h
 dsimp only at aw
 obtain ⟨rfl,rfl,_⟩:=aw
 conv=>rhs;change Option.map (α:=List (List UInt8)) _ (N4 (k+ 1) dZ da v4 (dZ.length:Int) ([]));rw [<-RS (k+ 1) dZ da v4];simp only [ta,a6,RS];simp only [bM]
 kernel_rfl)
noncomputable def N5 (k:Nat) (lC:J.al) (sV:List (List UInt8)) (q':Int) (e4:Int):=c0 ((lC.bb.length:Int)=e4/\True) (pH lC k sV q')
theorem RT (k:Nat) (lC:J.al) (sV:List (List UInt8)) (q':Int):pH lC k sV q'=N5 k (⟨[],[],[],lC.bb⟩:J.al) sV q' (lC.bb.length:Int):=(show pH lC k sV q'=pH (⟨[],[],[],lC.bb⟩:J.al) k sV q' by kernel_rfl).trans (dt ⟨rfl,trivial⟩).symm
noncomputable def ajA (F:Nat):aT aR:=(ajz F).bT 80 4 F ⟨[0,5,6,14,15,16,36,37,38],[.p (.B 0),.p (.R 2),.p (.R 3),.p (.l 134),.p (.i .i64),.p (.i .i64),.p (.l 131),.p (.i .i64),.p (.i .i64)],[eh,.m 9 3,.r 9 false,.r 9 false],
 [⟨⟨.nm,[0,5,6,14,15,16],[.p (.B 0),.p (.R 2),.p (.R 3),.p (.l 134),.p (.i .i64),.p (.i .i64)],[eh,.m 9 3,.r 9 false,.r 9 false]⟩,List (List UInt8),fun d r=>(((),(),(),d.1.2.2.2.1,d.1.2.2.2.2.1,d.1.2.2.2.2.2.1,()),((d.2.1.1,(),d.2.1.2.2.1,()),d.2.2.1,d.2.2.2.1,r,()))⟩],
 fun k d=>N5 k (⟨[],[],[],d.1.2.2.2.2.2.2.1⟩:J.al) d.2.2.2.2.1 d.1.2.2.2.2.2.2.2.2.1 d.1.2.2.2.2.2.2.2.1⟩ (bI.bS (fun d=>dr) fun k ax aB q h=>by
 obtain ⟨_,_,_,(aY:List J.al),(v1:Int),(v2:Int),(bq:List J.Method),(v4:Int),(bW:Int),_⟩:=ax
 obtain ⟨⟨(v6:List J.al),_,(cm:List Int),_⟩,(cv:List ((List UInt8) × Int)),(cB:List (List UInt8)),(v10:List (List UInt8)),_⟩:=aB
 obtain ⟨aw,_⟩:=dT h
 dsimp only at aw
 obtain ⟨rfl,_⟩:=aw
 conv=>rhs;change Option.map (α:=List (List UInt8)) _ (N5 (k+ 1) (⟨[],[],[],bq⟩:J.al) v10 bW (bq.length:Int));rw [<-RT (k+ 1) (⟨[],[],[],bq⟩:J.al) v10 bW];simp only [pH,a6,RT];simp only [bM]
 kernel_rfl)
noncomputable def N3 (F:Nat) (k:Nat) (aM:J.bj) (tm:Int) (e1:Int) (e3:List J.al):=c0 ((aM.l.length:Int)=e1/\(aM.l:List J.al)=e3/\True) (a9 (vy F aM k tm))
theorem RR (F:Nat) (k:Nat) (aM:J.bj) (tm:Int):a9 (vy F aM k tm)=N3 F k aM tm (aM.l.length:Int) aM.l:=(dt ⟨rfl,rfl,trivial⟩).symm
noncomputable def ajB (F:Nat):aT aR:=(ajA F).bT 80 0 F ⟨[0,14,15,16],[.p (.B 0),.p (.l 134),.p (.i .i64),.p (.i .i64)],[eh,.m 9 3],
 [⟨⟨.nm,[],[],[eh,.m 9 3]⟩,Unit,fun d r=>((),((d.2.1.1,(),d.2.1.2.2.1,()),d.2.2.1,()))⟩,
  ⟨⟨.rt,[2],[.p (.i .i64)],[eh,.m 9 3]⟩,Int,fun d r=>((r,()),((d.2.1.1,(),d.2.1.2.2.1,()),d.2.2.1,()))⟩],
 fun k d=>N3 F k (⟨d.1.2.1,d.2.2.1,d.2.1.2.2.1⟩:J.bj) d.1.2.2.2.1 d.1.2.2.1 d.2.1.1⟩ (bI.bS (fun d=>dr) fun k ax aB q h=>by
 obtain ⟨_,(aY:List J.al),(v1:Int),(v2:Int),_⟩:=ax
 obtain ⟨⟨(bq:List J.al),_,(v4:List Int),_⟩,(bW:List ((List UInt8) × Int)),_⟩:=aB
 obtain ⟨aw,_⟩:=dT h
 dsimp only at aw
 obtain ⟨rfl,rfl,_⟩:=aw
 conv=>rhs;change Option.map (α:=Unit ⊕ Int) _ (N3 F (k+ 1) (⟨aY,bW,v4⟩:J.bj) v2 (aY.length:Int) (aY));rw [<-RR F (k+ 1) (⟨aY,bW,v4⟩:J.bj) v2];simp only [vy,a6,RS,RT,RR];simp only [bM]
 kernel_rfl)
noncomputable def ajC (F:Nat):aT aR:=(ajB F).rt 80 ⟨[.p (.B 0)],[eh,.m 9 3],[.p (.i .i64)],[eh,.m 9 3],Int,fun d=>ED F (⟨d.2.1.1,d.2.2.1,d.2.1.2.2.1⟩:J.bj),fun d r=>((r,()),((d.2.1.1,(),d.2.1.2.2.1,()),d.2.2.1,()))⟩ fun ax aB=>by
 obtain ⟨_,_⟩:=ax
 obtain ⟨⟨(aY:List J.al),_,(v1:List Int),_⟩,(v2:List ((List UInt8) × Int)),_⟩:=aB
 conv=>rhs;simp only [ED,a6,RR]
 kernel_rfl
noncomputable def ajD (F:Nat):aT aR:=(ajC F).bT 114 0 F ⟨[0,1,5],[.p (.B 0),.p (.i .i64),.p (.R 2)],[eh,.m 9 3,.r 3 false],
 [⟨⟨.nm,[5],[.p (.R 2)],[eh,.m 9 3,.r 3 false]⟩,List Int,fun d r=>(((),()),((d.2.1.1,(),d.2.1.2.2.1,()),d.2.2.1,r,()))⟩],
 fun k d=>pF (⟨d.2.1.1,d.2.2.1,d.2.1.2.2.1⟩:J.bj) k d.2.2.2.1 d.1.2.1⟩ (bI.bS (fun d=>rfl) fun k ax aB q h=>by
 conv=>rhs;simp only [pF,a6];simp only [bM]
 kernel_rfl)
noncomputable def ajF (F:Nat):aT aR:=(ajD F).rt 114 ⟨[.p (.B 0),.p (.i .i64)],[eh,.m 9 3],[.p (.l 3)],[eh,.m 9 3],List Int,fun d=>pE F (⟨d.2.1.1,d.2.2.1,d.2.1.2.2.1⟩:J.bj) d.1.2.1,fun d r=>((r,()),((d.2.1.1,(),d.2.1.2.2.1,()),d.2.2.1,()))⟩ fun ax aB=>by
 conv=>rhs;simp only [pE,a6]
 kernel_rfl
noncomputable def Ol (k:Nat) (bL:List J.Kind) (b_:List J.Kind) (cT:Int) (e2:Int):=c0 ((bL.length:Int)=e2/\True) (a9 (zy bL b_ k cT))
theorem R9 (k:Nat) (bL:List J.Kind) (b_:List J.Kind) (cT:Int):a9 (zy bL b_ k cT)=Ol k bL b_ cT (bL.length:Int):=(dt ⟨rfl,trivial⟩).symm
noncomputable def ajG (F:Nat):aT aR:=(ajF F).bT 143 0 F ⟨[0,1,12,13],[.p (.l 128),.p (.l 128),.p (.i .i64),.p (.i .i64)],[],
 [⟨⟨.nm,[],[],[]⟩,Unit,fun d r=>((),())⟩,
  ⟨⟨.rt,[4],[.p (.b)],[]⟩,Bool,fun d r=>((r,()),())⟩],
 fun k d=>Ol k d.1.1 d.1.2.1 d.1.2.2.2.1 d.1.2.2.1⟩ (bI.bS (fun d=>dr) fun k ax aB q h=>by
 obtain ⟨(aY:List J.Kind),(v1:List J.Kind),(v2:Int),(bq:Int),_⟩:=ax
 obtain ⟨aw,_⟩:=dT h
 dsimp only at aw
 obtain ⟨rfl,_⟩:=aw
 conv=>rhs;change Option.map (α:=Unit ⊕ Bool) _ (Ol (k+ 1) aY v1 bq (aY.length:Int));rw [<-R9 (k+ 1) aY v1 bq];simp only [zy,a6,R9];simp only [bM]
 kernel_rfl)
noncomputable def ajH (F:Nat):aT aR:=(ajG F).rt 143 ⟨[.p (.l 128),.p (.l 128)],[],[.p (.b)],[],Bool,fun d=>FB F d.1.1 d.1.2.1,fun d r=>((r,()),())⟩ fun ax aB=>by
 obtain ⟨(aY:List J.Kind),(v1:List J.Kind),_⟩:=ax
 conv=>rhs;simp only [FB,a6,R9]
 kernel_rfl
noncomputable def ajI (F:Nat):aT aR:=(ajH F).rt 115 ⟨[JB,JB],[],[.p (.b)],[],Bool,fun d=>IW F (rz d.1.1) (rz d.1.2.1),fun d r=>((r,()),())⟩ fun ax aB=>by
 obtain ⟨⟨(aY:List UInt8),(v1:Bool),(v2:List J.Kind),(bq:Int),(v4:List UInt8),(bW:Int),(v6:Int),(cm:List UInt8),(cv:List J.Handler),_⟩,⟨(cB:List UInt8),(v10:Bool),(v11:List J.Kind),(da:Int),(dG:List UInt8),(dZ:Int),(fq:Int),(fP:List UInt8),(g1:List J.Handler),_⟩,_⟩:=ax
 conv=>rhs;simp only [IW,a6,ati]
 kernel_rfl
noncomputable def N1 (F:Nat) (k:Nat) (iF:J.Method) (kN:J.al) (pM:Int) (AL:Int):=c0 ((kN.bb.length:Int)=AL/\True) (a9 (pG F iF kN k pM))
theorem RP (F:Nat) (k:Nat) (iF:J.Method) (kN:J.al) (pM:Int):a9 (pG F iF kN k pM)=N1 F k iF (⟨[],[],[],kN.bb⟩:J.al) pM (kN.bb.length:Int):=(show a9 (pG F iF kN k pM)=a9 (pG F iF (⟨[],[],[],kN.bb⟩:J.al) k pM) by kernel_rfl).trans (dt ⟨rfl,trivial⟩).symm
noncomputable def ajJ (F:Nat):aT aR:=(ajI F).bT 81 6 F ⟨[0,4,6,8,14,15,16,24,25,26,31,32,33,44,45,46],[.p (.B 0),.p (.B 2),.p (.i .i64),.p (.B 3),.p (.l 134),.p (.i .i64),.p (.i .i64),.p (.l 3),.p (.i .i64),.p (.i .i64),.p (.l 131),.p (.i .i64),.p (.i .i64),.p (.l 131),.p (.i .i64),.p (.i .i64)],[eh,.m 9 3,hD,kF],
 [⟨⟨.nm,[0,4,6,14,15,16,24,25,26,31,32,33],[.p (.B 0),.p (.B 2),.p (.i .i64),.p (.l 134),.p (.i .i64),.p (.i .i64),.p (.l 3),.p (.i .i64),.p (.i .i64),.p (.l 131),.p (.i .i64),.p (.i .i64)],[eh,.m 9 3,hD,kF]⟩,Unit,fun d r=>(((),(),d.1.2.2.1,d.1.2.2.2.2.1,d.1.2.2.2.2.2.1,d.1.2.2.2.2.2.2.1,d.1.2.2.2.2.2.2.2.1,d.1.2.2.2.2.2.2.2.2.1,d.1.2.2.2.2.2.2.2.2.2.1,d.1.2.2.2.2.2.2.2.2.2.2.1,d.1.2.2.2.2.2.2.2.2.2.2.2.1,d.1.2.2.2.2.2.2.2.2.2.2.2.2.1,()),((d.2.1.1,(),d.2.1.2.2.1,()),d.2.2.1,d.2.2.2.1,d.2.2.2.2.1,()))⟩,
  ⟨⟨.rt,[2],[.p (.i .i64)],[eh,.m 9 3,.d,.d]⟩,Int,fun d r=>((r,()),((d.2.1.1,(),d.2.1.2.2.1,()),d.2.2.1,(),(),()))⟩],
 fun k d=>N1 F k (rz d.2.2.2.2.1) (⟨[],[],[],d.1.2.2.2.2.2.2.2.2.2.2.2.2.2.1⟩:J.al) d.1.2.2.2.2.2.2.2.2.2.2.2.2.2.2.2.1 d.1.2.2.2.2.2.2.2.2.2.2.2.2.2.2.1⟩ (bI.bS (fun d=>dr) fun k ax aB q h=>by
 obtain ⟨_,_,(aY:Int),_,(v1:List J.al),(v2:Int),(bq:Int),(v4:List Int),(bW:Int),(v6:Int),(cm:List J.Method),(cv:Int),(cB:Int),(v10:List J.Method),(v11:Int),(da:Int),_⟩:=ax
 obtain ⟨⟨(dG:List J.al),_,(dZ:List Int),_⟩,(fq:List ((List UInt8) × Int)),⟨(fP:List UInt8),(g1:List UInt8),(lr:List J.Field),(Cg:List J.Method),_⟩,⟨(v20:List UInt8),(FP:Bool),(acQ:List J.Kind),(acR:Int),(acS:List UInt8),(acT:Int),(acU:Int),(acV:List UInt8),(acW:List J.Handler),_⟩,_⟩:=aB
 obtain ⟨aw,_⟩:=dT h
 dsimp only at aw
 obtain ⟨rfl,_⟩:=aw
 conv=>rhs;change Option.map (α:=Unit ⊕ Int) _ (N1 F (k+ 1) (⟨v20,FP,acQ,(⟨acR,acS⟩:J.Kind),acT,acU,acV,acW⟩:J.Method) (⟨[],[],[],v10⟩:J.al) da (v10.length:Int));rw [<-RP F (k+ 1) (⟨v20,FP,acQ,(⟨acR,acS⟩:J.Kind),acT,acU,acV,acW⟩:J.Method) (⟨[],[],[],v10⟩:J.al) da];simp only [pG,a6,RP];simp only [bM]
 kernel_rfl)
noncomputable def N0 (F:Nat) (k:Nat) (aM:J.bj) (hP:J.al) (tL:Int) (vH:Int) (e2:Int) (amX:Int) (AK:List J.al) (amv:List J.Method):=c0 ((aM.l.length:Int)=e2/\(hP.bb.length:Int)=amX/\(aM.l:List J.al)=AK/\(hP.bb:List J.Method)=amv/\True) (a9 (vx F aM hP tL k vH))
theorem RO (F:Nat) (k:Nat) (aM:J.bj) (hP:J.al) (tL:Int) (vH:Int):a9 (vx F aM hP tL k vH)=N0 F k aM hP tL vH (aM.l.length:Int) (hP.bb.length:Int) aM.l hP.bb:=(dt ⟨rfl,rfl,rfl,rfl,trivial⟩).symm
noncomputable def ajK (F:Nat):aT aR:=(ajJ F).bT 81 4 F ⟨[0,4,6,14,15,16,24,25,26,31,32,33],[.p (.B 0),.p (.B 2),.p (.i .i64),.p (.l 134),.p (.i .i64),.p (.i .i64),.p (.l 3),.p (.i .i64),.p (.i .i64),.p (.l 131),.p (.i .i64),.p (.i .i64)],[eh,.m 9 3,hD],
 [⟨⟨.nm,[0,4,14,15,16,24,25,26],[.p (.B 0),.p (.B 2),.p (.l 134),.p (.i .i64),.p (.i .i64),.p (.l 3),.p (.i .i64),.p (.i .i64)],[eh,.m 9 3,hD]⟩,Unit,fun d r=>(((),(),d.1.2.2.2.1,d.1.2.2.2.2.1,d.1.2.2.2.2.2.1,d.1.2.2.2.2.2.2.1,d.1.2.2.2.2.2.2.2.1,d.1.2.2.2.2.2.2.2.2.1,()),((d.2.1.1,(),d.2.1.2.2.1,()),d.2.2.1,d.2.2.2.1,()))⟩,
  ⟨⟨.rt,[2],[.p (.i .i64)],[eh,.m 9 3,.d]⟩,Int,fun d r=>((r,()),((d.2.1.1,(),d.2.1.2.2.1,()),d.2.2.1,(),()))⟩],
 fun k d=>N0 F k (⟨d.1.2.2.2.1,d.2.2.1,d.2.1.2.2.1⟩:J.bj) (⟨d.2.2.2.1.1,d.2.2.2.1.2.1,d.2.2.2.1.2.2.1,d.1.2.2.2.2.2.2.2.2.2.1⟩:J.al) d.1.2.2.1 d.1.2.2.2.2.2.2.2.2.2.2.2.1 d.1.2.2.2.2.1 d.1.2.2.2.2.2.2.2.2.2.2.1 d.2.1.1 d.2.2.2.1.2.2.2.1⟩ (bI.bS (fun d=>dr) fun k ax aB q h=>by
 obtain ⟨_,_,(aY:Int),(v1:List J.al),(v2:Int),(bq:Int),(v4:List Int),(bW:Int),(v6:Int),(cm:List J.Method),(cv:Int),(cB:Int),_⟩:=ax
 obtain ⟨⟨(v10:List J.al),_,(v11:List Int),_⟩,(da:List ((List UInt8) × Int)),⟨(dG:List UInt8),(dZ:List UInt8),(fq:List J.Field),(fP:List J.Method),_⟩,_⟩:=aB
 obtain ⟨aw,_⟩:=dT h
 dsimp only at aw
 obtain ⟨rfl,rfl,rfl,rfl,_⟩:=aw
 conv=>rhs;change Option.map (α:=Unit ⊕ Int) _ (N0 F (k+ 1) (⟨v1,da,v11⟩:J.bj) (⟨dG,dZ,fq,cm⟩:J.al) aY cB (v1.length:Int) (cm.length:Int) (v1) (cm));rw [<-RO F (k+ 1) (⟨v1,da,v11⟩:J.bj) (⟨dG,dZ,fq,cm⟩:J.al) aY cB];simp only [vx,a6,RP,RO];simp only [bM]
 kernel_rfl)
noncomputable def NZ (F:Nat) (k:Nat) (aM:J.bj) (hP:J.al) (og:List Int) (vG:Int) (e1:Int) (e4:Int) (e6:List J.al):=c0 ((aM.l.length:Int)=e1/\(og.length:Int)=e4/\(aM.l:List J.al)=e6/\True) (a9 (vw F aM hP og k vG))
theorem RN (F:Nat) (k:Nat) (aM:J.bj) (hP:J.al) (og:List Int) (vG:Int):a9 (vw F aM hP og k vG)=NZ F k aM hP og vG (aM.l.length:Int) (og.length:Int) aM.l:=(dt ⟨rfl,rfl,rfl,trivial⟩).symm
noncomputable def ajL (F:Nat):aT aR:=(ajK F).bT 81 2 F ⟨[0,4,14,15,16,24,25,26],[.p (.B 0),.p (.B 2),.p (.l 134),.p (.i .i64),.p (.i .i64),.p (.l 3),.p (.i .i64),.p (.i .i64)],[eh,.m 9 3,hD],
 [⟨⟨.nm,[0,14,15,16],[.p (.B 0),.p (.l 134),.p (.i .i64),.p (.i .i64)],[eh,.m 9 3,hD]⟩,Unit,fun d r=>(((),d.1.2.2.1,d.1.2.2.2.1,d.1.2.2.2.2.1,()),((d.2.1.1,(),d.2.1.2.2.1,()),d.2.2.1,d.2.2.2.1,()))⟩,
  ⟨⟨.rt,[2],[.p (.i .i64)],[eh,.m 9 3,.d]⟩,Int,fun d r=>((r,()),((d.2.1.1,(),d.2.1.2.2.1,()),d.2.2.1,(),()))⟩],
 fun k d=>NZ F k (⟨d.1.2.2.1,d.2.2.1,d.2.1.2.2.1⟩:J.bj) (Cc d.2.2.2.1) d.1.2.2.2.2.2.1 d.1.2.2.2.2.2.2.2.1 d.1.2.2.2.1 d.1.2.2.2.2.2.2.1 d.2.1.1⟩ (bI.bS (fun d=>dr) fun k ax aB q h=>by
 obtain ⟨_,_,(aY:List J.al),(v1:Int),(v2:Int),(bq:List Int),(v4:Int),(bW:Int),_⟩:=ax
 obtain ⟨⟨(v6:List J.al),_,(cm:List Int),_⟩,(cv:List ((List UInt8) × Int)),⟨(cB:List UInt8),(v10:List UInt8),(v11:List J.Field),(da:List J.Method),_⟩,_⟩:=aB
 obtain ⟨aw,_⟩:=dT h
 dsimp only at aw
 obtain ⟨rfl,rfl,rfl,_⟩:=aw
 conv=>rhs;change Option.map (α:=Unit ⊕ Int) _ (NZ F (k+ 1) (⟨aY,cv,cm⟩:J.bj) (⟨cB,v10,v11,da⟩:J.al) bq bW (aY.length:Int) (bq.length:Int) (aY));rw [<-RN F (k+ 1) (⟨aY,cv,cm⟩:J.bj) (⟨cB,v10,v11,da⟩:J.al) bq bW];simp only [vw,a6,RO,RN];simp only [bM]
 kernel_rfl)
noncomputable def NY (F:Nat) (k:Nat) (aM:J.bj) (ti:Int) (e1:Int) (e3:List J.al):=c0 ((aM.l.length:Int)=e1/\(aM.l:List J.al)=e3/\True) (a9 (vv F aM k ti))
theorem RM (F:Nat) (k:Nat) (aM:J.bj) (ti:Int):a9 (vv F aM k ti)=NY F k aM ti (aM.l.length:Int) aM.l:=(dt ⟨rfl,rfl,trivial⟩).symm
noncomputable def ajM (F:Nat):aT aR:=(ajL F).bT 81 0 F ⟨[0,14,15,16],[.p (.B 0),.p (.l 134),.p (.i .i64),.p (.i .i64)],[eh,.m 9 3],
 [⟨⟨.nm,[],[],[eh,.m 9 3]⟩,Unit,fun d r=>((),((d.2.1.1,(),d.2.1.2.2.1,()),d.2.2.1,()))⟩,
  ⟨⟨.rt,[2],[.p (.i .i64)],[eh,.m 9 3]⟩,Int,fun d r=>((r,()),((d.2.1.1,(),d.2.1.2.2.1,()),d.2.2.1,()))⟩],
 fun k d=>NY F k (⟨d.1.2.1,d.2.2.1,d.2.1.2.2.1⟩:J.bj) d.1.2.2.2.1 d.1.2.2.1 d.2.1.1⟩ (bI.bS (fun d=>dr) fun k ax aB q h=>by
 obtain ⟨_,(aY:List J.al),(v1:Int),(v2:Int),_⟩:=ax
 obtain ⟨⟨(bq:List J.al),_,(v4:List Int),_⟩,(bW:List ((List UInt8) × Int)),_⟩:=aB
 obtain ⟨aw,_⟩:=dT h
 dsimp only at aw
 obtain ⟨rfl,rfl,_⟩:=aw
 conv=>rhs;change Option.map (α:=Unit ⊕ Int) _ (NY F (k+ 1) (⟨aY,bW,v4⟩:J.bj) v2 (aY.length:Int) (aY));rw [<-RM F (k+ 1) (⟨aY,bW,v4⟩:J.bj) v2];simp only [vv,a6,RN,RM];simp only [bM]
 kernel_rfl)
noncomputable def ajN (F:Nat):aT aR:=(ajM F).rt 81 ⟨[.p (.B 0)],[eh,.m 9 3],[.p (.i .i64)],[eh,.m 9 3],Int,fun d=>EC F (⟨d.2.1.1,d.2.2.1,d.2.1.2.2.1⟩:J.bj),fun d r=>((r,()),((d.2.1.1,(),d.2.1.2.2.1,()),d.2.2.1,()))⟩ fun ax aB=>by
 obtain ⟨_,_⟩:=ax
 obtain ⟨⟨(aY:List J.al),_,(v1:List Int),_⟩,(v2:List ((List UInt8) × Int)),_⟩:=aB
 conv=>rhs;simp only [EC,a6,RM]
 kernel_rfl
noncomputable def NS (F:Nat) (k:Nat) (gd:List J.al) (hd:Int × J.bj) (hf:Int × J.bj) (sP:List (List J.Target)) (sQ:List (List (List UInt8))) (sR:List (List J.Field)) (ov:Int) (cW:Int) (e2:List J.al) (e3:List Int) (e4:List (List J.Field)) (e5:List (List (List UInt8))) (e6:List (List J.Target)) (AK:List J.al) (AL:List Int):=c0 ((gd.length:Int)=cW/\([]:List J.al)=e2/\([]:List Int)=e3/\([]:List (List J.Field))=e4/\([]:List (List (List UInt8)))=e5/\([]:List (List J.Target))=e6/\(gd:List J.al)=AK/\(hf.2.dh:List Int)=AL/\True) (a9 (mh F gd hd hf k sP sQ sR ov))
theorem RH (F:Nat) (k:Nat) (gd:List J.al) (hd:Int × J.bj) (hf:Int × J.bj) (sP:List (List J.Target)) (sQ:List (List (List UInt8))) (sR:List (List J.Field)) (ov:Int):a9 (mh F gd hd hf k sP sQ sR ov)=NS F k gd (0,(⟨[],hd.2.bY,[]⟩:J.bj)) (0,(⟨[],[],hf.2.dh⟩:J.bj)) sP sQ sR ov (gd.length:Int) [] [] [] [] [] gd hf.2.dh:=(show a9 (mh F gd hd hf k sP sQ sR ov)=a9 (mh F gd (0,(⟨[],hd.2.bY,[]⟩:J.bj)) (0,(⟨[],[],hf.2.dh⟩:J.bj)) k sP sQ sR ov) by kernel_rfl).trans (dt ⟨rfl,rfl,rfl,rfl,rfl,rfl,rfl,rfl,trivial⟩).symm
noncomputable def ajO (F:Nat):aT aR:=(ajN F).bT 46 2 F ⟨[2,5,9,62,63],[.p (.B 0),.p (.B 1),.p (.B 3),.p (.i .i64),.p (.i .i64)],[dE,aaJ,.m 9 3,aaL,.r 124 false,.r 120 false,.r 121 false],
 [⟨⟨.nm,[2,9],[.p (.B 0),.p (.B 3)],[dE,aaJ,.m 9 3,aaL,.r 124 false,.r 120 false,.r 121 false]⟩,(List (List J.Target)) × (List (List (List UInt8))) × (List (List J.Field)),fun d r=>(((),(),()),(d.2.1,(d.2.2.1.1,(),d.2.2.1.2.2.1,()),d.2.2.2.1,(d.2.2.2.2.1.1,d.2.2.2.2.1.2.1,(),(),(),()),r.2.2,r.2.1,r.1,()))⟩,
  ⟨⟨.rt,[2,3],[.p (.B 0),.p (.i .i64)],[dE,.d,.d,.d,.d,.d,.d]⟩,J.aP × Int,fun d r=>(((),r.2,()),((r.1.a4,r.1.a0,r.1.Fields,r.1.Names,r.1.a1,()),(),(),(),(),(),(),()))⟩],
 fun k d=>NS F k d.2.2.1.1 (0,(⟨[],d.2.2.2.1,[]⟩:J.bj)) (0,(⟨[],[],d.2.2.1.2.2.1⟩:J.bj)) d.2.2.2.2.2.2.2.1 d.2.2.2.2.2.2.1 d.2.2.2.2.2.1 d.1.2.2.2.2.1 d.1.2.2.2.1 d.2.1.1 d.2.1.2.1 d.2.1.2.2.1 d.2.1.2.2.2.1 d.2.1.2.2.2.2.1 d.2.2.2.2.1.1 d.2.2.2.2.1.2.1⟩ (bI.bS (fun d=>dr) fun k ax aB q h=>by
 obtain ⟨_,_,_,(aY:Int),(v1:Int),_⟩:=ax
 obtain ⟨⟨(v2:List J.al),(bq:List Int),(v4:List (List J.Field)),(bW:List (List (List UInt8))),(v6:List (List J.Target)),_⟩,⟨(cm:List J.al),_,(cv:List Int),_⟩,(cB:List ((List UInt8) × Int)),⟨(v10:List J.al),(v11:List Int),_,_,_,_⟩,(da:List (List J.Field)),(dG:List (List (List UInt8))),(dZ:List (List J.Target)),_⟩:=aB
 obtain ⟨aw,_⟩:=dT h
 dsimp only at aw
 obtain ⟨rfl,rfl,rfl,rfl,rfl,rfl,rfl,rfl,_⟩:=aw
 conv=>rhs;change Option.map (α:=((List (List J.Target)) × (List (List (List UInt8))) × (List (List J.Field))) ⊕ (J.aP × Int)) _ (NS F (k+ 1) cm (0,(⟨[],cB,[]⟩:J.bj)) (0,(⟨[],[],cv⟩:J.bj)) dZ dG da v1 (cm.length:Int) ([]) ([]) ([]) ([]) ([]) (cm) ((0,(⟨[],[],cv⟩:J.bj)).2.dh));rw [<-RH F (k+ 1) cm (0,(⟨[],cB,[]⟩:J.bj)) (0,(⟨[],[],cv⟩:J.bj)) dZ dG da v1];simp only [mh,a6,RH];simp only [bM]
 kernel_rfl)
noncomputable def ajQ (F:Nat):aT aR:=(ajO F).rt 46 ⟨[.p (.l 134)],[],[gX,.p (.i .i64)],[],J.aP × Int,fun d=>y7 F d.1.1,fun d r=>(((r.1.a4,r.1.a0,r.1.Fields,r.1.Names,r.1.a1,()),r.2,()),())⟩ fun ax aB=>by
 obtain ⟨(aY:List J.al),_⟩:=ax
 conv=>rhs;simp only [y7,a6,RH]
 kernel_rfl
noncomputable def On (k:Nat) (bL:List Int) (b_:List Int) (cT:Int) (e2:Int):=c0 ((bL.length:Int)=e2/\True) (a9 (wk bL b_ k cT))
theorem R' (k:Nat) (bL:List Int) (b_:List Int) (cT:Int):a9 (wk bL b_ k cT)=On k bL b_ cT (bL.length:Int):=(dt ⟨rfl,trivial⟩).symm
noncomputable def ajR (F:Nat):aT aR:=(ajQ F).bT 126 0 F ⟨[0,1,12,13],[.p (.l 3),.p (.l 3),.p (.i .i64),.p (.i .i64)],[],
 [⟨⟨.nm,[],[],[]⟩,Unit,fun d r=>((),())⟩,
  ⟨⟨.rt,[4],[.p (.b)],[]⟩,Bool,fun d r=>((r,()),())⟩],
 fun k d=>On k d.1.1 d.1.2.1 d.1.2.2.2.1 d.1.2.2.1⟩ (bI.bS (fun d=>dr) fun k ax aB q h=>by
 obtain ⟨(aY:List Int),(v1:List Int),(v2:Int),(bq:Int),_⟩:=ax
 obtain ⟨aw,_⟩:=dT h
 dsimp only at aw
 obtain ⟨rfl,_⟩:=aw
 conv=>rhs;change Option.map (α:=Unit ⊕ Bool) _ (On (k+ 1) aY v1 bq (aY.length:Int));rw [<-R' (k+ 1) aY v1 bq];simp only [wk,a6,R'];simp only [bM]
 kernel_rfl)
noncomputable def ajS (F:Nat):aT aR:=(ajR F).rt 126 ⟨[.p (.l 3),.p (.l 3)],[],[.p (.b)],[],Bool,fun d=>FD F d.1.1 d.1.2.1,fun d r=>((r,()),())⟩ fun ax aB=>by
 obtain ⟨(aY:List Int),(v1:List Int),_⟩:=ax
 conv=>rhs;simp only [FD,a6,R']
 kernel_rfl
noncomputable def Ok (k:Nat) (bL:List J.Field) (b_:List J.Field) (cT:Int) (e2:Int):=c0 ((bL.length:Int)=e2/\True) (a9 (wi bL b_ k cT))
theorem R8 (k:Nat) (bL:List J.Field) (b_:List J.Field) (cT:Int):a9 (wi bL b_ k cT)=Ok k bL b_ cT (bL.length:Int):=(dt ⟨rfl,trivial⟩).symm
noncomputable def ajT (F:Nat):aT aR:=(ajS F).bT 128 0 F ⟨[0,1,12,13],[.p (.l 136),.p (.l 136),.p (.i .i64),.p (.i .i64)],[],
 [⟨⟨.nm,[],[],[]⟩,Unit,fun d r=>((),())⟩,
  ⟨⟨.rt,[4],[.p (.b)],[]⟩,Bool,fun d r=>((r,()),())⟩],
 fun k d=>Ok k d.1.1 d.1.2.1 d.1.2.2.2.1 d.1.2.2.1⟩ (bI.bS (fun d=>dr) fun k ax aB q h=>by
 obtain ⟨(aY:List J.Field),(v1:List J.Field),(v2:Int),(bq:Int),_⟩:=ax
 obtain ⟨aw,_⟩:=dT h
 dsimp only at aw
 obtain ⟨rfl,_⟩:=aw
 conv=>rhs;change Option.map (α:=Unit ⊕ Bool) _ (Ok (k+ 1) aY v1 bq (aY.length:Int));rw [<-R8 (k+ 1) aY v1 bq];simp only [wi,a6,R8];simp only [bM]
 kernel_rfl)
noncomputable def ajU (F:Nat):aT aR:=(ajT F).rt 128 ⟨[.p (.l 136),.p (.l 136)],[],[.p (.b)],[],Bool,fun d=>FA F d.1.1 d.1.2.1,fun d r=>((r,()),())⟩ fun ax aB=>by
 obtain ⟨(aY:List J.Field),(v1:List J.Field),_⟩:=ax
 conv=>rhs;simp only [FA,a6,R8]
 kernel_rfl
noncomputable def Oh (F:Nat) (k:Nat) (bL:List (List J.Field)) (b_:List (List J.Field)) (fZ:Int) (e2:Int):=c0 ((bL.length:Int)=e2/\True) (a9 (wc F bL b_ k fZ))
theorem R5 (F:Nat) (k:Nat) (bL:List (List J.Field)) (b_:List (List J.Field)) (fZ:Int):a9 (wc F bL b_ k fZ)=Oh F k bL b_ fZ (bL.length:Int):=(dt ⟨rfl,trivial⟩).symm
noncomputable def ajV (F:Nat):aT aR:=(ajU F).bT 127 0 F ⟨[1,2,15,16,17],[.p (.l 124),.f 128 [],.p (.l 124),.p (.i .i64),.p (.i .i64)],[],
 [⟨⟨.nm,[],[],[]⟩,Unit,fun d r=>((),())⟩,
  ⟨⟨.rt,[6],[.p (.b)],[]⟩,Bool,fun d r=>((r,()),())⟩],
 fun k d=>Oh F k d.1.2.2.1 d.1.1 d.1.2.2.2.2.1 d.1.2.2.2.1⟩ (bI.bS (fun d=>dr) fun k ax aB q h=>by
 obtain ⟨(aY:List (List J.Field)),_,(v1:List (List J.Field)),(v2:Int),(bq:Int),_⟩:=ax
 obtain ⟨aw,_⟩:=dT h
 dsimp only at aw
 obtain ⟨rfl,_⟩:=aw
 conv=>rhs;change Option.map (α:=Unit ⊕ Bool) _ (Oh F (k+ 1) v1 aY bq (v1.length:Int));rw [<-R5 F (k+ 1) v1 aY bq];simp only [wc,a6,R5];simp only [bM]
 kernel_rfl)
noncomputable def ajW (F:Nat):aT aR:=(ajV F).rt 127 ⟨[.p (.l 124),.p (.l 124),.f 128 []],[],[.p (.b)],[],Bool,fun d=>Fx F d.1.1 d.1.2.1,fun d r=>((r,()),())⟩ fun ax aB=>by
 obtain ⟨(aY:List (List J.Field)),(v1:List (List J.Field)),_,_⟩:=ax
 conv=>rhs;simp only [Fx,a6,R5]
 kernel_rfl
noncomputable def Oo (k:Nat) (bL:List (List UInt8)) (b_:List (List UInt8)) (cT:Int) (e2:Int):=c0 ((bL.length:Int)=e2/\True) (a9 (wl bL b_ k cT))
theorem Sa (k:Nat) (bL:List (List UInt8)) (b_:List (List UInt8)) (cT:Int):a9 (wl bL b_ k cT)=Oo k bL b_ cT (bL.length:Int):=(dt ⟨rfl,trivial⟩).symm
noncomputable def ajX (F:Nat):aT aR:=(ajW F).bT 130 0 F ⟨[0,1,12,13],[.p (.l 9),.p (.l 9),.p (.i .i64),.p (.i .i64)],[],
 [⟨⟨.nm,[],[],[]⟩,Unit,fun d r=>((),())⟩,
  ⟨⟨.rt,[4],[.p (.b)],[]⟩,Bool,fun d r=>((r,()),())⟩],
 fun k d=>Oo k d.1.1 d.1.2.1 d.1.2.2.2.1 d.1.2.2.1⟩ (bI.bS (fun d=>dr) fun k ax aB q h=>by
 obtain ⟨(aY:List (List UInt8)),(v1:List (List UInt8)),(v2:Int),(bq:Int),_⟩:=ax
 obtain ⟨aw,_⟩:=dT h
 dsimp only at aw
 obtain ⟨rfl,_⟩:=aw
 conv=>rhs;change Option.map (α:=Unit ⊕ Bool) _ (Oo (k+ 1) aY v1 bq (aY.length:Int));rw [<-Sa (k+ 1) aY v1 bq];simp only [wl,a6,Sa];simp only [bM]
 kernel_rfl)
noncomputable def ajY (F:Nat):aT aR:=(ajX F).rt 130 ⟨[.p (.l 9),.p (.l 9)],[],[.p (.b)],[],Bool,fun d=>FE F d.1.1 d.1.2.1,fun d r=>((r,()),())⟩ fun ax aB=>by
 obtain ⟨(aY:List (List UInt8)),(v1:List (List UInt8)),_⟩:=ax
 conv=>rhs;simp only [FE,a6,Sa]
 kernel_rfl
noncomputable def Oj (F:Nat) (k:Nat) (bL:List (List (List UInt8))) (b_:List (List (List UInt8))) (fZ:Int) (e2:Int):=c0 ((bL.length:Int)=e2/\True) (a9 (wh F bL b_ k fZ))
theorem R7 (F:Nat) (k:Nat) (bL:List (List (List UInt8))) (b_:List (List (List UInt8))) (fZ:Int):a9 (wh F bL b_ k fZ)=Oj F k bL b_ fZ (bL.length:Int):=(dt ⟨rfl,trivial⟩).symm
noncomputable def ajZ (F:Nat):aT aR:=(ajY F).bT 129 0 F ⟨[1,2,15,16,17],[.p (.l 120),.f 130 [],.p (.l 120),.p (.i .i64),.p (.i .i64)],[],
 [⟨⟨.nm,[],[],[]⟩,Unit,fun d r=>((),())⟩,
  ⟨⟨.rt,[6],[.p (.b)],[]⟩,Bool,fun d r=>((r,()),())⟩],
 fun k d=>Oj F k d.1.2.2.1 d.1.1 d.1.2.2.2.2.1 d.1.2.2.2.1⟩ (bI.bS (fun d=>dr) fun k ax aB q h=>by
 obtain ⟨(aY:List (List (List UInt8))),_,(v1:List (List (List UInt8))),(v2:Int),(bq:Int),_⟩:=ax
 obtain ⟨aw,_⟩:=dT h
 dsimp only at aw
 obtain ⟨rfl,_⟩:=aw
 conv=>rhs;change Option.map (α:=Unit ⊕ Bool) _ (Oj F (k+ 1) v1 aY bq (v1.length:Int));rw [<-R7 F (k+ 1) v1 aY bq];simp only [wh,a6,R7];simp only [bM]
 kernel_rfl)
noncomputable def aj1 (F:Nat):aT aR:=(ajZ F).rt 129 ⟨[.p (.l 120),.p (.l 120),.f 130 []],[],[.p (.b)],[],Bool,fun d=>Fz F d.1.1 d.1.2.1,fun d r=>((r,()),())⟩ fun ax aB=>by
 obtain ⟨(aY:List (List (List UInt8))),(v1:List (List (List UInt8))),_,_⟩:=ax
 conv=>rhs;simp only [Fz,a6,R7]
 kernel_rfl
noncomputable def Om (k:Nat) (bL:List J.Target) (b_:List J.Target) (cT:Int) (e2:Int):=c0 ((bL.length:Int)=e2/\True) (a9 (wj bL b_ k cT))
theorem R_ (k:Nat) (bL:List J.Target) (b_:List J.Target) (cT:Int):a9 (wj bL b_ k cT)=Om k bL b_ cT (bL.length:Int):=(dt ⟨rfl,trivial⟩).symm
noncomputable def aj2 (F:Nat):aT aR:=(aj1 F).bT 132 0 F ⟨[0,1,12,13],[.p (.l 166),.p (.l 166),.p (.i .i64),.p (.i .i64)],[],
 [⟨⟨.nm,[],[],[]⟩,Unit,fun d r=>((),())⟩,
  ⟨⟨.rt,[4],[.p (.b)],[]⟩,Bool,fun d r=>((r,()),())⟩],
 fun k d=>Om k d.1.1 d.1.2.1 d.1.2.2.2.1 d.1.2.2.1⟩ (bI.bS (fun d=>dr) fun k ax aB q h=>by
 obtain ⟨(aY:List J.Target),(v1:List J.Target),(v2:Int),(bq:Int),_⟩:=ax
 obtain ⟨aw,_⟩:=dT h
 dsimp only at aw
 obtain ⟨rfl,_⟩:=aw
 conv=>rhs;change Option.map (α:=Unit ⊕ Bool) _ (Om (k+ 1) aY v1 bq (aY.length:Int));rw [<-R_ (k+ 1) aY v1 bq];simp only [wj,a6,R_];simp only [bM]
 kernel_rfl)
noncomputable def aj3 (F:Nat):aT aR:=(aj2 F).rt 132 ⟨[.p (.l 166),.p (.l 166)],[],[.p (.b)],[],Bool,fun d=>FC F d.1.1 d.1.2.1,fun d r=>((r,()),())⟩ fun ax aB=>by
 obtain ⟨(aY:List J.Target),(v1:List J.Target),_⟩:=ax
 conv=>rhs;simp only [FC,a6,R_]
 kernel_rfl
noncomputable def Oi (F:Nat) (k:Nat) (bL:List (List J.Target)) (b_:List (List J.Target)) (fZ:Int) (e2:Int):=c0 ((bL.length:Int)=e2/\True) (a9 (wg F bL b_ k fZ))
theorem R6 (F:Nat) (k:Nat) (bL:List (List J.Target)) (b_:List (List J.Target)) (fZ:Int):a9 (wg F bL b_ k fZ)=Oi F k bL b_ fZ (bL.length:Int):=(dt ⟨rfl,trivial⟩).symm
noncomputable def aj4 (F:Nat):aT aR:=(aj3 F).bT 131 0 F ⟨[1,2,15,16,17],[.p (.l 121),.f 132 [],.p (.l 121),.p (.i .i64),.p (.i .i64)],[],
 [⟨⟨.nm,[],[],[]⟩,Unit,fun d r=>((),())⟩,
  ⟨⟨.rt,[6],[.p (.b)],[]⟩,Bool,fun d r=>((r,()),())⟩],
 fun k d=>Oi F k d.1.2.2.1 d.1.1 d.1.2.2.2.2.1 d.1.2.2.2.1⟩ (bI.bS (fun d=>dr) fun k ax aB q h=>by
 obtain ⟨(aY:List (List J.Target)),_,(v1:List (List J.Target)),(v2:Int),(bq:Int),_⟩:=ax
 obtain ⟨aw,_⟩:=dT h
 dsimp only at aw
 obtain ⟨rfl,_⟩:=aw
 conv=>rhs;change Option.map (α:=Unit ⊕ Bool) _ (Oi F (k+ 1) v1 aY bq (v1.length:Int));rw [<-R6 F (k+ 1) v1 aY bq];simp only [wg,a6,R6];simp only [bM]
 kernel_rfl)
noncomputable def aj5 (F:Nat):aT aR:=(aj4 F).rt 131 ⟨[.p (.l 121),.p (.l 121),.f 132 []],[],[.p (.b)],[],Bool,fun d=>Fy F d.1.1 d.1.2.1,fun d r=>((r,()),())⟩ fun ax aB=>by
 obtain ⟨(aY:List (List J.Target)),(v1:List (List J.Target)),_,_⟩:=ax
 conv=>rhs;simp only [Fy,a6,R6]
 kernel_rfl
noncomputable def aj6 (F:Nat):aT aR:=(aj5 F).rt 100 ⟨[gX,gX],[],[.p (.b)],[],Bool,fun d=>Br F (eQ d.1.1) (eQ d.1.2.1),fun d r=>((r,()),())⟩ fun ax aB=>by
 conv=>rhs;simp only [Br,a6]
 kernel_rfl
noncomputable def aj7 (F:Nat):aT aR:=(aj6 F).rt 64 ⟨[gX],[],[.p (.i .i64)],[],Int,fun d=>m' F (eQ d.1.1),fun d r=>((r,()),())⟩ fun ax aB=>by
 conv=>rhs;simp only [m',a6]
 kernel_rfl
noncomputable def aj8 (F:Nat):aT aR:=(aj7 F).rt 84 ⟨[.p (.i .i64),.p (.i .i64),.p (.i .i64)],[],[.p (.b)],[],Bool,fun d=>mW d.1.1 d.1.2.1 d.1.2.2.1,fun d r=>((r,()),())⟩ fun ax aB=>by
 conv=>rhs;simp only [mW,a6]
 kernel_rfl
noncomputable def aj9 (F:Nat):aT aR:=(aj8 F).rt 101 ⟨[io],[],[.p (.i .i64)],[],Int,fun d=>A9 (dF d.1.1),fun d r=>((r,()),())⟩ fun ax aB=>by
 conv=>rhs;simp only [A9,a6]
 kernel_rfl
noncomputable def aj_ (F:Nat):aT aR:=(aj9 F).rt 92 ⟨[gX,.p (.i .i64)],[],[.p (.b)],[],Bool,fun d=>st (gw d.1.1) d.1.2.1,fun d r=>((r,()),())⟩ fun ax aB=>by
 conv=>rhs;simp only [st,a6]
 kernel_rfl
noncomputable def aka (F:Nat):aT aR:=(aj_ F).rt 93 ⟨[gX,.p (.i .i64),.p (.i .i64)],[],[.p (.b)],[],Bool,fun d=>su (gw d.1.1) d.1.2.1 d.1.2.2.1,fun d r=>((r,()),())⟩ fun ax aB=>by
 conv=>rhs;simp only [su,a6]
 kernel_rfl
noncomputable def NL (k:Nat) (jd:Int) (aH:J.bc) (sT:List Int) (om:List (Int × Bool)) (lh:Int):=c0 (True) (a9 (mV jd aH k sT om lh))
theorem RB (k:Nat) (jd:Int) (aH:J.bc) (sT:List Int) (om:List (Int × Bool)) (lh:Int):a9 (mV jd aH k sT om lh)=NL k jd (⟨(⟨aH.H.Words,aH.H.ar,aH.H.aO,aH.H.aZ,aH.H.aU,aH.H.aS,aH.H.Next⟩:J.aV),(⟨(⟨aH.S.K.a4,aH.S.K.a0,aH.S.K.Fields,aH.S.K.Names,aH.S.K.a1⟩:J.aP)⟩:J.cb),aH.ar,aH.aO,[]⟩:J.bc) sT om lh:=(show a9 (mV jd aH k sT om lh)=a9 (mV jd (⟨(⟨aH.H.Words,aH.H.ar,aH.H.aO,aH.H.aZ,aH.H.aU,aH.H.aS,aH.H.Next⟩:J.aV),(⟨(⟨aH.S.K.a4,aH.S.K.a0,aH.S.K.Fields,aH.S.K.Names,aH.S.K.a1⟩:J.aP)⟩:J.cb),aH.ar,aH.aO,[]⟩:J.bc) k sT om lh) by kernel_rfl).trans (dt trivial).symm
noncomputable def akb (F:Nat):aT aR:=(aka F).bT 102 0 F ⟨[0,2,8,9],[.p (.B 0),.p (.i .i64),.p (.R 2),.p (.i .i64)],[fg,.m 3 4,.r 3 false],
 [⟨⟨.nm,[8],[.p (.R 2)],[fg,.m 3 4,.r 3 false]⟩,(List Int) × (List (Int × Bool)),fun d r=>(((),()),((d.2.1.1,d.2.1.2.1,d.2.1.2.2.1,d.2.1.2.2.2.1,d.2.1.2.2.2.2.1,d.2.1.2.2.2.2.2.1,d.2.1.2.2.2.2.2.2.1,d.2.1.2.2.2.2.2.2.2.1,d.2.1.2.2.2.2.2.2.2.2.1,d.2.1.2.2.2.2.2.2.2.2.2.1,d.2.1.2.2.2.2.2.2.2.2.2.2.1,d.2.1.2.2.2.2.2.2.2.2.2.2.2.1,d.2.1.2.2.2.2.2.2.2.2.2.2.2.2.1,d.2.1.2.2.2.2.2.2.2.2.2.2.2.2.2.1,(),()),r.2,r.1,()))⟩,
  ⟨⟨.rt,[6,7],[.p (.l 3),.p (.b)],[fg,.m 3 4,.d]⟩,(List Int) × Bool × J.bc,fun d r=>((r.1,r.2.1,()),((d.2.1.1,d.2.1.2.1,d.2.1.2.2.1,d.2.1.2.2.2.1,d.2.1.2.2.2.2.1,d.2.1.2.2.2.2.2.1,d.2.1.2.2.2.2.2.2.1,d.2.1.2.2.2.2.2.2.2.1,d.2.1.2.2.2.2.2.2.2.2.1,d.2.1.2.2.2.2.2.2.2.2.2.1,d.2.1.2.2.2.2.2.2.2.2.2.2.1,d.2.1.2.2.2.2.2.2.2.2.2.2.2.1,d.2.1.2.2.2.2.2.2.2.2.2.2.2.2.1,d.2.1.2.2.2.2.2.2.2.2.2.2.2.2.2.1,(),()),r.2.2.dM,(),()))⟩],
 fun k d=>NL k d.1.2.1 (⟨(dF d.2.1),(gw d.2.1.2.2.2.2.2.2.2),d.2.1.2.2.2.2.2.2.2.2.2.2.2.2.1,d.2.1.2.2.2.2.2.2.2.2.2.2.2.2.2.1,[]⟩:J.bc) d.2.2.2.1 d.2.2.1 d.1.2.2.2.1⟩ (bI.bS (fun d=>dr) fun k ax aB q h=>by
 obtain ⟨_,(aY:Int),_,(v1:Int),_⟩:=ax
 obtain ⟨⟨(v2:List Int),(bq:Int),(v4:Int),(bW:Int),(v6:Int),(cm:List Int),(cv:Int),(cB:List J.al),(v10:List Int),(v11:List (List J.Field)),(da:List (List (List UInt8))),(dG:List (List J.Target)),(dZ:List Int),(fq:List Int),_,_⟩,(fP:List (Int × Bool)),(g1:List Int),_⟩:=aB
 conv=>rhs;change Option.map (α:=((List Int) × (List (Int × Bool))) ⊕ ((List Int) × Bool × J.bc)) _ (NL (k+ 1) aY (⟨(⟨v2,bq,v4,bW,v6,cm,cv⟩:J.aV),(⟨(⟨cB,v10,v11,da,dG⟩:J.aP)⟩:J.cb),dZ,fq,[]⟩:J.bc) g1 fP v1);rw [<-RB (k+ 1) aY (⟨(⟨v2,bq,v4,bW,v6,cm,cv⟩:J.aV),(⟨(⟨cB,v10,v11,da,dG⟩:J.aP)⟩:J.cb),dZ,fq,[]⟩:J.bc) g1 fP v1];simp only [mV,a6,RB];simp only [bM]
 kernel_rfl)
noncomputable def akc (F:Nat):aT aR:=(akb F).rt 102 ⟨[.p (.B 0),.p (.i .i64),.p (.i .i64)],[fg,.m 3 4],[.p (.l 3),.p (.b)],[fg,.m 3 4],(List Int) × Bool × J.bc,fun d=>k4 F (⟨(dF d.2.1),(gw d.2.1.2.2.2.2.2.2.2),d.2.1.2.2.2.2.2.2.2.2.2.2.2.2.1,d.2.1.2.2.2.2.2.2.2.2.2.2.2.2.2.1,d.2.2.1⟩:J.bc) d.1.2.1 d.1.2.2.1,fun d r=>((r.1,r.2.1,()),((d.2.1.1,d.2.1.2.1,d.2.1.2.2.1,d.2.1.2.2.2.1,d.2.1.2.2.2.2.1,d.2.1.2.2.2.2.2.1,d.2.1.2.2.2.2.2.2.1,d.2.1.2.2.2.2.2.2.2.1,d.2.1.2.2.2.2.2.2.2.2.1,d.2.1.2.2.2.2.2.2.2.2.2.1,d.2.1.2.2.2.2.2.2.2.2.2.2.1,d.2.1.2.2.2.2.2.2.2.2.2.2.2.1,d.2.1.2.2.2.2.2.2.2.2.2.2.2.2.1,d.2.1.2.2.2.2.2.2.2.2.2.2.2.2.2.1,(),()),r.2.2.dM,()))⟩ fun ax aB=>by
 obtain ⟨_,(aY:Int),(v1:Int),_⟩:=ax
 obtain ⟨⟨(v2:List Int),(bq:Int),(v4:Int),(bW:Int),(v6:Int),(cm:List Int),(cv:Int),(cB:List J.al),(v10:List Int),(v11:List (List J.Field)),(da:List (List (List UInt8))),(dG:List (List J.Target)),(dZ:List Int),(fq:List Int),_,_⟩,(fP:List (Int × Bool)),_⟩:=aB
 conv=>rhs;simp only [k4,a6,RB]
 kernel_rfl
noncomputable def Of (k:Nat) (gZ:List (List Int)) (vE:Int) (vF:Int) (e2:List (List Int)) (e3:Int):=c0 ((gZ:List (List Int))=e2/\(gZ.length:Int)=e3/\True) (tz gZ k vE vF)
theorem R3 (k:Nat) (gZ:List (List Int)) (vE:Int) (vF:Int):tz gZ k vE vF=Of k gZ vE vF gZ (gZ.length:Int):=(dt ⟨rfl,rfl,trivial⟩).symm
noncomputable def akd (F:Nat):aT aR:=(akc F).bT 135 0 F ⟨[0,3,9,10,11],[.p (.l 22),.p (.i .i64),.p (.l 22),.p (.i .i64),.p (.i .i64)],[],
 [⟨⟨.nm,[0,3],[.p (.l 22),.p (.i .i64)],[]⟩,Int,fun d r=>((d.1.1,r,()),())⟩],
 fun k d=>Of k d.1.1 d.1.2.1 d.1.2.2.2.2.1 d.1.2.2.1 d.1.2.2.2.1⟩ (bI.bS (fun d=>dr) fun k ax aB q h=>by
 obtain ⟨(aY:List (List Int)),(v1:Int),(v2:List (List Int)),(bq:Int),(v4:Int),_⟩:=ax
 obtain ⟨aw,_⟩:=dT h
 dsimp only at aw
 obtain ⟨rfl,rfl,_⟩:=aw
 conv=>rhs;change Option.map (α:=Int) _ (Of (k+ 1) aY v1 v4 (aY) (aY.length:Int));rw [<-R3 (k+ 1) aY v1 v4];simp only [tz,a6,R3];simp only [bM]
 kernel_rfl)
noncomputable def Og (k:Nat) (gZ:List (List Int)) (y0:List Int) (vI:Int) (e1:Int):=c0 ((gZ.length:Int)=e1/\True) (tA gZ k y0 vI)
theorem R4 (k:Nat) (gZ:List (List Int)) (y0:List Int) (vI:Int):tA gZ k y0 vI=Og k gZ y0 vI (gZ.length:Int):=(dt ⟨rfl,trivial⟩).symm
noncomputable def ake (F:Nat):aT aR:=(akd F).bT 135 2 F ⟨[6,25,26,27],[.p (.R 0),.p (.l 22),.p (.i .i64),.p (.i .i64)],[.r 3 false],
 [⟨⟨.nm,[6],[.p (.R 0)],[.r 3 false]⟩,List Int,fun d r=>(((),()),(r,()))⟩],
 fun k d=>Og k d.1.2.1 d.2.1 d.1.2.2.2.1 d.1.2.2.1⟩ (bI.bS (fun d=>dr) fun k ax aB q h=>by
 obtain ⟨_,(aY:List (List Int)),(v1:Int),(v2:Int),_⟩:=ax
 obtain ⟨(bq:List Int),_⟩:=aB
 obtain ⟨aw,_⟩:=dT h
 dsimp only at aw
 obtain ⟨rfl,_⟩:=aw
 conv=>rhs;change Option.map (α:=List Int) _ (Og (k+ 1) aY bq v2 (aY.length:Int));rw [<-R4 (k+ 1) aY bq v2];simp only [tA,a6,R4];simp only [bM]
 kernel_rfl)
noncomputable def akf (F:Nat):aT aR:=(ake F).rt 135 ⟨[.p (.l 22)],[],[.p (.l 3)],[],List Int,fun d=>B8 F d.1.1,fun d r=>((r,()),())⟩ fun ax aB=>by
 obtain ⟨(aY:List (List Int)),_⟩:=ax
 conv=>rhs;simp only [B8,a6,R3,R4,Kj]
 kernel_rfl
noncomputable def akg (F:Nat):aT aR:=(akf F).rt 133 ⟨[.p (.B 0)],[fg,.m 3 4],[.p (.l 3)],[fg,.m 3 4],List Int,fun d=>uZ F (⟨(dF d.2.1),(gw d.2.1.2.2.2.2.2.2.2),d.2.1.2.2.2.2.2.2.2.2.2.2.2.2.1,d.2.1.2.2.2.2.2.2.2.2.2.2.2.2.2.1,d.2.2.1⟩:J.bc),fun d r=>((r,()),((d.2.1.1,d.2.1.2.1,d.2.1.2.2.1,d.2.1.2.2.2.1,d.2.1.2.2.2.2.1,d.2.1.2.2.2.2.2.1,d.2.1.2.2.2.2.2.2.1,d.2.1.2.2.2.2.2.2.2.1,d.2.1.2.2.2.2.2.2.2.2.1,d.2.1.2.2.2.2.2.2.2.2.2.1,d.2.1.2.2.2.2.2.2.2.2.2.2.1,d.2.1.2.2.2.2.2.2.2.2.2.2.2.1,d.2.1.2.2.2.2.2.2.2.2.2.2.2.2.1,d.2.1.2.2.2.2.2.2.2.2.2.2.2.2.2.1,(),()),d.2.2.1,()))⟩ fun ax aB=>by
 conv=>rhs;simp only [uZ,a6]
 kernel_rfl
noncomputable def NI (k:Nat) (aH:J.bc) (gY:List Int) (y':List (Int × Bool)) (vW:Int) (e1:Int):=c0 ((gY.length:Int)=e1/\True) (a9 (sw aH gY k y' vW))
theorem Ry (k:Nat) (aH:J.bc) (gY:List Int) (y':List (Int × Bool)) (vW:Int):a9 (sw aH gY k y' vW)=NI k aH gY y' vW (gY.length:Int):=(dt ⟨rfl,trivial⟩).symm
noncomputable def akh (F:Nat):aT aR:=(akg F).bT 103 0 F ⟨[0,3,9,10,11],[.p (.B 0),.p (.M 2),.p (.l 3),.p (.i .i64),.p (.i .i64)],[fg,.m 3 4,.m 3 4],
 [⟨⟨.nm,[0,3],[.p (.B 0),.p (.M 2)],[fg,.m 3 4,.m 3 4]⟩,List (Int × Bool),fun d r=>(((),(),()),((d.2.1.1,d.2.1.2.1,d.2.1.2.2.1,d.2.1.2.2.2.1,d.2.1.2.2.2.2.1,d.2.1.2.2.2.2.2.1,d.2.1.2.2.2.2.2.2.1,d.2.1.2.2.2.2.2.2.2.1,d.2.1.2.2.2.2.2.2.2.2.1,d.2.1.2.2.2.2.2.2.2.2.2.1,d.2.1.2.2.2.2.2.2.2.2.2.2.1,d.2.1.2.2.2.2.2.2.2.2.2.2.2.1,d.2.1.2.2.2.2.2.2.2.2.2.2.2.2.1,d.2.1.2.2.2.2.2.2.2.2.2.2.2.2.2.1,(),()),d.2.2.1,r,()))⟩,
  ⟨⟨.rt,[2],[.p (.i .i64)],[fg,.m 3 4,.d]⟩,Int,fun d r=>((r,()),((d.2.1.1,d.2.1.2.1,d.2.1.2.2.1,d.2.1.2.2.2.1,d.2.1.2.2.2.2.1,d.2.1.2.2.2.2.2.1,d.2.1.2.2.2.2.2.2.1,d.2.1.2.2.2.2.2.2.2.1,d.2.1.2.2.2.2.2.2.2.2.1,d.2.1.2.2.2.2.2.2.2.2.2.1,d.2.1.2.2.2.2.2.2.2.2.2.2.1,d.2.1.2.2.2.2.2.2.2.2.2.2.2.1,d.2.1.2.2.2.2.2.2.2.2.2.2.2.2.1,d.2.1.2.2.2.2.2.2.2.2.2.2.2.2.2.1,(),()),d.2.2.1,(),()))⟩],
 fun k d=>NI k (⟨(dF d.2.1),(gw d.2.1.2.2.2.2.2.2.2),d.2.1.2.2.2.2.2.2.2.2.2.2.2.2.1,d.2.1.2.2.2.2.2.2.2.2.2.2.2.2.2.1,d.2.2.1⟩:J.bc) d.1.2.2.1 d.2.2.2.1 d.1.2.2.2.2.1 d.1.2.2.2.1⟩ (bI.bS (fun d=>dr) fun k ax aB q h=>by
 obtain ⟨_,_,(aY:List Int),(v1:Int),(v2:Int),_⟩:=ax
 obtain ⟨⟨(bq:List Int),(v4:Int),(bW:Int),(v6:Int),(cm:Int),(cv:List Int),(cB:Int),(v10:List J.al),(v11:List Int),(da:List (List J.Field)),(dG:List (List (List UInt8))),(dZ:List (List J.Target)),(fq:List Int),(fP:List Int),_,_⟩,(g1:List (Int × Bool)),(lr:List (Int × Bool)),_⟩:=aB
 obtain ⟨aw,_⟩:=dT h
 dsimp only at aw
 obtain ⟨rfl,_⟩:=aw
 conv=>rhs;change Option.map (α:=(List (Int × Bool)) ⊕ Int) _ (NI (k+ 1) (⟨(⟨bq,v4,bW,v6,cm,cv,cB⟩:J.aV),(⟨(⟨v10,v11,da,dG,dZ⟩:J.aP)⟩:J.cb),fq,fP,g1⟩:J.bc) aY lr v2 (aY.length:Int));rw [<-Ry (k+ 1) (⟨(⟨bq,v4,bW,v6,cm,cv,cB⟩:J.aV),(⟨(⟨v10,v11,da,dG,dZ⟩:J.aP)⟩:J.cb),fq,fP,g1⟩:J.bc) aY lr v2];simp only [sw,a6,Ry];simp only [bM]
 kernel_rfl)
noncomputable def aki (F:Nat):aT aR:=(akh F).rt 103 ⟨[.p (.B 0)],[fg,.m 3 4],[.p (.i .i64)],[fg,.m 3 4],Int,fun d=>A6 F (⟨(dF d.2.1),(gw d.2.1.2.2.2.2.2.2.2),d.2.1.2.2.2.2.2.2.2.2.2.2.2.2.1,d.2.1.2.2.2.2.2.2.2.2.2.2.2.2.2.1,d.2.2.1⟩:J.bc),fun d r=>((r,()),((d.2.1.1,d.2.1.2.1,d.2.1.2.2.1,d.2.1.2.2.2.1,d.2.1.2.2.2.2.1,d.2.1.2.2.2.2.2.1,d.2.1.2.2.2.2.2.2.1,d.2.1.2.2.2.2.2.2.2.1,d.2.1.2.2.2.2.2.2.2.2.1,d.2.1.2.2.2.2.2.2.2.2.2.1,d.2.1.2.2.2.2.2.2.2.2.2.2.1,d.2.1.2.2.2.2.2.2.2.2.2.2.2.1,d.2.1.2.2.2.2.2.2.2.2.2.2.2.2.1,d.2.1.2.2.2.2.2.2.2.2.2.2.2.2.2.1,(),()),d.2.2.1,()))⟩ fun ax aB=>by
 obtain ⟨_,_⟩:=ax
 obtain ⟨⟨(aY:List Int),(v1:Int),(v2:Int),(bq:Int),(v4:Int),(bW:List Int),(v6:Int),(cm:List J.al),(cv:List Int),(cB:List (List J.Field)),(v10:List (List (List UInt8))),(v11:List (List J.Target)),(da:List Int),(dG:List Int),_,_⟩,(dZ:List (Int × Bool)),_⟩:=aB
 conv=>rhs;simp only [A6,a6,Ry]
 kernel_rfl
noncomputable def akj (F:Nat):aT aR:=(aki F).rt 99 ⟨[gX,.p (.i .i64),.p (.i .i64)],[],[.p (.b)],[],Bool,fun d=>uY (gw d.1.1) d.1.2.1 d.1.2.2.1,fun d r=>((r,()),())⟩ fun ax aB=>by
 conv=>rhs;simp only [uY,a6]
 kernel_rfl
noncomputable def akl (F:Nat):aT aR:=(akj F).bT 134 0 F ⟨[0,1,5,15,16],[.p (.B 0),.p (.i .i64),.p (.R 2),.p (.i .i64),.p (.i .i64)],[fg,.m 3 4,.r 3 false],
 [⟨⟨.nm,[5],[.p (.R 2)],[fg,.m 3 4,.r 3 false]⟩,List Int,fun d r=>(((),()),((d.2.1.1,d.2.1.2.1,d.2.1.2.2.1,d.2.1.2.2.2.1,d.2.1.2.2.2.2.1,d.2.1.2.2.2.2.2.1,d.2.1.2.2.2.2.2.2.1,d.2.1.2.2.2.2.2.2.2.1,d.2.1.2.2.2.2.2.2.2.2.1,d.2.1.2.2.2.2.2.2.2.2.2.1,d.2.1.2.2.2.2.2.2.2.2.2.2.1,d.2.1.2.2.2.2.2.2.2.2.2.2.2.1,d.2.1.2.2.2.2.2.2.2.2.2.2.2.2.1,d.2.1.2.2.2.2.2.2.2.2.2.2.2.2.2.1,(),()),d.2.2.1,r,()))⟩],
 fun k d=>sv d.1.2.1 (⟨(dF d.2.1),(gw d.2.1.2.2.2.2.2.2.2),d.2.1.2.2.2.2.2.2.2.2.2.2.2.2.1,d.2.1.2.2.2.2.2.2.2.2.2.2.2.2.2.1,d.2.2.1⟩:J.bc) d.1.2.2.2.1 k d.2.2.2.1 d.1.2.2.2.2.1⟩ (bI.bS (fun d=>rfl) fun k ax aB q h=>by
 conv=>rhs;simp only [sv,a6];simp only [bM]
 kernel_rfl)
noncomputable def akm (F:Nat):aT aR:=(akl F).rt 134 ⟨[.p (.B 0),.p (.i .i64)],[fg,.m 3 4],[.p (.l 3)],[fg,.m 3 4],List Int,fun d=>n7 F (⟨(dF d.2.1),(gw d.2.1.2.2.2.2.2.2.2),d.2.1.2.2.2.2.2.2.2.2.2.2.2.2.1,d.2.1.2.2.2.2.2.2.2.2.2.2.2.2.2.1,d.2.2.1⟩:J.bc) d.1.2.1,fun d r=>((r,()),((d.2.1.1,d.2.1.2.1,d.2.1.2.2.1,d.2.1.2.2.2.1,d.2.1.2.2.2.2.1,d.2.1.2.2.2.2.2.1,d.2.1.2.2.2.2.2.2.1,d.2.1.2.2.2.2.2.2.2.1,d.2.1.2.2.2.2.2.2.2.2.1,d.2.1.2.2.2.2.2.2.2.2.2.1,d.2.1.2.2.2.2.2.2.2.2.2.2.1,d.2.1.2.2.2.2.2.2.2.2.2.2.2.1,d.2.1.2.2.2.2.2.2.2.2.2.2.2.2.1,d.2.1.2.2.2.2.2.2.2.2.2.2.2.2.2.1,(),()),d.2.2.1,()))⟩ fun ax aB=>by
 conv=>rhs;simp only [n7,a6]
 kernel_rfl
noncomputable def akn (F:Nat):aT aR:=(akm F).rt 136 ⟨[.p (.i .i64)],[],[.p (.b)],[],Bool,fun d=>OW d.1.1,fun d r=>((r,()),())⟩ fun ax aB=>by
 conv=>rhs;simp only [OW,a6]
 kernel_rfl
noncomputable def ako (F:Nat):aT aR:=(akn F).rt 137 ⟨[.p (.B 0),.p (.i .i64)],[fg,.m 3 4],[.p (.b)],[fg,.m 3 4],Bool,fun d=>A5 (⟨(dF d.2.1),(gw d.2.1.2.2.2.2.2.2.2),d.2.1.2.2.2.2.2.2.2.2.2.2.2.2.1,d.2.1.2.2.2.2.2.2.2.2.2.2.2.2.2.1,d.2.2.1⟩:J.bc) d.1.2.1,fun d r=>((r,()),((d.2.1.1,d.2.1.2.1,d.2.1.2.2.1,d.2.1.2.2.2.1,d.2.1.2.2.2.2.1,d.2.1.2.2.2.2.2.1,d.2.1.2.2.2.2.2.2.1,d.2.1.2.2.2.2.2.2.2.1,d.2.1.2.2.2.2.2.2.2.2.1,d.2.1.2.2.2.2.2.2.2.2.2.1,d.2.1.2.2.2.2.2.2.2.2.2.2.1,d.2.1.2.2.2.2.2.2.2.2.2.2.2.1,d.2.1.2.2.2.2.2.2.2.2.2.2.2.2.1,d.2.1.2.2.2.2.2.2.2.2.2.2.2.2.2.1,(),()),d.2.2.1,()))⟩ fun ax aB=>by
 conv=>rhs;simp only [A5,a6]
 kernel_rfl
noncomputable def akp (F:Nat):aT aR:=(ako F).rt 139 ⟨[.p (.i .i64),.p (.B 0)],[.c 60 [.B 1],hC,.m 3 4],[.p (.b)],[.c 60 [.B 1],hC,.m 3 4],Bool,fun d=>H8 d.1.1 (⟨(dF d.2.2.1),(gw d.2.2.1.2.2.2.2.2.2.2),d.2.2.1.2.2.2.2.2.2.2.2.2.2.2.2.1,d.2.2.1.2.2.2.2.2.2.2.2.2.2.2.2.2.1,d.2.2.2.1⟩:J.bc),fun d r=>((r,()),(((),()),(d.2.2.1.1,d.2.2.1.2.1,d.2.2.1.2.2.1,d.2.2.1.2.2.2.1,d.2.2.1.2.2.2.2.1,d.2.2.1.2.2.2.2.2.1,d.2.2.1.2.2.2.2.2.2.1,d.2.2.1.2.2.2.2.2.2.2.1,d.2.2.1.2.2.2.2.2.2.2.2.1,d.2.2.1.2.2.2.2.2.2.2.2.2.1,d.2.2.1.2.2.2.2.2.2.2.2.2.2.1,d.2.2.1.2.2.2.2.2.2.2.2.2.2.2.1,d.2.2.1.2.2.2.2.2.2.2.2.2.2.2.2.1,d.2.2.1.2.2.2.2.2.2.2.2.2.2.2.2.2.1,(),()),d.2.2.2.1,()))⟩ fun ax aB=>by
 conv=>rhs;simp only [H8,a6]
 kernel_rfl
noncomputable def akq (F:Nat):aT aR:=(akp F).rt 68 ⟨[.p (.B 0),.p (.i .i64)],[fg,.m 3 4],[.p (.b)],[fg,.m 3 4],Bool,fun d=>A4 (⟨(dF d.2.1),(gw d.2.1.2.2.2.2.2.2.2),d.2.1.2.2.2.2.2.2.2.2.2.2.2.2.1,d.2.1.2.2.2.2.2.2.2.2.2.2.2.2.2.1,d.2.2.1⟩:J.bc) d.1.2.1,fun d r=>((r,()),((d.2.1.1,d.2.1.2.1,d.2.1.2.2.1,d.2.1.2.2.2.1,d.2.1.2.2.2.2.1,d.2.1.2.2.2.2.2.1,d.2.1.2.2.2.2.2.2.1,d.2.1.2.2.2.2.2.2.2.1,d.2.1.2.2.2.2.2.2.2.2.1,d.2.1.2.2.2.2.2.2.2.2.2.1,d.2.1.2.2.2.2.2.2.2.2.2.2.1,d.2.1.2.2.2.2.2.2.2.2.2.2.2.1,d.2.1.2.2.2.2.2.2.2.2.2.2.2.2.1,d.2.1.2.2.2.2.2.2.2.2.2.2.2.2.2.1,(),()),d.2.2.1,()))⟩ fun ax aB=>by
 conv=>rhs;simp only [A4,a6]
 kernel_rfl
noncomputable def akr (F:Nat):aT aR:=(akq F).rt 67 ⟨[.p (.i .i64),.p (.B 0)],[.c 60 [.B 1],hC,.m 3 4],[.p (.b)],[.c 60 [.B 1],hC,.m 3 4],Bool,fun d=>LK d.1.1 (⟨(dF d.2.2.1),(gw d.2.2.1.2.2.2.2.2.2.2),d.2.2.1.2.2.2.2.2.2.2.2.2.2.2.2.1,d.2.2.1.2.2.2.2.2.2.2.2.2.2.2.2.2.1,d.2.2.2.1⟩:J.bc),fun d r=>((r,()),(((),()),(d.2.2.1.1,d.2.2.1.2.1,d.2.2.1.2.2.1,d.2.2.1.2.2.2.1,d.2.2.1.2.2.2.2.1,d.2.2.1.2.2.2.2.2.1,d.2.2.1.2.2.2.2.2.2.1,d.2.2.1.2.2.2.2.2.2.2.1,d.2.2.1.2.2.2.2.2.2.2.2.1,d.2.2.1.2.2.2.2.2.2.2.2.2.1,d.2.2.1.2.2.2.2.2.2.2.2.2.2.1,d.2.2.1.2.2.2.2.2.2.2.2.2.2.2.1,d.2.2.1.2.2.2.2.2.2.2.2.2.2.2.2.1,d.2.2.1.2.2.2.2.2.2.2.2.2.2.2.2.2.1,(),()),d.2.2.2.1,()))⟩ fun ax aB=>by
 conv=>rhs;simp only [LK,a6]
 kernel_rfl
noncomputable def Ot (k:Nat) (s_:List Int) (tp:Int) (e1:Int):=c0 ((s_.length:Int)=e1/\True) (a9 (wo s_ k tp))
theorem Sc (k:Nat) (s_:List Int) (tp:Int):a9 (wo s_ k tp)=Ot k s_ tp (s_.length:Int):=(dt ⟨rfl,trivial⟩).symm
noncomputable def aks (F:Nat):aT aR:=(akr F).bT 106 0 F ⟨[0,1,7,8],[.p (.l 3),.f 136 [],.p (.i .i64),.p (.i .i64)],[],
 [⟨⟨.nm,[],[],[]⟩,Unit,fun d r=>((),())⟩,
  ⟨⟨.rt,[4],[.p (.i .i64)],[]⟩,Int,fun d r=>((r,()),())⟩],
 fun k d=>Ot k d.1.1 d.1.2.2.2.1 d.1.2.2.1⟩ (bI.bS (fun d=>dr) fun k ax aB q h=>by
 obtain ⟨(aY:List Int),_,(v1:Int),(v2:Int),_⟩:=ax
 obtain ⟨aw,_⟩:=dT h
 dsimp only at aw
 obtain ⟨rfl,_⟩:=aw
 conv=>rhs;change Option.map (α:=Unit ⊕ Int) _ (Ot (k+ 1) aY v2 (aY.length:Int));rw [<-Sc (k+ 1) aY v2];simp only [wo,a6,Sc];simp only [bM]
 kernel_rfl)
noncomputable def akt (F:Nat):aT aR:=(aks F).rt 106 ⟨[.p (.l 3),.f 136 []],[],[.p (.i .i64)],[],Int,fun d=>Kl F d.1.1,fun d r=>((r,()),())⟩ fun ax aB=>by
 obtain ⟨(aY:List Int),_,_⟩:=ax
 conv=>rhs;simp only [Kl,a6,Sc]
 kernel_rfl
noncomputable def Oq (k:Nat) (s_:List Int) (cl:J.bc) (jr:Int) (e1:Int):=c0 ((s_.length:Int)=e1/\True) (a9 (wm s_ cl k jr))
theorem Sb (k:Nat) (s_:List Int) (cl:J.bc) (jr:Int):a9 (wm s_ cl k jr)=Oq k s_ cl jr (s_.length:Int):=(dt ⟨rfl,trivial⟩).symm
noncomputable def aku (F:Nat):aT aR:=(akt F).EJ 106 0 F ⟨[0,1,7,8],[.p (.l 3),.f 139 [.B 0],.p (.i .i64),.p (.i .i64)],[.c 60 [.B 1],hC,.m 3 4],
 [⟨⟨.nm,[],[],[.c 60 [.B 1],hC,.m 3 4]⟩,Unit,fun d r=>((),(((),()),(d.2.2.1.1,d.2.2.1.2.1,d.2.2.1.2.2.1,d.2.2.1.2.2.2.1,d.2.2.1.2.2.2.2.1,d.2.2.1.2.2.2.2.2.1,d.2.2.1.2.2.2.2.2.2.1,d.2.2.1.2.2.2.2.2.2.2.1,d.2.2.1.2.2.2.2.2.2.2.2.1,d.2.2.1.2.2.2.2.2.2.2.2.2.1,d.2.2.1.2.2.2.2.2.2.2.2.2.2.1,d.2.2.1.2.2.2.2.2.2.2.2.2.2.2.1,d.2.2.1.2.2.2.2.2.2.2.2.2.2.2.2.1,d.2.2.1.2.2.2.2.2.2.2.2.2.2.2.2.2.1,(),()),d.2.2.2.1,()))⟩,
  ⟨⟨.rt,[4],[.p (.i .i64)],[.c 60 [.B 1],hC,.m 3 4]⟩,Int,fun d r=>((r,()),(((),()),(d.2.2.1.1,d.2.2.1.2.1,d.2.2.1.2.2.1,d.2.2.1.2.2.2.1,d.2.2.1.2.2.2.2.1,d.2.2.1.2.2.2.2.2.1,d.2.2.1.2.2.2.2.2.2.1,d.2.2.1.2.2.2.2.2.2.2.1,d.2.2.1.2.2.2.2.2.2.2.2.1,d.2.2.1.2.2.2.2.2.2.2.2.2.1,d.2.2.1.2.2.2.2.2.2.2.2.2.2.1,d.2.2.1.2.2.2.2.2.2.2.2.2.2.2.1,d.2.2.1.2.2.2.2.2.2.2.2.2.2.2.2.1,d.2.2.1.2.2.2.2.2.2.2.2.2.2.2.2.2.1,(),()),d.2.2.2.1,()))⟩],
 fun k d=>Oq k d.1.1 (⟨(dF d.2.2.1),(gw d.2.2.1.2.2.2.2.2.2.2),d.2.2.1.2.2.2.2.2.2.2.2.2.2.2.2.1,d.2.2.1.2.2.2.2.2.2.2.2.2.2.2.2.2.1,d.2.2.2.1⟩:J.bc) d.1.2.2.2.1 d.1.2.2.1⟩ (bI.bS (fun d=>dr) fun k ax aB q h=>by
 obtain ⟨(aY:List Int),⟨_,_⟩,(v1:Int),(v2:Int),_⟩:=ax
 obtain ⟨⟨_,_⟩,⟨(bq:List Int),(v4:Int),(bW:Int),(v6:Int),(cm:Int),(cv:List Int),(cB:Int),(v10:List J.al),(v11:List Int),(da:List (List J.Field)),(dG:List (List (List UInt8))),(dZ:List (List J.Target)),(fq:List Int),(fP:List Int),_,_⟩,(g1:List (Int × Bool)),_⟩:=aB
 obtain ⟨aw,_⟩:=dT h
 dsimp only at aw
 obtain ⟨rfl,_⟩:=aw
 conv=>rhs;change Option.map (α:=Unit ⊕ Int) _ (Oq (k+ 1) aY (⟨(⟨bq,v4,bW,v6,cm,cv,cB⟩:J.aV),(⟨(⟨v10,v11,da,dG,dZ⟩:J.aP)⟩:J.cb),fq,fP,g1⟩:J.bc) v2 (aY.length:Int));rw [<-Sb (k+ 1) aY (⟨(⟨bq,v4,bW,v6,cm,cv,cB⟩:J.aV),(⟨(⟨v10,v11,da,dG,dZ⟩:J.aP)⟩:J.cb),fq,fP,g1⟩:J.bc) v2];simp only [wm,a6,Sb];simp only [bM]
 kernel_rfl)
noncomputable def akw (F:Nat):aT aR:=(aku F).yc 106 ⟨[.p (.l 3),.f 139 [.B 0]],[.c 60 [.B 1],hC,.m 3 4],[.p (.i .i64)],[.c 60 [.B 1],hC,.m 3 4],Int,fun d=>Kk F d.1.1 (⟨(dF d.2.2.1),(gw d.2.2.1.2.2.2.2.2.2.2),d.2.2.1.2.2.2.2.2.2.2.2.2.2.2.2.1,d.2.2.1.2.2.2.2.2.2.2.2.2.2.2.2.2.1,d.2.2.2.1⟩:J.bc),fun d r=>((r,()),(((),()),(d.2.2.1.1,d.2.2.1.2.1,d.2.2.1.2.2.1,d.2.2.1.2.2.2.1,d.2.2.1.2.2.2.2.1,d.2.2.1.2.2.2.2.2.1,d.2.2.1.2.2.2.2.2.2.1,d.2.2.1.2.2.2.2.2.2.2.1,d.2.2.1.2.2.2.2.2.2.2.2.1,d.2.2.1.2.2.2.2.2.2.2.2.2.1,d.2.2.1.2.2.2.2.2.2.2.2.2.2.1,d.2.2.1.2.2.2.2.2.2.2.2.2.2.2.1,d.2.2.1.2.2.2.2.2.2.2.2.2.2.2.2.1,d.2.2.1.2.2.2.2.2.2.2.2.2.2.2.2.2.1,(),()),d.2.2.2.1,()))⟩ fun ax aB=>by
 obtain ⟨(aY:List Int),⟨_,_⟩,_⟩:=ax
 obtain ⟨⟨_,_⟩,⟨(v1:List Int),(v2:Int),(bq:Int),(v4:Int),(bW:Int),(v6:List Int),(cm:Int),(cv:List J.al),(cB:List Int),(v10:List (List J.Field)),(v11:List (List (List UInt8))),(da:List (List J.Target)),(dG:List Int),(dZ:List Int),_,_⟩,(fq:List (Int × Bool)),_⟩:=aB
 conv=>rhs;simp only [Kk,a6,Sb]
 kernel_rfl
noncomputable def Ou (k:Nat) (s_:List Int) (cl:J.bc) (jr:Int) (e1:Int):=c0 ((s_.length:Int)=e1/\True) (a9 (wq s_ cl k jr))
theorem Sd (k:Nat) (s_:List Int) (cl:J.bc) (jr:Int):a9 (wq s_ cl k jr)=Ou k s_ cl jr (s_.length:Int):=(dt ⟨rfl,trivial⟩).symm
noncomputable def akx (F:Nat):aT aR:=(akw F).EJ 106 0 F ⟨[0,1,7,8],[.p (.l 3),.f 67 [.B 0],.p (.i .i64),.p (.i .i64)],[.c 60 [.B 1],hC,.m 3 4],
 [⟨⟨.nm,[],[],[.c 60 [.B 1],hC,.m 3 4]⟩,Unit,fun d r=>((),(((),()),(d.2.2.1.1,d.2.2.1.2.1,d.2.2.1.2.2.1,d.2.2.1.2.2.2.1,d.2.2.1.2.2.2.2.1,d.2.2.1.2.2.2.2.2.1,d.2.2.1.2.2.2.2.2.2.1,d.2.2.1.2.2.2.2.2.2.2.1,d.2.2.1.2.2.2.2.2.2.2.2.1,d.2.2.1.2.2.2.2.2.2.2.2.2.1,d.2.2.1.2.2.2.2.2.2.2.2.2.2.1,d.2.2.1.2.2.2.2.2.2.2.2.2.2.2.1,d.2.2.1.2.2.2.2.2.2.2.2.2.2.2.2.1,d.2.2.1.2.2.2.2.2.2.2.2.2.2.2.2.2.1,(),()),d.2.2.2.1,()))⟩,
  ⟨⟨.rt,[4],[.p (.i .i64)],[.c 60 [.B 1],hC,.m 3 4]⟩,Int,fun d r=>((r,()),(((),()),(d.2.2.1.1,d.2.2.1.2.1,d.2.2.1.2.2.1,d.2.2.1.2.2.2.1,d.2.2.1.2.2.2.2.1,d.2.2.1.2.2.2.2.2.1,d.2.2.1.2.2.2.2.2.2.1,d.2.2.1.2.2.2.2.2.2.2.1,d.2.2.1.2.2.2.2.2.2.2.2.1,d.2.2.1.2.2.2.2.2.2.2.2.2.1,d.2.2.1.2.2.2.2.2.2.2.2.2.2.1,d.2.2.1.2.2.2.2.2.2.2.2.2.2.2.1,d.2.2.1.2.2.2.2.2.2.2.2.2.2.2.2.1,d.2.2.1.2.2.2.2.2.2.2.2.2.2.2.2.2.1,(),()),d.2.2.2.1,()))⟩],
 fun k d=>Ou k d.1.1 (⟨(dF d.2.2.1),(gw d.2.2.1.2.2.2.2.2.2.2),d.2.2.1.2.2.2.2.2.2.2.2.2.2.2.2.1,d.2.2.1.2.2.2.2.2.2.2.2.2.2.2.2.2.1,d.2.2.2.1⟩:J.bc) d.1.2.2.2.1 d.1.2.2.1⟩ (bI.bS (fun d=>dr) fun k ax aB q h=>by
 obtain ⟨(aY:List Int),⟨_,_⟩,(v1:Int),(v2:Int),_⟩:=ax
 obtain ⟨⟨_,_⟩,⟨(bq:List Int),(v4:Int),(bW:Int),(v6:Int),(cm:Int),(cv:List Int),(cB:Int),(v10:List J.al),(v11:List Int),(da:List (List J.Field)),(dG:List (List (List UInt8))),(dZ:List (List J.Target)),(fq:List Int),(fP:List Int),_,_⟩,(g1:List (Int × Bool)),_⟩:=aB
 obtain ⟨aw,_⟩:=dT h
 dsimp only at aw
 obtain ⟨rfl,_⟩:=aw
 conv=>rhs;change Option.map (α:=Unit ⊕ Int) _ (Ou (k+ 1) aY (⟨(⟨bq,v4,bW,v6,cm,cv,cB⟩:J.aV),(⟨(⟨v10,v11,da,dG,dZ⟩:J.aP)⟩:J.cb),fq,fP,g1⟩:J.bc) v2 (aY.length:Int));rw [<-Sd (k+ 1) aY (⟨(⟨bq,v4,bW,v6,cm,cv,cB⟩:J.aV),(⟨(⟨v10,v11,da,dG,dZ⟩:J.aP)⟩:J.cb),fq,fP,g1⟩:J.bc) v2];simp only [wq,a6,Sd];simp only [bM]
 kernel_rfl)
noncomputable def aky (F:Nat):aT aR:=(akx F).yc 106 ⟨[.p (.l 3),.f 67 [.B 0]],[.c 60 [.B 1],hC,.m 3 4],[.p (.i .i64)],[.c 60 [.B 1],hC,.m 3 4],Int,fun d=>Km F d.1.1 (⟨(dF d.2.2.1),(gw d.2.2.1.2.2.2.2.2.2.2),d.2.2.1.2.2.2.2.2.2.2.2.2.2.2.2.1,d.2.2.1.2.2.2.2.2.2.2.2.2.2.2.2.2.1,d.2.2.2.1⟩:J.bc),fun d r=>((r,()),(((),()),(d.2.2.1.1,d.2.2.1.2.1,d.2.2.1.2.2.1,d.2.2.1.2.2.2.1,d.2.2.1.2.2.2.2.1,d.2.2.1.2.2.2.2.2.1,d.2.2.1.2.2.2.2.2.2.1,d.2.2.1.2.2.2.2.2.2.2.1,d.2.2.1.2.2.2.2.2.2.2.2.1,d.2.2.1.2.2.2.2.2.2.2.2.2.1,d.2.2.1.2.2.2.2.2.2.2.2.2.2.1,d.2.2.1.2.2.2.2.2.2.2.2.2.2.2.1,d.2.2.1.2.2.2.2.2.2.2.2.2.2.2.2.1,d.2.2.1.2.2.2.2.2.2.2.2.2.2.2.2.2.1,(),()),d.2.2.2.1,()))⟩ fun ax aB=>by
 obtain ⟨(aY:List Int),⟨_,_⟩,_⟩:=ax
 obtain ⟨⟨_,_⟩,⟨(v1:List Int),(v2:Int),(bq:Int),(v4:Int),(bW:Int),(v6:List Int),(cm:Int),(cv:List J.al),(cB:List Int),(v10:List (List J.Field)),(v11:List (List (List UInt8))),(da:List (List J.Target)),(dG:List Int),(dZ:List Int),_,_⟩,(fq:List (Int × Bool)),_⟩:=aB
 conv=>rhs;simp only [Km,a6,Sd]
 kernel_rfl
noncomputable def akz (F:Nat):aT aR:=(aky F).rt 66 ⟨[.p (.l 3),.f 136 []],[],[.p (.b)],[],Bool,fun d=>Kh F d.1.1,fun d r=>((r,()),())⟩ fun ax aB=>by
 conv=>rhs;simp only [Kh,a6]
 kernel_rfl
noncomputable def akA (F:Nat):aT aR:=(akz F).yc 66 ⟨[.p (.l 3),.f 139 [.B 0]],[.c 60 [.B 1],hC,.m 3 4],[.p (.b)],[.c 60 [.B 1],hC,.m 3 4],Bool,fun d=>Kg F d.1.1 (⟨(dF d.2.2.1),(gw d.2.2.1.2.2.2.2.2.2.2),d.2.2.1.2.2.2.2.2.2.2.2.2.2.2.2.1,d.2.2.1.2.2.2.2.2.2.2.2.2.2.2.2.2.1,d.2.2.2.1⟩:J.bc),fun d r=>((r,()),(((),()),(d.2.2.1.1,d.2.2.1.2.1,d.2.2.1.2.2.1,d.2.2.1.2.2.2.1,d.2.2.1.2.2.2.2.1,d.2.2.1.2.2.2.2.2.1,d.2.2.1.2.2.2.2.2.2.1,d.2.2.1.2.2.2.2.2.2.2.1,d.2.2.1.2.2.2.2.2.2.2.2.1,d.2.2.1.2.2.2.2.2.2.2.2.2.1,d.2.2.1.2.2.2.2.2.2.2.2.2.2.1,d.2.2.1.2.2.2.2.2.2.2.2.2.2.2.1,d.2.2.1.2.2.2.2.2.2.2.2.2.2.2.2.1,d.2.2.1.2.2.2.2.2.2.2.2.2.2.2.2.2.1,(),()),d.2.2.2.1,()))⟩ fun ax aB=>by
 conv=>rhs;simp only [Kg,a6]
 kernel_rfl
noncomputable def akB (F:Nat):aT aR:=(akA F).yc 66 ⟨[.p (.l 3),.f 67 [.B 0]],[.c 60 [.B 1],hC,.m 3 4],[.p (.b)],[.c 60 [.B 1],hC,.m 3 4],Bool,fun d=>Ki F d.1.1 (⟨(dF d.2.2.1),(gw d.2.2.1.2.2.2.2.2.2.2),d.2.2.1.2.2.2.2.2.2.2.2.2.2.2.2.1,d.2.2.1.2.2.2.2.2.2.2.2.2.2.2.2.2.1,d.2.2.2.1⟩:J.bc),fun d r=>((r,()),(((),()),(d.2.2.1.1,d.2.2.1.2.1,d.2.2.1.2.2.1,d.2.2.1.2.2.2.1,d.2.2.1.2.2.2.2.1,d.2.2.1.2.2.2.2.2.1,d.2.2.1.2.2.2.2.2.2.1,d.2.2.1.2.2.2.2.2.2.2.1,d.2.2.1.2.2.2.2.2.2.2.2.1,d.2.2.1.2.2.2.2.2.2.2.2.2.1,d.2.2.1.2.2.2.2.2.2.2.2.2.2.1,d.2.2.1.2.2.2.2.2.2.2.2.2.2.2.1,d.2.2.1.2.2.2.2.2.2.2.2.2.2.2.2.1,d.2.2.1.2.2.2.2.2.2.2.2.2.2.2.2.2.1,(),()),d.2.2.2.1,()))⟩ fun ax aB=>by
 conv=>rhs;simp only [Ki,a6]
 kernel_rfl
noncomputable def NN (k:Nat) (aH:J.bc) (ni:List Int) (th:Int) (e4:Int):=c0 ((ni.length:Int)=e4/\True) (a9 (sy aH ni k th))
theorem RD (k:Nat) (aH:J.bc) (ni:List Int) (th:Int):a9 (sy aH ni k th)=NN k aH ni th (ni.length:Int):=(dt ⟨rfl,trivial⟩).symm
noncomputable def akC (F:Nat):aT aR:=(akB F).bT 104 2 F ⟨[0,10,11,12,18,19,20],[.p (.B 0),.p (.l 3),.p (.i .i64),.p (.i .i64),.p (.l 3),.p (.i .i64),.p (.i .i64)],[fg,.m 3 4],
 [⟨⟨.nm,[0,10,11,12],[.p (.B 0),.p (.l 3),.p (.i .i64),.p (.i .i64)],[fg,.m 3 4]⟩,Unit,fun d r=>(((),d.1.2.1,d.1.2.2.1,d.1.2.2.2.1,()),((d.2.1.1,d.2.1.2.1,d.2.1.2.2.1,d.2.1.2.2.2.1,d.2.1.2.2.2.2.1,d.2.1.2.2.2.2.2.1,d.2.1.2.2.2.2.2.2.1,d.2.1.2.2.2.2.2.2.2.1,d.2.1.2.2.2.2.2.2.2.2.1,d.2.1.2.2.2.2.2.2.2.2.2.1,d.2.1.2.2.2.2.2.2.2.2.2.2.1,d.2.1.2.2.2.2.2.2.2.2.2.2.2.1,d.2.1.2.2.2.2.2.2.2.2.2.2.2.2.1,d.2.1.2.2.2.2.2.2.2.2.2.2.2.2.2.1,(),()),d.2.2.1,()))⟩,
  ⟨⟨.rt,[2],[.p (.i .i64)],[fg,.m 3 4]⟩,Int,fun d r=>((r,()),((d.2.1.1,d.2.1.2.1,d.2.1.2.2.1,d.2.1.2.2.2.1,d.2.1.2.2.2.2.1,d.2.1.2.2.2.2.2.1,d.2.1.2.2.2.2.2.2.1,d.2.1.2.2.2.2.2.2.2.1,d.2.1.2.2.2.2.2.2.2.2.1,d.2.1.2.2.2.2.2.2.2.2.2.1,d.2.1.2.2.2.2.2.2.2.2.2.2.1,d.2.1.2.2.2.2.2.2.2.2.2.2.2.1,d.2.1.2.2.2.2.2.2.2.2.2.2.2.2.1,d.2.1.2.2.2.2.2.2.2.2.2.2.2.2.2.1,(),()),d.2.2.1,()))⟩],
 fun k d=>NN k (⟨(dF d.2.1),(gw d.2.1.2.2.2.2.2.2.2),d.2.1.2.2.2.2.2.2.2.2.2.2.2.2.1,d.2.1.2.2.2.2.2.2.2.2.2.2.2.2.2.1,d.2.2.1⟩:J.bc) d.1.2.2.2.2.1 d.1.2.2.2.2.2.2.1 d.1.2.2.2.2.2.1⟩ (bI.bS (fun d=>dr) fun k ax aB q h=>by
 obtain ⟨_,(aY:List Int),(v1:Int),(v2:Int),(bq:List Int),(v4:Int),(bW:Int),_⟩:=ax
 obtain ⟨⟨(v6:List Int),(cm:Int),(cv:Int),(cB:Int),(v10:Int),(v11:List Int),(da:Int),(dG:List J.al),(dZ:List Int),(fq:List (List J.Field)),(fP:List (List (List UInt8))),(g1:List (List J.Target)),(lr:List Int),(Cg:List Int),_,_⟩,(v20:List (Int × Bool)),_⟩:=aB
 obtain ⟨aw,_⟩:=dT h
 dsimp only at aw
 obtain ⟨rfl,_⟩:=aw
 conv=>rhs;change Option.map (α:=Unit ⊕ Int) _ (NN (k+ 1) (⟨(⟨v6,cm,cv,cB,v10,v11,da⟩:J.aV),(⟨(⟨dG,dZ,fq,fP,g1⟩:J.aP)⟩:J.cb),lr,Cg,v20⟩:J.bc) bq bW (bq.length:Int));rw [<-RD (k+ 1) (⟨(⟨v6,cm,cv,cB,v10,v11,da⟩:J.aV),(⟨(⟨dG,dZ,fq,fP,g1⟩:J.aP)⟩:J.cb),lr,Cg,v20⟩:J.bc) bq bW];simp only [sy,a6,RD,atj];simp only [bM]
 kernel_rfl)
noncomputable def NM (F:Nat) (k:Nat) (aH:J.bc) (oD:List Int) (vV:Int) (e1:Int):=c0 ((oD.length:Int)=e1/\True) (a9 (u0 F aH oD k vV))
theorem RC (F:Nat) (k:Nat) (aH:J.bc) (oD:List Int) (vV:Int):a9 (u0 F aH oD k vV)=NM F k aH oD vV (oD.length:Int):=(dt ⟨rfl,trivial⟩).symm
noncomputable def akD (F:Nat):aT aR:=(akC F).bT 104 0 F ⟨[0,10,11,12],[.p (.B 0),.p (.l 3),.p (.i .i64),.p (.i .i64)],[fg,.m 3 4],
 [⟨⟨.nm,[0],[.p (.B 0)],[fg,.m 3 4]⟩,Unit,fun d r=>(((),()),((d.2.1.1,d.2.1.2.1,d.2.1.2.2.1,d.2.1.2.2.2.1,d.2.1.2.2.2.2.1,d.2.1.2.2.2.2.2.1,d.2.1.2.2.2.2.2.2.1,d.2.1.2.2.2.2.2.2.2.1,d.2.1.2.2.2.2.2.2.2.2.1,d.2.1.2.2.2.2.2.2.2.2.2.1,d.2.1.2.2.2.2.2.2.2.2.2.2.1,d.2.1.2.2.2.2.2.2.2.2.2.2.2.1,d.2.1.2.2.2.2.2.2.2.2.2.2.2.2.1,d.2.1.2.2.2.2.2.2.2.2.2.2.2.2.2.1,(),()),d.2.2.1,()))⟩,
  ⟨⟨.rt,[2],[.p (.i .i64)],[fg,.m 3 4]⟩,Int,fun d r=>((r,()),((d.2.1.1,d.2.1.2.1,d.2.1.2.2.1,d.2.1.2.2.2.1,d.2.1.2.2.2.2.1,d.2.1.2.2.2.2.2.1,d.2.1.2.2.2.2.2.2.1,d.2.1.2.2.2.2.2.2.2.1,d.2.1.2.2.2.2.2.2.2.2.1,d.2.1.2.2.2.2.2.2.2.2.2.1,d.2.1.2.2.2.2.2.2.2.2.2.2.1,d.2.1.2.2.2.2.2.2.2.2.2.2.2.1,d.2.1.2.2.2.2.2.2.2.2.2.2.2.2.1,d.2.1.2.2.2.2.2.2.2.2.2.2.2.2.2.1,(),()),d.2.2.1,()))⟩],
 fun k d=>NM F k (⟨(dF d.2.1),(gw d.2.1.2.2.2.2.2.2.2),d.2.1.2.2.2.2.2.2.2.2.2.2.2.2.1,d.2.1.2.2.2.2.2.2.2.2.2.2.2.2.2.1,d.2.2.1⟩:J.bc) d.1.2.1 d.1.2.2.2.1 d.1.2.2.1⟩ (bI.bS (fun d=>dr) fun k ax aB q h=>by
 obtain ⟨_,(aY:List Int),(v1:Int),(v2:Int),_⟩:=ax
 obtain ⟨⟨(bq:List Int),(v4:Int),(bW:Int),(v6:Int),(cm:Int),(cv:List Int),(cB:Int),(v10:List J.al),(v11:List Int),(da:List (List J.Field)),(dG:List (List (List UInt8))),(dZ:List (List J.Target)),(fq:List Int),(fP:List Int),_,_⟩,(g1:List (Int × Bool)),_⟩:=aB
 obtain ⟨aw,_⟩:=dT h
 dsimp only at aw
 obtain ⟨rfl,_⟩:=aw
 conv=>rhs;change Option.map (α:=Unit ⊕ Int) _ (NM F (k+ 1) (⟨(⟨bq,v4,bW,v6,cm,cv,cB⟩:J.aV),(⟨(⟨v10,v11,da,dG,dZ⟩:J.aP)⟩:J.cb),fq,fP,g1⟩:J.bc) aY v2 (aY.length:Int));rw [<-RC F (k+ 1) (⟨(⟨bq,v4,bW,v6,cm,cv,cB⟩:J.aV),(⟨(⟨v10,v11,da,dG,dZ⟩:J.aP)⟩:J.cb),fq,fP,g1⟩:J.bc) aY v2];simp only [u0,a6,RD,RC];simp only [bM]
 kernel_rfl)
noncomputable def akE (F:Nat):aT aR:=(akD F).rt 104 ⟨[.p (.B 0)],[fg,.m 3 4],[.p (.i .i64)],[fg,.m 3 4],Int,fun d=>A8 F (⟨(dF d.2.1),(gw d.2.1.2.2.2.2.2.2.2),d.2.1.2.2.2.2.2.2.2.2.2.2.2.2.1,d.2.1.2.2.2.2.2.2.2.2.2.2.2.2.2.1,d.2.2.1⟩:J.bc),fun d r=>((r,()),((d.2.1.1,d.2.1.2.1,d.2.1.2.2.1,d.2.1.2.2.2.1,d.2.1.2.2.2.2.1,d.2.1.2.2.2.2.2.1,d.2.1.2.2.2.2.2.2.1,d.2.1.2.2.2.2.2.2.2.1,d.2.1.2.2.2.2.2.2.2.2.1,d.2.1.2.2.2.2.2.2.2.2.2.1,d.2.1.2.2.2.2.2.2.2.2.2.2.1,d.2.1.2.2.2.2.2.2.2.2.2.2.2.1,d.2.1.2.2.2.2.2.2.2.2.2.2.2.2.1,d.2.1.2.2.2.2.2.2.2.2.2.2.2.2.2.1,(),()),d.2.2.1,()))⟩ fun ax aB=>by
 obtain ⟨_,_⟩:=ax
 obtain ⟨⟨(aY:List Int),(v1:Int),(v2:Int),(bq:Int),(v4:Int),(bW:List Int),(v6:Int),(cm:List J.al),(cv:List Int),(cB:List (List J.Field)),(v10:List (List (List UInt8))),(v11:List (List J.Target)),(da:List Int),(dG:List Int),_,_⟩,(dZ:List (Int × Bool)),_⟩:=aB
 conv=>rhs;simp only [A8,a6,RC]
 kernel_rfl
noncomputable def akF (F:Nat):aT aR:=(akE F).rt 172 ⟨[.p (.i .i64)],[],[.p (.b)],[],Bool,fun d=>Hh d.1.1,fun d r=>((r,()),())⟩ fun ax aB=>by
 kernel_rfl
noncomputable def ag6 (F:Nat):aT aR:=(akF F).rt 160 ⟨[.p (.i .i64),.p (.i .i64)],[],[.p (.b)],[],Bool,fun d=>Hg d.1.1 d.1.2.1,fun d r=>((r,()),())⟩ fun ax aB=>by
 conv=>rhs;simp only [Hg,a6]
 kernel_rfl
noncomputable def ag7 (F:Nat):aT aR:=(ag6 F).rt 161 ⟨[.p (.i .i64)],[],[.p (.b)],[],Bool,fun d=>Kn d.1.1,fun d r=>((r,()),())⟩ fun ax aB=>by
 kernel_rfl
noncomputable def Od (k:Nat) (p3:Int) (aM:List Int) (pQ:Int) (rf:Int) (e2:Int):=c0 ((aM.length:Int)=e2/\True) (ru p3 aM k pQ rf)
theorem R2 (k:Nat) (p3:Int) (aM:List Int) (pQ:Int) (rf:Int):ru p3 aM k pQ rf=Od k p3 aM pQ rf (aM.length:Int):=(dt ⟨rfl,trivial⟩).symm
noncomputable def ag8 (F:Nat):aT aR:=(ag7 F).bT 138 0 F ⟨[0,1,6,7,8],[.p (.l 3),.p (.i .i64),.p (.i .i64),.p (.i .i64),.p (.i .i64)],[],
 [⟨⟨.nm,[0,1,6,7],[.p (.l 3),.p (.i .i64),.p (.i .i64),.p (.i .i64)],[]⟩,Int,fun d r=>((d.1.1,d.1.2.1,d.1.2.2.1,r,()),())⟩],
 fun k d=>Od k d.1.2.1 d.1.1 d.1.2.2.2.1 d.1.2.2.2.2.1 d.1.2.2.1⟩ (bI.bS (fun d=>dr) fun k ax aB q h=>by
 obtain ⟨(aY:List Int),(v1:Int),(v2:Int),(bq:Int),(v4:Int),_⟩:=ax
 obtain ⟨aw,_⟩:=dT h
 dsimp only at aw
 obtain ⟨rfl,_⟩:=aw
 conv=>rhs;change Option.map (α:=Int) _ (Od (k+ 1) v1 aY bq v4 (aY.length:Int));rw [<-R2 (k+ 1) v1 aY bq v4];simp only [ru,a6,R2];simp only [bM]
 kernel_rfl)
noncomputable def ag9 (F:Nat):aT aR:=(ag8 F).rt 138 ⟨[.p (.l 3),.p (.i .i64)],[],[.p (.i .i64),.p (.b)],[],Int × Bool,fun d=>Fw F d.1.1 d.1.2.1,fun d r=>((r.1,r.2,()),())⟩ fun ax aB=>by
 obtain ⟨(aY:List Int),(v1:Int),_⟩:=ax
 conv=>rhs;simp only [Fw,a6,R2]
 kernel_rfl
noncomputable def NJ (F:Nat) (k:Nat) (aH:J.bc) (pL:Int) (e1:List Int) (e2:Int) (AM:List Int):=c0 ((aH.H.aS:List Int)=e1/\(aH.H.aS.length:Int)=e2/\(aH.H.aS:List Int)=AM/\True) (a9 (qO F aH k pL))
theorem Rz (F:Nat) (k:Nat) (aH:J.bc) (pL:Int):a9 (qO F aH k pL)=NJ F k aH pL aH.H.aS (aH.H.aS.length:Int) aH.H.aS:=(dt ⟨rfl,rfl,rfl,trivial⟩).symm
noncomputable def ag_ (F:Nat):aT aR:=(ag9 F).bT 105 0 F ⟨[1,3,16,17,18],[.p (.B 0),.p (.l 3),.p (.l 3),.p (.i .i64),.p (.i .i64)],[.c 60 [.B 1],hC,.m 3 4],
 [⟨⟨.nm,[1,3],[.p (.B 0),.p (.l 3)],[.c 60 [.B 1],hC,.m 3 4]⟩,Unit,fun d r=>(((),d.1.2.1,()),(((),()),(d.2.2.1.1,d.2.2.1.2.1,d.2.2.1.2.2.1,d.2.2.1.2.2.2.1,d.2.2.1.2.2.2.2.1,d.2.2.1.2.2.2.2.2.1,d.2.2.1.2.2.2.2.2.2.1,d.2.2.1.2.2.2.2.2.2.2.1,d.2.2.1.2.2.2.2.2.2.2.2.1,d.2.2.1.2.2.2.2.2.2.2.2.2.1,d.2.2.1.2.2.2.2.2.2.2.2.2.2.1,d.2.2.1.2.2.2.2.2.2.2.2.2.2.2.1,d.2.2.1.2.2.2.2.2.2.2.2.2.2.2.2.1,d.2.2.1.2.2.2.2.2.2.2.2.2.2.2.2.2.1,(),()),d.2.2.2.1,()))⟩,
  ⟨⟨.rt,[2],[.p (.i .i64)],[.c 60 [.B 1],hC,.m 3 4]⟩,Int,fun d r=>((r,()),(((),()),(d.2.2.1.1,d.2.2.1.2.1,d.2.2.1.2.2.1,d.2.2.1.2.2.2.1,d.2.2.1.2.2.2.2.1,d.2.2.1.2.2.2.2.2.1,d.2.2.1.2.2.2.2.2.2.1,d.2.2.1.2.2.2.2.2.2.2.1,d.2.2.1.2.2.2.2.2.2.2.2.1,d.2.2.1.2.2.2.2.2.2.2.2.2.1,d.2.2.1.2.2.2.2.2.2.2.2.2.2.1,d.2.2.1.2.2.2.2.2.2.2.2.2.2.2.1,d.2.2.1.2.2.2.2.2.2.2.2.2.2.2.2.1,d.2.2.1.2.2.2.2.2.2.2.2.2.2.2.2.2.1,(),()),d.2.2.2.1,()))⟩],
 fun k d=>NJ F k (⟨(⟨d.2.2.1.1,d.2.2.1.2.1,d.2.2.1.2.2.1,d.2.2.1.2.2.2.1,d.2.2.1.2.2.2.2.1,d.1.2.1,d.2.2.1.2.2.2.2.2.2.1⟩:J.aV),(gw d.2.2.1.2.2.2.2.2.2.2),d.2.2.1.2.2.2.2.2.2.2.2.2.2.2.2.1,d.2.2.1.2.2.2.2.2.2.2.2.2.2.2.2.2.1,d.2.2.2.1⟩:J.bc) d.1.2.2.2.2.1 d.1.2.2.1 d.1.2.2.2.1 d.2.2.1.2.2.2.2.2.1⟩ (bI.bS (fun d=>dr) fun k ax aB q h=>by
 obtain ⟨_,(aY:List Int),(v1:List Int),(v2:Int),(bq:Int),_⟩:=ax
 obtain ⟨⟨_,_⟩,⟨(v4:List Int),(bW:Int),(v6:Int),(cm:Int),(cv:Int),(cB:List Int),(v10:Int),(v11:List J.al),(da:List Int),(dG:List (List J.Field)),(dZ:List (List (List UInt8))),(fq:List (List J.Target)),(fP:List Int),(g1:List Int),_,_⟩,(lr:List (Int × Bool)),_⟩:=aB
 obtain ⟨aw,_⟩:=dT h
 dsimp only at aw
 obtain ⟨rfl,rfl,rfl,_⟩:=aw
 conv=>rhs;change Option.map (α:=Unit ⊕ Int) _ (NJ F (k+ 1) (⟨(⟨v4,bW,v6,cm,cv,aY,v10⟩:J.aV),(⟨(⟨v11,da,dG,dZ,fq⟩:J.aP)⟩:J.cb),fP,g1,lr⟩:J.bc) bq (aY) (aY.length:Int) (aY));rw [<-Rz F (k+ 1) (⟨(⟨v4,bW,v6,cm,cv,aY,v10⟩:J.aV),(⟨(⟨v11,da,dG,dZ,fq⟩:J.aP)⟩:J.cb),fP,g1,lr⟩:J.bc) bq];simp only [qO,a6,Rz,QS];simp only [bM]
 kernel_rfl)
noncomputable def NK (F:Nat) (k:Nat) (aH:J.bc) (tl:Int) (e2:Int) (AM:List Int) (amx:List Int):=c0 ((aH.aO.length:Int)=e2/\(aH.H.aS:List Int)=AM/\(aH.aO:List Int)=amx/\True) (a9 (sx F aH k tl))
theorem RA (F:Nat) (k:Nat) (aH:J.bc) (tl:Int):a9 (sx F aH k tl)=NK F k aH tl (aH.aO.length:Int) aH.H.aS aH.aO:=(dt ⟨rfl,rfl,rfl,trivial⟩).symm
noncomputable def ag' (F:Nat):aT aR:=(ag_ F).bT 105 2 F ⟨[1,3,59,60,61],[.p (.B 0),.p (.l 3),.p (.l 3),.p (.i .i64),.p (.i .i64)],[.c 60 [.B 1],hC,.m 3 4],
 [⟨⟨.nm,[],[],[.c 60 [.B 1],hC,.m 3 4]⟩,Unit,fun d r=>((),(((),()),(d.2.2.1.1,d.2.2.1.2.1,d.2.2.1.2.2.1,d.2.2.1.2.2.2.1,d.2.2.1.2.2.2.2.1,d.2.2.1.2.2.2.2.2.1,d.2.2.1.2.2.2.2.2.2.1,d.2.2.1.2.2.2.2.2.2.2.1,d.2.2.1.2.2.2.2.2.2.2.2.1,d.2.2.1.2.2.2.2.2.2.2.2.2.1,d.2.2.1.2.2.2.2.2.2.2.2.2.2.1,d.2.2.1.2.2.2.2.2.2.2.2.2.2.2.1,d.2.2.1.2.2.2.2.2.2.2.2.2.2.2.2.1,d.2.2.1.2.2.2.2.2.2.2.2.2.2.2.2.2.1,(),()),d.2.2.2.1,()))⟩,
  ⟨⟨.rt,[2],[.p (.i .i64)],[.c 60 [.B 1],hC,.m 3 4]⟩,Int,fun d r=>((r,()),(((),()),(d.2.2.1.1,d.2.2.1.2.1,d.2.2.1.2.2.1,d.2.2.1.2.2.2.1,d.2.2.1.2.2.2.2.1,d.2.2.1.2.2.2.2.2.1,d.2.2.1.2.2.2.2.2.2.1,d.2.2.1.2.2.2.2.2.2.2.1,d.2.2.1.2.2.2.2.2.2.2.2.1,d.2.2.1.2.2.2.2.2.2.2.2.2.1,d.2.2.1.2.2.2.2.2.2.2.2.2.2.1,d.2.2.1.2.2.2.2.2.2.2.2.2.2.2.1,d.2.2.1.2.2.2.2.2.2.2.2.2.2.2.2.1,d.2.2.1.2.2.2.2.2.2.2.2.2.2.2.2.2.1,(),()),d.2.2.2.1,()))⟩],
 fun k d=>NK F k (⟨(⟨d.2.2.1.1,d.2.2.1.2.1,d.2.2.1.2.2.1,d.2.2.1.2.2.2.1,d.2.2.1.2.2.2.2.1,d.1.2.1,d.2.2.1.2.2.2.2.2.2.1⟩:J.aV),(gw d.2.2.1.2.2.2.2.2.2.2),d.2.2.1.2.2.2.2.2.2.2.2.2.2.2.2.1,d.1.2.2.1,d.2.2.2.1⟩:J.bc) d.1.2.2.2.2.1 d.1.2.2.2.1 d.2.2.1.2.2.2.2.2.1 d.2.2.1.2.2.2.2.2.2.2.2.2.2.2.2.2.1⟩ (bI.bS (fun d=>dr) fun k ax aB q h=>by
 obtain ⟨_,(aY:List Int),(v1:List Int),(v2:Int),(bq:Int),_⟩:=ax
 obtain ⟨⟨_,_⟩,⟨(v4:List Int),(bW:Int),(v6:Int),(cm:Int),(cv:Int),(cB:List Int),(v10:Int),(v11:List J.al),(da:List Int),(dG:List (List J.Field)),(dZ:List (List (List UInt8))),(fq:List (List J.Target)),(fP:List Int),(g1:List Int),_,_⟩,(lr:List (Int × Bool)),_⟩:=aB
 obtain ⟨aw,_⟩:=dT h
 dsimp only at aw
 obtain ⟨rfl,rfl,rfl,_⟩:=aw
 conv=>rhs;change Option.map (α:=Unit ⊕ Int) _ (NK F (k+ 1) (⟨(⟨v4,bW,v6,cm,cv,aY,v10⟩:J.aV),(⟨(⟨v11,da,dG,dZ,fq⟩:J.aP)⟩:J.cb),fP,v1,lr⟩:J.bc) bq (v1.length:Int) (aY) (v1));rw [<-RA F (k+ 1) (⟨(⟨v4,bW,v6,cm,cv,aY,v10⟩:J.aV),(⟨(⟨v11,da,dG,dZ,fq⟩:J.aP)⟩:J.cb),fP,v1,lr⟩:J.bc) bq];simp only [sx,a6,RA];simp only [bM]
 kernel_rfl)
noncomputable def aha (F:Nat):aT aR:=(ag' F).rt 105 ⟨[.p (.B 0)],[fg,.m 3 4],[.p (.i .i64)],[fg,.m 3 4],Int,fun d=>A7 F (⟨(dF d.2.1),(gw d.2.1.2.2.2.2.2.2.2),d.2.1.2.2.2.2.2.2.2.2.2.2.2.2.1,d.2.1.2.2.2.2.2.2.2.2.2.2.2.2.2.1,d.2.2.1⟩:J.bc),fun d r=>((r,()),((d.2.1.1,d.2.1.2.1,d.2.1.2.2.1,d.2.1.2.2.2.1,d.2.1.2.2.2.2.1,d.2.1.2.2.2.2.2.1,d.2.1.2.2.2.2.2.2.1,d.2.1.2.2.2.2.2.2.2.1,d.2.1.2.2.2.2.2.2.2.2.1,d.2.1.2.2.2.2.2.2.2.2.2.1,d.2.1.2.2.2.2.2.2.2.2.2.2.1,d.2.1.2.2.2.2.2.2.2.2.2.2.2.1,d.2.1.2.2.2.2.2.2.2.2.2.2.2.2.1,d.2.1.2.2.2.2.2.2.2.2.2.2.2.2.2.1,(),()),d.2.2.1,()))⟩ fun ax aB=>by
 obtain ⟨_,_⟩:=ax
 obtain ⟨⟨(aY:List Int),(v1:Int),(v2:Int),(bq:Int),(v4:Int),(bW:List Int),(v6:Int),(cm:List J.al),(cv:List Int),(cB:List (List J.Field)),(v10:List (List (List UInt8))),(v11:List (List J.Target)),(da:List Int),(dG:List Int),_,_⟩,(dZ:List (Int × Bool)),_⟩:=aB
 conv=>rhs;simp only [A7,a6,Rz,RA]
 kernel_rfl
theorem auL (F:Nat) (aG:J.aV) (aW:J.aP) {cp:Type} (f:(Option J.bc) × Int->Option cp):(qP F aG aW).bind f=dx (iw (qP F aG aW)) (fun p=>f (some p.1,p.2)) (fun e=>f (none,e)):=aaj _ _
noncomputable def ahb (F:Nat):aT aR:=(aha F).J9 65 ⟨[io,gX],[],[⟨⟨[.p (.B 0),.p (.i .i64)],[fg,.m 3 4]⟩,J.bc × Int,fun d r=>(((),r.2,()),((r.1.H.Words,r.1.H.ar,r.1.H.aO,r.1.H.aZ,r.1.H.aU,r.1.H.aS,r.1.H.Next,r.1.S.K.a4,r.1.S.K.a0,r.1.S.K.Fields,r.1.S.K.Names,r.1.S.K.a1,r.1.ar,r.1.aO,(),()),r.1.dM,()))⟩,
 ⟨⟨[.p (.gu),.p (.i .i64)],[]⟩,Int,fun d r=>(((),r,()),())⟩],fun d=>iw (qP F (dF d.1.1) (eQ d.1.2.1))⟩ fun ax aB=>by
 conv=>rhs;simp only [qP,a6,aak,aal,aam,aan,aao,aap];simp only [AJ]
 kernel_rfl
theorem aa' (F:Nat) (aG:J.aV) (aW:J.aP) {cp:Type} (f:(Option J.bc) × Int->Option cp):(jC F aG aW).bind f=dx (iw (jC F aG aW)) (fun p=>f (some p.1,p.2)) (fun e=>f (none,e)):=aaj _ _
noncomputable def ahc (F:Nat):aT aR:=(ahb F).J9 33 ⟨[io,gX],[],[⟨⟨[.p (.B 0),.p (.i .i64)],[fg,.m 3 4]⟩,J.bc × Int,fun d r=>(((),r.2,()),((r.1.H.Words,r.1.H.ar,r.1.H.aO,r.1.H.aZ,r.1.H.aU,r.1.H.aS,r.1.H.Next,r.1.S.K.a4,r.1.S.K.a0,r.1.S.K.Fields,r.1.S.K.Names,r.1.S.K.a1,r.1.ar,r.1.aO,(),()),r.1.dM,()))⟩,
 ⟨⟨[.p (.gu),.p (.i .i64)],[]⟩,Int,fun d r=>(((),r,()),())⟩],fun d=>iw (jC F (dF d.1.1) (eQ d.1.2.1))⟩ fun ax aB=>by
 obtain ⟨⟨(aY:List Int),(v1:Int),(v2:Int),(bq:Int),(v4:Int),(bW:List Int),(v6:Int),_⟩,⟨(cm:List J.al),(cv:List Int),(cB:List (List J.Field)),(v10:List (List (List UInt8))),(v11:List (List J.Target)),_⟩,_⟩:=ax
 conv=>rhs;simp only [jC,a6,aak,aal,aam,aan,aao,aap,auL];simp only [AJ]
 kernel_rfl
noncomputable def ahd (F:Nat):aT aR:=(ahc F).rt 35 ⟨[io],[],[.p (.i .i64)],[],Int,fun d=>UH (dF d.1.1),fun d r=>((r,()),())⟩ fun ax aB=>by
 conv=>rhs;simp only [UH,a6]
 kernel_rfl
noncomputable def ahf (F:Nat):aT aR:=(ahd F).rt 19 ⟨[io,gX],[],[.p (.i .i64),.p (.i .i64)],[],Int × Int,fun d=>agW F (dF d.1.1) (eQ d.1.2.1),fun d r=>((r.1,r.2,()),())⟩ fun ax aB=>by
 obtain ⟨⟨(aY:List Int),(v1:Int),(v2:Int),(bq:Int),(v4:Int),(bW:List Int),(v6:Int),_⟩,⟨(cm:List J.al),(cv:List Int),(cB:List (List J.Field)),(v10:List (List (List UInt8))),(v11:List (List J.Target)),_⟩,_⟩:=ax
 conv=>rhs;simp only [agW,a6,aa']
 kernel_rfl
noncomputable def ahg (F:Nat):aT aR:=(ahf F).rt 47 ⟨[],[],[.p (.l 134)],[],List J.al,fun d=>U9,fun d r=>((r,()),())⟩ fun ax aB=>by
 conv=>rhs;simp only [U9,a6]
 kernel_rfl
noncomputable def ahh (F:Nat):aT aR:=(ahg F).rt 48 ⟨[.p (.i .i64),.p (.i .i64)],[],[io,.p (.i .i64)],[],J.aV × Int,fun d=>Yz d.1.1 d.1.2.1,fun d r=>(((r.1.Words,r.1.ar,r.1.aO,r.1.aZ,r.1.aU,r.1.aS,r.1.Next,()),r.2,()),())⟩ fun ax aB=>by
 conv=>rhs;simp only [Yz,a6]
 kernel_rfl
noncomputable def ahi (F:Nat):aT aR:=(ahh F).rt 57 ⟨[gX,.p (.i .i64),.p (.i .i64)],[],[.p (.i .i64)],[],Int,fun d=>OV (gw d.1.1) d.1.2.1 d.1.2.2.1,fun d r=>((r,()),())⟩ fun ax aB=>by
 conv=>rhs;simp only [OV,a6]
 kernel_rfl
noncomputable def ahj (F:Nat):aT aR:=(ahi F).rt 36 ⟨[io],[],[.a [.R 0,.i .i64,.i .i64,.i .i64,.i .i64,.l 3,.i .i64]],[.r 3 false],J.aV,fun d=>n6 (dF d.1.1),fun d r=>((((),r.ar,r.aO,r.aZ,r.aU,r.aS,r.Next,()),()),(r.Words,()))⟩ fun ax aB=>by
 obtain ⟨⟨(aY:List Int),(v1:Int),(v2:Int),(bq:Int),(v4:Int),(bW:List Int),(v6:Int),_⟩,_⟩:=ax
 conv=>rhs;simp only [n6,a6,Kf]
 kernel_rfl
noncomputable def ahk (F:Nat):aT aR:=(ahj F).rt 85 ⟨[.p (.B 0),.p (.i .i64),.p (.i .i64),.p (.b)],[aaK,.r 3 true],[.p (.i .i64),.p (.b)],[aaK,.r 3 true],Int × Bool × J.aV,fun d=>OU (⟨d.2.2.1,d.2.1.2.1,d.2.1.2.2.1,d.2.1.2.2.2.1,d.2.1.2.2.2.2.1,d.2.1.2.2.2.2.2.1,d.2.1.2.2.2.2.2.2.1⟩:J.aV) d.1.2.1 d.1.2.2.1 d.1.2.2.2.1,fun d r=>((r.1,r.2.1,()),(((),d.2.1.2.1,d.2.1.2.2.1,r.2.2.aZ,r.2.2.aU,d.2.1.2.2.2.2.2.1,r.2.2.Next,()),r.2.2.Words,()))⟩ fun ax aB=>by
 conv=>rhs;simp only [OU,a6]
 kernel_rfl
noncomputable def ahl (F:Nat):aT aR:=(ahk F).rt 49 ⟨[io,gX,.p (.i .i64),.p (.i .i64),.p (.b)],[],[io,.p (.i .i64),.p (.i .i64)],[],J.aV × Int × Int,fun d=>Yy F (dF d.1.1) (eQ d.1.2.1) d.1.2.2.1 d.1.2.2.2.1 d.1.2.2.2.2.1,fun d r=>(((r.1.Words,r.1.ar,r.1.aO,r.1.aZ,r.1.aU,r.1.aS,r.1.Next,()),r.2.1,r.2.2,()),())⟩ fun ax aB=>by
 obtain ⟨⟨(aY:List Int),(v1:Int),(v2:Int),(bq:Int),(v4:Int),(bW:List Int),(v6:Int),_⟩,⟨(cm:List J.al),(cv:List Int),(cB:List (List J.Field)),(v10:List (List (List UInt8))),(v11:List (List J.Target)),_⟩,(da:Int),(dG:Int),(dZ:Bool),_⟩:=ax
 conv=>rhs;simp only [Yy,a6,aa']
 kernel_rfl
noncomputable def ahm (F:Nat):aT aR:=(ahl F).rt 34 ⟨[.p (.B 0),.p (.l 3)],[fg,.m 3 4],[.p (.i .i64)],[fg,.m 3 4],Int,fun d=>w7 F (⟨(dF d.2.1),(gw d.2.1.2.2.2.2.2.2.2),d.2.1.2.2.2.2.2.2.2.2.2.2.2.2.1,d.2.1.2.2.2.2.2.2.2.2.2.2.2.2.2.1,d.2.2.1⟩:J.bc) d.1.2.1,fun d r=>((r,()),((d.2.1.1,d.2.1.2.1,d.2.1.2.2.1,d.2.1.2.2.2.1,d.2.1.2.2.2.2.1,d.2.1.2.2.2.2.2.1,d.2.1.2.2.2.2.2.2.1,d.2.1.2.2.2.2.2.2.2.1,d.2.1.2.2.2.2.2.2.2.2.1,d.2.1.2.2.2.2.2.2.2.2.2.1,d.2.1.2.2.2.2.2.2.2.2.2.2.1,d.2.1.2.2.2.2.2.2.2.2.2.2.2.1,d.2.1.2.2.2.2.2.2.2.2.2.2.2.2.1,d.2.1.2.2.2.2.2.2.2.2.2.2.2.2.2.1,(),()),d.2.2.1,()))⟩ fun ax aB=>by
 conv=>rhs;simp only [w7,a6]
 kernel_rfl
noncomputable def ahn (F:Nat):aT aR:=(ahm F).bT 123 0 F ⟨[0,1,5],[.p (.l 136),.p (.l 136),.p (.i .i64)],[],
 [⟨⟨.nm,[],[],[]⟩,Unit,fun d r=>((),())⟩,
  ⟨⟨.rt,[4],[.p (.b)],[]⟩,Bool,fun d r=>((r,()),())⟩],
 fun k d=>a9 (xN d.1.1 d.1.2.1 k d.1.2.2.1)⟩ (bI.bS (fun d=>rfl) fun k ax aB q h=>by
 conv=>rhs;simp only [xN,a6];simp only [bM]
 kernel_rfl)
noncomputable def aho (F:Nat):aT aR:=(ahn F).rt 123 ⟨[.p (.l 136),.p (.l 136)],[],[.p (.b)],[],Bool,fun d=>Al F d.1.1 d.1.2.1,fun d r=>((r,()),())⟩ fun ax aB=>by
 conv=>rhs;simp only [Al,a6]
 kernel_rfl
noncomputable def ahq (F:Nat):aT aR:=(aho F).bT 148 0 F ⟨[0,1,5],[.p (.l 128),.p (.l 128),.p (.i .i64)],[],
 [⟨⟨.nm,[],[],[]⟩,Unit,fun d r=>((),())⟩,
  ⟨⟨.rt,[4],[.p (.b)],[]⟩,Bool,fun d r=>((r,()),())⟩],
 fun k d=>a9 (nS d.1.1 d.1.2.1 k d.1.2.2.1)⟩ (bI.bS (fun d=>rfl) fun k ax aB q h=>by
 conv=>rhs;simp only [nS,a6];simp only [bM]
 kernel_rfl)
noncomputable def ahr (F:Nat):aT aR:=(ahq F).rt 148 ⟨[.p (.l 128),.p (.l 128)],[],[.p (.b)],[],Bool,fun d=>r0 F d.1.1 d.1.2.1,fun d r=>((r,()),())⟩ fun ax aB=>by
 conv=>rhs;simp only [r0,a6]
 kernel_rfl
noncomputable def ahs (F:Nat):aT aR:=(ahr F).bT 122 4 F ⟨[0,1,5,6,7,8,9,10,11],[.p (.l 134),.p (.l 134),.p (.i .i64),.p (.B 0),.p (.B 1),.p (.i .i64),.p (.B 2),.p (.B 3),.p (.i .i64)],[hD,hD,kF,kF],
 [⟨⟨.nm,[0,1,5,6,7,8],[.p (.l 134),.p (.l 134),.p (.i .i64),.p (.B 0),.p (.B 1),.p (.i .i64)],[hD,hD,kF,kF]⟩,Unit,fun d r=>((d.1.1,d.1.2.1,d.1.2.2.1,(),(),d.1.2.2.2.2.2.1,()),(d.2.1,d.2.2.1,d.2.2.2.1,d.2.2.2.2.1,()))⟩,
  ⟨⟨.rt,[4],[.p (.b)],[.d,.d,.d,.d]⟩,Bool,fun d r=>((r,()),((),(),(),(),()))⟩],
 fun k d=>a9 (xM (rz d.2.2.2.1) (rz d.2.2.2.2.1) k d.1.2.2.2.2.2.2.2.2.1)⟩ (bI.bS (fun d=>rfl) fun k ax aB q h=>by
 conv=>rhs;simp only [xM,a6];simp only [bM]
 kernel_rfl)
noncomputable def aht (F:Nat):aT aR:=(ahs F).bT 122 2 F ⟨[0,1,5,6,7,8],[.p (.l 134),.p (.l 134),.p (.i .i64),.p (.B 0),.p (.B 1),.p (.i .i64)],[hD,hD],
 [⟨⟨.nm,[0,1,5],[.p (.l 134),.p (.l 134),.p (.i .i64)],[hD,hD]⟩,Unit,fun d r=>((d.1.1,d.1.2.1,d.1.2.2.1,()),(d.2.1,d.2.2.1,()))⟩,
  ⟨⟨.rt,[4],[.p (.b)],[.d,.d]⟩,Bool,fun d r=>((r,()),((),(),()))⟩],
 fun k d=>a9 (xL F (Cc d.2.1) (Cc d.2.2.1) k d.1.2.2.2.2.2.1)⟩ (bI.bS (fun d=>rfl) fun k ax aB q h=>by
 obtain ⟨(aY:List J.al),(v1:List J.al),(v2:Int),_,_,(bq:Int),_⟩:=ax
 obtain ⟨⟨(v4:List UInt8),(bW:List UInt8),(v6:List J.Field),(cm:List J.Method),_⟩,⟨(cv:List UInt8),(cB:List UInt8),(v10:List J.Field),(v11:List J.Method),_⟩,_⟩:=aB
 conv=>rhs;simp only [xL,a6,QS,<-Bool.or_assoc];simp only [bM]
 kernel_rfl)
noncomputable def ahu (F:Nat):aT aR:=(aht F).bT 122 0 F ⟨[0,1,5],[.p (.l 134),.p (.l 134),.p (.i .i64)],[],
 [⟨⟨.nm,[],[],[]⟩,Unit,fun d r=>((),())⟩,
  ⟨⟨.rt,[4],[.p (.b)],[]⟩,Bool,fun d r=>((r,()),())⟩],
 fun k d=>a9 (xK F d.1.1 d.1.2.1 k d.1.2.2.1)⟩ (bI.bS (fun d=>rfl) fun k ax aB q h=>by
 conv=>rhs;simp only [xK,a6];simp only [bM]
 kernel_rfl)
noncomputable def ahv (F:Nat):aT aR:=(ahu F).rt 122 ⟨[.p (.l 134),.p (.l 134)],[],[.p (.b)],[],Bool,fun d=>Ak F d.1.1 d.1.2.1,fun d r=>((r,()),())⟩ fun ax aB=>by
 conv=>rhs;simp only [Ak,a6]
 kernel_rfl
noncomputable def NG (k:Nat) (b8:J.aP) (cu:J.aP) (tq:Int) (cW:Int):=c0 ((b8.a0.length:Int)=cW/\True) (a9 (uj b8 cu k tq))
theorem Rw (k:Nat) (b8:J.aP) (cu:J.aP) (tq:Int):a9 (uj b8 cu k tq)=NG k b8 cu tq (b8.a0.length:Int):=(dt ⟨rfl,trivial⟩).symm
noncomputable def ahw (F:Nat):aT aR:=(ahv F).bT 87 0 F ⟨[2,3,5,6],[.p (.B 0),.p (.B 1),.p (.i .i64),.p (.i .i64)],[dE,dE],
 [⟨⟨.nm,[2,3],[.p (.B 0),.p (.B 1)],[dE,dE]⟩,Unit,fun d r=>(((),(),()),(d.2.1,d.2.2.1,()))⟩,
  ⟨⟨.rt,[4],[.p (.b)],[.d,.d]⟩,Bool,fun d r=>((r,()),((),(),()))⟩],
 fun k d=>NG k (eQ d.2.1) (eQ d.2.2.1) d.1.2.2.2.1 d.1.2.2.1⟩ (bI.bS (fun d=>dr) fun k ax aB q h=>by
 obtain ⟨_,_,(aY:Int),(v1:Int),_⟩:=ax
 obtain ⟨⟨(v2:List J.al),(bq:List Int),(v4:List (List J.Field)),(bW:List (List (List UInt8))),(v6:List (List J.Target)),_⟩,⟨(cm:List J.al),(cv:List Int),(cB:List (List J.Field)),(v10:List (List (List UInt8))),(v11:List (List J.Target)),_⟩,_⟩:=aB
 obtain ⟨aw,_⟩:=dT h
 dsimp only at aw
 obtain ⟨rfl,_⟩:=aw
 conv=>rhs;change Option.map (α:=Unit ⊕ Bool) _ (NG (k+ 1) (⟨v2,bq,v4,bW,v6⟩:J.aP) (⟨cm,cv,cB,v10,v11⟩:J.aP) v1 (bq.length:Int));rw [<-Rw (k+ 1) (⟨v2,bq,v4,bW,v6⟩:J.aP) (⟨cm,cv,cB,v10,v11⟩:J.aP) v1];simp only [uj,a6,Rw];simp only [bM]
 kernel_rfl)
noncomputable def ahx (F:Nat):aT aR:=(ahw F).bT 87 2 F ⟨[2,3,7],[.p (.B 0),.p (.B 1),.p (.i .i64)],[dE,dE],
 [⟨⟨.nm,[2,3],[.p (.B 0),.p (.B 1)],[dE,dE]⟩,Unit,fun d r=>(((),(),()),(d.2.1,d.2.2.1,()))⟩,
  ⟨⟨.rt,[4],[.p (.b)],[.d,.d]⟩,Bool,fun d r=>((r,()),((),(),()))⟩],
 fun k d=>a9 (xP F (eQ d.2.1) (eQ d.2.2.1) k d.1.2.2.1)⟩ (bI.bS (fun d=>rfl) fun k ax aB q h=>by
 conv=>rhs;simp only [xP,a6];simp only [bM]
 kernel_rfl)
noncomputable def ahy (F:Nat):aT aR:=(ahx F).bT 87 6 F ⟨[2,3,8,9],[.p (.B 0),.p (.B 1),.p (.i .i64),.p (.i .i64)],[dE,dE],
 [⟨⟨.nm,[2,3,8],[.p (.B 0),.p (.B 1),.p (.i .i64)],[dE,dE]⟩,Unit,fun d r=>(((),(),d.1.2.2.1,()),(d.2.1,d.2.2.1,()))⟩,
  ⟨⟨.rt,[4],[.p (.b)],[.d,.d]⟩,Bool,fun d r=>((r,()),((),(),()))⟩],
 fun k d=>a9 (xR (eQ d.2.1) (eQ d.2.2.1) d.1.2.2.1 k d.1.2.2.2.1)⟩ (bI.bS (fun d=>rfl) fun k ax aB q h=>by
 conv=>rhs;simp only [xR,a6];simp only [bM]
 kernel_rfl)
noncomputable def ahz (F:Nat):aT aR:=(ahy F).bT 87 4 F ⟨[2,3,8],[.p (.B 0),.p (.B 1),.p (.i .i64)],[dE,dE],
 [⟨⟨.nm,[2,3],[.p (.B 0),.p (.B 1)],[dE,dE]⟩,Unit,fun d r=>(((),(),()),(d.2.1,d.2.2.1,()))⟩,
  ⟨⟨.rt,[4],[.p (.b)],[.d,.d]⟩,Bool,fun d r=>((r,()),((),(),()))⟩],
 fun k d=>a9 (xQ F (eQ d.2.1) (eQ d.2.2.1) k d.1.2.2.1)⟩ (bI.bS (fun d=>rfl) fun k ax aB q h=>by
 conv=>rhs;simp only [xQ,a6];simp only [bM]
 kernel_rfl)
noncomputable def ahB (F:Nat):aT aR:=(ahz F).bT 87 10 F ⟨[2,3,10,11],[.p (.B 0),.p (.B 1),.p (.i .i64),.p (.i .i64)],[dE,dE],
 [⟨⟨.nm,[2,3,10],[.p (.B 0),.p (.B 1),.p (.i .i64)],[dE,dE]⟩,Unit,fun d r=>(((),(),d.1.2.2.1,()),(d.2.1,d.2.2.1,()))⟩,
  ⟨⟨.rt,[4],[.p (.b)],[.d,.d]⟩,Bool,fun d r=>((r,()),((),(),()))⟩],
 fun k d=>a9 (xT (eQ d.2.1) (eQ d.2.2.1) d.1.2.2.1 k d.1.2.2.2.1)⟩ (bI.bS (fun d=>rfl) fun k ax aB q h=>by
 conv=>rhs;simp only [xT,a6];simp only [bM]
 kernel_rfl)
noncomputable def ahC (F:Nat):aT aR:=(ahB F).bT 87 8 F ⟨[2,3,10],[.p (.B 0),.p (.B 1),.p (.i .i64)],[dE,dE],
 [⟨⟨.nm,[],[],[dE,dE]⟩,Unit,fun d r=>((),(d.2.1,d.2.2.1,()))⟩,
  ⟨⟨.rt,[4],[.p (.b)],[.d,.d]⟩,Bool,fun d r=>((r,()),((),(),()))⟩],
 fun k d=>a9 (xS F (eQ d.2.1) (eQ d.2.2.1) k d.1.2.2.1)⟩ (bI.bS (fun d=>rfl) fun k ax aB q h=>by
 conv=>rhs;simp only [xS,a6];simp only [bM]
 kernel_rfl)
noncomputable def ahD (F:Nat):aT aR:=(ahC F).rt 87 ⟨[gX,gX],[],[.p (.b)],[],Bool,fun d=>Am F (eQ d.1.1) (eQ d.1.2.1),fun d r=>((r,()),())⟩ fun ax aB=>by
 obtain ⟨⟨(aY:List J.al),(v1:List Int),(v2:List (List J.Field)),(bq:List (List (List UInt8))),(v4:List (List J.Target)),_⟩,⟨(bW:List J.al),(v6:List Int),(cm:List (List J.Field)),(cv:List (List (List UInt8))),(cB:List (List J.Target)),_⟩,_⟩:=ax
 conv=>rhs;simp only [Am,a6,Rw]
 kernel_rfl
noncomputable def ahE (F:Nat):aT aR:=(ahD F).bT 164 0 F ⟨[0,3],[.p (.s),.p (.i .i64)],[],
 [⟨⟨.nm,[0],[.p (.s)],[]⟩,Unit,fun d r=>((d.1.1,()),())⟩,
  ⟨⟨.rt,[2],[.p (.b)],[]⟩,Bool,fun d r=>((r,()),())⟩],
 fun k d=>a9 (qn d.1.1 k d.1.2.1)⟩ (bI.bS (fun d=>rfl) fun k ax aB q h=>by
 conv=>rhs;simp only [qn,a6];simp only [bM]
 kernel_rfl)
noncomputable def ahF (F:Nat):aT aR:=(ahE F).rt 164 ⟨[.p (.s)],[],[.p (.b)],[],Bool,fun d=>mJ F d.1.1,fun d r=>((r,()),())⟩ fun ax aB=>by
 conv=>rhs;simp only [mJ,a6]
 kernel_rfl
noncomputable def ahG (F:Nat):aT aR:=(ahF F).rt 165 ⟨[.a [.i .i64,.s]],[],[.p (.b)],[],Bool,fun d=>rY F (FN d.1.1),fun d r=>((r,()),())⟩ fun ax aB=>by
 conv=>rhs;simp only [rY,a6]
 kernel_rfl
noncomputable def ahH (F:Nat):aT aR:=(ahG F).rt 42 ⟨[.p (.i .i64),.p (.i .i64),.p (.i .i64)],[],[.p (.b)],[],Bool,fun d=>fv d.1.1 d.1.2.1 d.1.2.2.1,fun d r=>((r,()),())⟩ fun ax aB=>by
 conv=>rhs;simp only [fv,a6]
 kernel_rfl
noncomputable def ahI (F:Nat):aT aR:=(ahH F).bT 166 0 F ⟨[1,3],[.p (.B 0),.p (.i .i64)],[kF],
 [⟨⟨.nm,[1],[.p (.B 0)],[kF]⟩,Unit,fun d r=>(((),()),(d.2.1,()))⟩,
  ⟨⟨.rt,[2],[.p (.i .i64)],[.d]⟩,Int,fun d r=>((r,()),((),()))⟩],
 fun k d=>a9 (xy F (rz d.2.1) k d.1.2.1)⟩ (bI.bS (fun d=>rfl) fun k ax aB q h=>by
 conv=>rhs;simp only [xy,a6];simp only [bM]
 kernel_rfl)
noncomputable def ahJ (F:Nat):aT aR:=(ahI F).bT 166 2 F ⟨[1,4],[.p (.B 0),.p (.i .i64)],[kF],
 [⟨⟨.nm,[],[],[kF]⟩,Unit,fun d r=>((),(d.2.1,()))⟩,
  ⟨⟨.rt,[2],[.p (.i .i64)],[.d]⟩,Int,fun d r=>((r,()),((),()))⟩],
 fun k d=>a9 (xz F (rz d.2.1) k d.1.2.1)⟩ (bI.bS (fun d=>rfl) fun k ax aB q h=>by
 conv=>rhs;simp only [xz,a6];simp only [bM]
 kernel_rfl)
noncomputable def ahK (F:Nat):aT aR:=(ahJ F).rt 166 ⟨[JB],[],[.p (.i .i64)],[],Int,fun d=>xx F (rz d.1.1),fun d r=>((r,()),())⟩ fun ax aB=>by
 conv=>rhs;simp only [xx,a6]
 kernel_rfl
theorem auJ (F:Nat) (k:Nat) (eW:J.al) (zh:Int):a9 (Ac F eW k zh)=a9 (ua F eW k zh):=by kernel_rfl
noncomputable def ahM (F:Nat):aT aR:=(ahK F).bT 145 2 F ⟨[0,3,4,5],[.p (.l 134),.p (.i .i64),.p (.B 0),.p (.i .i64)],[hD],
 [⟨⟨.nm,[0,3,4],[.p (.l 134),.p (.i .i64),.p (.B 0)],[hD]⟩,Unit,fun d r=>((d.1.1,d.1.2.1,(),()),(d.2.1,()))⟩,
  ⟨⟨.rt,[2],[.p (.i .i64)],[.d]⟩,Int,fun d r=>((r,()),((),()))⟩],
 fun k d=>a9 (ua F (Cc d.2.1) k d.1.2.2.2.1)⟩ (bI.bS (fun d=>rfl) fun k ax aB q h=>by
 conv=>rhs;simp only [ua,a6];simp only [bM]
 kernel_rfl)
theorem auK (F:Nat) (k:Nat) (eW:J.al) (BB:Int):a9 (Ad F eW k BB)=a9 (ub F eW k BB):=by kernel_rfl
noncomputable def ahN (F:Nat):aT aR:=(ahM F).bT 145 4 F ⟨[0,3,4,6],[.p (.l 134),.p (.i .i64),.p (.B 0),.p (.i .i64)],[hD],
 [⟨⟨.nm,[0,3],[.p (.l 134),.p (.i .i64)],[hD]⟩,Unit,fun d r=>((d.1.1,d.1.2.1,()),(d.2.1,()))⟩,
  ⟨⟨.rt,[2],[.p (.i .i64)],[.d]⟩,Int,fun d r=>((r,()),((),()))⟩],
 fun k d=>a9 (ub F (Cc d.2.1) k d.1.2.2.2.1)⟩ (bI.bS (fun d=>rfl) fun k ax aB q h=>by
 conv=>rhs;simp only [ub,a6];simp only [bM]
 kernel_rfl)
noncomputable def ahO (F:Nat):aT aR:=(ahN F).bT 145 0 F ⟨[0,3],[.p (.l 134),.p (.i .i64)],[],
 [⟨⟨.nm,[],[],[]⟩,Unit,fun d r=>((),())⟩,
  ⟨⟨.rt,[2],[.p (.i .i64)],[]⟩,Int,fun d r=>((r,()),())⟩],
 fun k d=>a9 (xh F d.1.1 k d.1.2.1)⟩ (bI.bS (fun d=>rfl) fun k ax aB q h=>by
 obtain ⟨(aY:List J.al),(v1:Int),_⟩:=ax
 conv=>rhs;simp only [xh,a6,auJ,auK];simp only [bM]
 kernel_rfl)
noncomputable def ahP (F:Nat):aT aR:=(ahO F).rt 145 ⟨[.p (.l 134)],[],[.p (.i .i64)],[],Int,fun d=>CR F d.1.1,fun d r=>((r,()),())⟩ fun ax aB=>by
 conv=>rhs;simp only [CR,a6]
 kernel_rfl
noncomputable def ahQ (F:Nat):aT aR:=(ahP F).bT 121 0 F ⟨[0,1,5],[.p (.l 134),.p (.s),.p (.i .i64)],[],
 [⟨⟨.nm,[],[],[]⟩,Unit,fun d r=>((),())⟩,
  ⟨⟨.rt,[4],[.p (.i .i64)],[]⟩,Int,fun d r=>((r,()),())⟩],
 fun k d=>a9 (xA d.1.1 d.1.2.1 k d.1.2.2.1)⟩ (bI.bS (fun d=>rfl) fun k ax aB q h=>by
 conv=>rhs;simp only [xA,a6];simp only [bM]
 kernel_rfl)
noncomputable def ahR (F:Nat):aT aR:=(ahQ F).rt 121 ⟨[.p (.l 134),.p (.s)],[],[.p (.i .i64)],[],Int,fun d=>mI F d.1.1 d.1.2.1,fun d r=>((r,()),())⟩ fun ax aB=>by
 conv=>rhs;simp only [mI,a6]
 kernel_rfl
noncomputable def ahS (F:Nat):aT aR:=(ahR F).bT 146 0 F ⟨[0,1,5],[.p (.l 134),.p (.i .i64),.p (.l 3)],[],
 [⟨⟨.nm,[5],[.p (.l 3)],[]⟩,List Int,fun d r=>((r,()),())⟩,
  ⟨⟨.rt,[4],[.p (.l 3)],[]⟩,List Int,fun d r=>((r,()),())⟩],
 fun k d=>a9 (xX F d.1.1 k d.1.2.1 d.1.2.2.1)⟩ (bI.bS (fun d=>rfl) fun k ax aB q h=>by
 conv=>rhs;simp only [xX,a6];simp only [bM]
 kernel_rfl)
noncomputable def ahT (F:Nat):aT aR:=(ahS F).rt 146 ⟨[.p (.l 134),.p (.i .i64)],[],[.p (.l 3)],[],List Int,fun d=>um F d.1.1 d.1.2.1,fun d r=>((r,()),())⟩ fun ax aB=>by
 conv=>rhs;simp only [um,a6]
 kernel_rfl
noncomputable def ahU (F:Nat):aT aR:=(ahT F).bT 119 0 F ⟨[0,5,6,7],[.p (.l 134),.p (.R 0),.p (.l 3),.p (.i .i64)],[.r 136 false],
 [⟨⟨.nm,[5],[.p (.R 0)],[.r 136 false]⟩,List J.Field,fun d r=>(((),()),(r,()))⟩],
 fun k d=>qj d.1.1 d.1.2.2.1 k d.2.1 d.1.2.2.2.1⟩ (bI.bS (fun d=>rfl) fun k ax aB q h=>by
 conv=>rhs;simp only [qj,a6];simp only [bM]
 kernel_rfl)
noncomputable def ahV (F:Nat):aT aR:=(ahU F).rt 119 ⟨[.p (.l 134),.p (.i .i64)],[],[.p (.l 136)],[],List J.Field,fun d=>xg F d.1.1 d.1.2.1,fun d r=>((r,()),())⟩ fun ax aB=>by
 conv=>rhs;simp only [xg,a6]
 kernel_rfl
noncomputable def ahX (F:Nat):aT aR:=(ahV F).bT 147 0 F ⟨[0,1,5],[.p (.l 134),.p (.l 128),.p (.i .i64)],[],
 [⟨⟨.nm,[],[],[]⟩,Unit,fun d r=>((),())⟩,
  ⟨⟨.rt,[4],[.p (.b)],[]⟩,Bool,fun d r=>((r,()),())⟩],
 fun k d=>a9 (ul F d.1.2.1 d.1.1 k d.1.2.2.1)⟩ (bI.bS (fun d=>rfl) fun k ax aB q h=>by
 conv=>rhs;simp only [ul,a6];simp only [bM]
 kernel_rfl)
noncomputable def ahY (F:Nat):aT aR:=(ahX F).rt 147 ⟨[.p (.l 134),.p (.l 128)],[],[.p (.b)],[],Bool,fun d=>xW F d.1.1 d.1.2.1,fun d r=>((r,()),())⟩ fun ax aB=>by
 conv=>rhs;simp only [xW,a6]
 kernel_rfl
noncomputable def ahZ (F:Nat):aT aR:=(ahY F).bT 118 0 F ⟨[0,4],[.p (.l 134),.p (.i .i64)],[],
 [⟨⟨.nm,[0],[.p (.l 134)],[]⟩,Unit,fun d r=>((d.1.1,()),())⟩,
  ⟨⟨.rt,[2],[.p (.i .i64)],[]⟩,Int,fun d r=>((r,()),())⟩],
 fun k d=>a9 (rV F d.1.1 k d.1.2.1)⟩ (bI.bS (fun d=>rfl) fun k ax aB q h=>by
 conv=>rhs;simp only [rV,a6];simp only [bM]
 kernel_rfl)
noncomputable def ah0 (F:Nat):aT aR:=(ahZ F).bT 118 2 F ⟨[0,5],[.p (.l 134),.p (.i .i64)],[],
 [⟨⟨.nm,[0],[.p (.l 134)],[]⟩,Unit,fun d r=>((d.1.1,()),())⟩,
  ⟨⟨.rt,[2],[.p (.i .i64)],[]⟩,Int,fun d r=>((r,()),())⟩],
 fun k d=>a9 (xq d.1.1 k d.1.2.1)⟩ (bI.bS (fun d=>rfl) fun k ax aB q h=>by
 conv=>rhs;simp only [xq,a6];simp only [bM]
 kernel_rfl)
noncomputable def ah1 (F:Nat):aT aR:=(ah0 F).bT 118 4 F ⟨[0,6],[.p (.l 134),.p (.i .i64)],[],
 [⟨⟨.nm,[0],[.p (.l 134)],[]⟩,Unit,fun d r=>((d.1.1,()),())⟩,
  ⟨⟨.rt,[2],[.p (.i .i64)],[]⟩,Int,fun d r=>((r,()),())⟩],
 fun k d=>a9 (ug F d.1.1 k d.1.2.1)⟩ (bI.bS (fun d=>rfl) fun k ax aB q h=>by
 conv=>rhs;simp only [ug,a6];simp only [bM]
 kernel_rfl)
noncomputable def ah2 (F:Nat):aT aR:=(ah1 F).bT 118 6 F ⟨[0,7],[.p (.l 134),.p (.i .i64)],[],
 [⟨⟨.nm,[0],[.p (.l 134)],[]⟩,Unit,fun d r=>((d.1.1,()),())⟩,
  ⟨⟨.rt,[2],[.p (.i .i64)],[]⟩,Int,fun d r=>((r,()),())⟩],
 fun k d=>a9 (xr F d.1.1 k d.1.2.1)⟩ (bI.bS (fun d=>rfl) fun k ax aB q h=>by
 conv=>rhs;simp only [xr,a6];simp only [bM]
 kernel_rfl)
noncomputable def ah3 (F:Nat):aT aR:=(ah2 F).bT 118 10 F ⟨[0,10,11],[.p (.l 134),.p (.i .i64),.p (.i .i64)],[],
 [⟨⟨.nm,[0,10],[.p (.l 134),.p (.i .i64)],[]⟩,Unit,fun d r=>((d.1.1,d.1.2.1,()),())⟩,
  ⟨⟨.rt,[2],[.p (.i .i64)],[]⟩,Int,fun d r=>((r,()),())⟩],
 fun k d=>a9 (xt F d.1.1 d.1.2.1 k d.1.2.2.1)⟩ (bI.bS (fun d=>rfl) fun k ax aB q h=>by
 conv=>rhs;simp only [xt,a6];simp only [bM]
 kernel_rfl)
noncomputable def ah4 (F:Nat):aT aR:=(ah3 F).bT 118 14 F ⟨[0,10,12,13,14],[.p (.l 134),.p (.i .i64),.p (.i .i64),.p (.B 0),.p (.i .i64)],[kF],
 [⟨⟨.nm,[0,10,12],[.p (.l 134),.p (.i .i64),.p (.i .i64)],[kF]⟩,Unit,fun d r=>((d.1.1,d.1.2.1,d.1.2.2.1,()),(d.2.1,()))⟩,
  ⟨⟨.rt,[2],[.p (.i .i64)],[.d]⟩,Int,fun d r=>((r,()),((),()))⟩],
 fun k d=>a9 (xv F d.1.1 (rz d.2.1) k d.1.2.2.2.2.1)⟩ (bI.bS (fun d=>rfl) fun k ax aB q h=>by
 conv=>rhs;simp only [xv,a6];simp only [bM]
 kernel_rfl)
noncomputable def ah5 (F:Nat):aT aR:=(ah4 F).bT 118 12 F ⟨[0,10,12],[.p (.l 134),.p (.i .i64),.p (.i .i64)],[],
 [⟨⟨.nm,[0,10],[.p (.l 134),.p (.i .i64)],[]⟩,Unit,fun d r=>((d.1.1,d.1.2.1,()),())⟩,
  ⟨⟨.rt,[2],[.p (.i .i64)],[]⟩,Int,fun d r=>((r,()),())⟩],
 fun k d=>a9 (xu F d.1.1 d.1.2.1 k d.1.2.2.1)⟩ (bI.bS (fun d=>rfl) fun k ax aB q h=>by
 conv=>rhs;simp only [xu,a6];simp only [bM]
 kernel_rfl)
noncomputable def ah6 (F:Nat):aT aR:=(ah5 F).bT 118 8 F ⟨[0,10],[.p (.l 134),.p (.i .i64)],[],
 [⟨⟨.nm,[0],[.p (.l 134)],[]⟩,Unit,fun d r=>((d.1.1,()),())⟩,
  ⟨⟨.rt,[2],[.p (.i .i64)],[]⟩,Int,fun d r=>((r,()),())⟩],
 fun k d=>a9 (uh F d.1.1 k d.1.2.1)⟩ (bI.bS (fun d=>rfl) fun k ax aB q h=>by
 conv=>rhs;simp only [uh,a6];simp only [bM]
 kernel_rfl)
noncomputable def ah8 (F:Nat):aT aR:=(ah6 F).bT 118 20 F ⟨[0,15,16,17,18],[.p (.l 134),.p (.i .i64),.p (.l 136),.p (.i .i64),.p (.i .i64)],[],
 [⟨⟨.nm,[0,15,16,17],[.p (.l 134),.p (.i .i64),.p (.l 136),.p (.i .i64)],[]⟩,Unit,fun d r=>((d.1.1,d.1.2.1,d.1.2.2.1,d.1.2.2.2.1,()),())⟩,
  ⟨⟨.rt,[2],[.p (.i .i64)],[]⟩,Int,fun d r=>((r,()),())⟩],
 fun k d=>a9 (xm d.1.2.2.1 d.1.2.2.2.1 k d.1.2.2.2.2.1)⟩ (bI.bS (fun d=>rfl) fun k ax aB q h=>by
 conv=>rhs;simp only [xm,a6];simp only [bM]
 kernel_rfl)
noncomputable def ah9 (F:Nat):aT aR:=(ah8 F).bT 118 18 F ⟨[0,15,16,17],[.p (.l 134),.p (.i .i64),.p (.l 136),.p (.i .i64)],[],
 [⟨⟨.nm,[0,15],[.p (.l 134),.p (.i .i64)],[]⟩,Unit,fun d r=>((d.1.1,d.1.2.1,()),())⟩,
  ⟨⟨.rt,[2],[.p (.i .i64)],[]⟩,Int,fun d r=>((r,()),())⟩],
 fun k d=>a9 (xl F d.1.2.2.1 k d.1.2.2.2.1)⟩ (bI.bS (fun d=>rfl) fun k ax aB q h=>by
 conv=>rhs;simp only [xl,a6];simp only [bM]
 kernel_rfl)
noncomputable def ND (k:Nat) (hQ:J.al) (im:Int) (q_:Int):=c0 (True) (a9 (qm hQ im k q_))
theorem Rt (k:Nat) (hQ:J.al) (im:Int) (q_:Int):a9 (qm hQ im k q_)=ND k (⟨[],[],[],hQ.bb⟩:J.al) im q_:=(show a9 (qm hQ im k q_)=a9 (qm (⟨[],[],[],hQ.bb⟩:J.al) im k q_) by kernel_rfl).trans (dt trivial).symm
noncomputable def ah_ (F:Nat):aT aR:=(ah9 F).bT 118 24 F ⟨[0,15,19,20,21],[.p (.l 134),.p (.i .i64),.p (.l 131),.p (.i .i64),.p (.i .i64)],[],
 [⟨⟨.nm,[0,15,19,20],[.p (.l 134),.p (.i .i64),.p (.l 131),.p (.i .i64)],[]⟩,Unit,fun d r=>((d.1.1,d.1.2.1,d.1.2.2.1,d.1.2.2.2.1,()),())⟩,
  ⟨⟨.rt,[2],[.p (.i .i64)],[]⟩,Int,fun d r=>((r,()),())⟩],
 fun k d=>ND k (⟨[],[],[],d.1.2.2.1⟩:J.al) d.1.2.2.2.1 d.1.2.2.2.2.1⟩ (bI.bS (fun d=>dr) fun k ax aB q h=>by
 obtain ⟨(aY:List J.al),(v1:Int),(v2:List J.Method),(bq:Int),(v4:Int),_⟩:=ax
 conv=>rhs;change Option.map (α:=Unit ⊕ Int) _ (ND (k+ 1) (⟨[],[],[],v2⟩:J.al) bq v4);rw [<-Rt (k+ 1) (⟨[],[],[],v2⟩:J.al) bq v4];simp only [qm,a6,Rt];simp only [bM]
 kernel_rfl)
noncomputable def NC (F:Nat) (k:Nat) (hQ:J.al) (im:Int):=c0 (True) (a9 (ql F hQ k im))
theorem Rs (F:Nat) (k:Nat) (hQ:J.al) (im:Int):a9 (ql F hQ k im)=NC F k (⟨[],[],[],hQ.bb⟩:J.al) im:=(show a9 (ql F hQ k im)=a9 (ql F (⟨[],[],[],hQ.bb⟩:J.al) k im) by kernel_rfl).trans (dt trivial).symm
noncomputable def ah' (F:Nat):aT aR:=(ah_ F).bT 118 22 F ⟨[0,15,19,20],[.p (.l 134),.p (.i .i64),.p (.l 131),.p (.i .i64)],[],
 [⟨⟨.nm,[0,15],[.p (.l 134),.p (.i .i64)],[]⟩,Unit,fun d r=>((d.1.1,d.1.2.1,()),())⟩,
  ⟨⟨.rt,[2],[.p (.i .i64)],[]⟩,Int,fun d r=>((r,()),())⟩],
 fun k d=>NC F k (⟨[],[],[],d.1.2.2.1⟩:J.al) d.1.2.2.2.1⟩ (bI.bS (fun d=>dr) fun k ax aB q h=>by
 obtain ⟨(aY:List J.al),(v1:Int),(v2:List J.Method),(bq:Int),_⟩:=ax
 conv=>rhs;change Option.map (α:=Unit ⊕ Int) _ (NC F (k+ 1) (⟨[],[],[],v2⟩:J.al) bq);rw [<-Rs F (k+ 1) (⟨[],[],[],v2⟩:J.al) bq];simp only [ql,a6,Rt,Rs];simp only [bM]
 kernel_rfl)
noncomputable def aia (F:Nat):aT aR:=(ah' F).bT 118 16 F ⟨[0,15],[.p (.l 134),.p (.i .i64)],[],
 [⟨⟨.nm,[0],[.p (.l 134)],[]⟩,Unit,fun d r=>((d.1.1,()),())⟩,
  ⟨⟨.rt,[2],[.p (.i .i64)],[]⟩,Int,fun d r=>((r,()),())⟩],
 fun k d=>a9 (xw F d.1.1 k d.1.2.1)⟩ (bI.bS (fun d=>rfl) fun k ax aB q h=>by
 obtain ⟨(aY:List J.al),(v1:Int),_⟩:=ax
 conv=>rhs;simp only [xw,a6,Rs];simp only [bM]
 kernel_rfl)
noncomputable def aib (F:Nat):aT aR:=(aia F).bT 118 32 F ⟨[0,22,23,24,25,26],[.p (.l 134),.p (.i .i64),.p (.l 3),.p (.i .i64),.p (.i .i64),.p (.i .i64)],[],
 [⟨⟨.nm,[0,22,23,24,25],[.p (.l 134),.p (.i .i64),.p (.l 3),.p (.i .i64),.p (.i .i64)],[]⟩,Unit,fun d r=>((d.1.1,d.1.2.1,d.1.2.2.1,d.1.2.2.2.1,d.1.2.2.2.2.1,()),())⟩,
  ⟨⟨.rt,[2],[.p (.i .i64)],[]⟩,Int,fun d r=>((r,()),())⟩],
 fun k d=>a9 (uf F d.1.1 d.1.2.1 d.1.2.2.1 d.1.2.2.2.1 d.1.2.2.2.2.1 k d.1.2.2.2.2.2.1)⟩ (bI.bS (fun d=>rfl) fun k ax aB q h=>by
 obtain ⟨(aY:List J.al),(v1:Int),(v2:List Int),(bq:Int),(v4:Int),(bW:Int),_⟩:=ax
 conv=>rhs;simp only [uf,a6,QS];simp only [bM]
 kernel_rfl)
noncomputable def aic (F:Nat):aT aR:=(aib F).bT 118 30 F ⟨[0,22,23,24,25],[.p (.l 134),.p (.i .i64),.p (.l 3),.p (.i .i64),.p (.i .i64)],[],
 [⟨⟨.nm,[0,22,23,24],[.p (.l 134),.p (.i .i64),.p (.l 3),.p (.i .i64)],[]⟩,Unit,fun d r=>((d.1.1,d.1.2.1,d.1.2.2.1,d.1.2.2.2.1,()),())⟩,
  ⟨⟨.rt,[2],[.p (.i .i64)],[]⟩,Int,fun d r=>((r,()),())⟩],
 fun k d=>a9 (xp F d.1.1 d.1.2.1 d.1.2.2.1 d.1.2.2.2.1 k d.1.2.2.2.2.1)⟩ (bI.bS (fun d=>rfl) fun k ax aB q h=>by
 conv=>rhs;simp only [xp,a6];simp only [bM]
 kernel_rfl)
noncomputable def aid (F:Nat):aT aR:=(aic F).bT 118 28 F ⟨[0,22,23,24],[.p (.l 134),.p (.i .i64),.p (.l 3),.p (.i .i64)],[],
 [⟨⟨.nm,[0,22],[.p (.l 134),.p (.i .i64)],[]⟩,Unit,fun d r=>((d.1.1,d.1.2.1,()),())⟩,
  ⟨⟨.rt,[2],[.p (.i .i64)],[]⟩,Int,fun d r=>((r,()),())⟩],
 fun k d=>a9 (xo F d.1.1 d.1.2.1 d.1.2.2.1 k d.1.2.2.2.1)⟩ (bI.bS (fun d=>rfl) fun k ax aB q h=>by
 conv=>rhs;simp only [xo,a6];simp only [bM]
 kernel_rfl)
noncomputable def aie (F:Nat):aT aR:=(aid F).bT 118 26 F ⟨[0,22],[.p (.l 134),.p (.i .i64)],[],
 [⟨⟨.nm,[],[],[]⟩,Unit,fun d r=>((),())⟩,
  ⟨⟨.rt,[2],[.p (.i .i64)],[]⟩,Int,fun d r=>((r,()),())⟩],
 fun k d=>a9 (xn F d.1.1 k d.1.2.1)⟩ (bI.bS (fun d=>rfl) fun k ax aB q h=>by
 conv=>rhs;simp only [xn,a6];simp only [bM]
 kernel_rfl)
noncomputable def aif (F:Nat):aT aR:=(aie F).rt 118 ⟨[.p (.l 134)],[],[.p (.i .i64)],[],Int,fun d=>CS F d.1.1,fun d r=>((r,()),())⟩ fun ax aB=>by
 conv=>rhs;simp only [CS,a6]
 kernel_rfl
noncomputable def NH (k:Nat) (ky:List (List UInt8)) (oP:J.Method) (ox:Int):=c0 (True) (oZ ky oP k ox)
theorem Rx (k:Nat) (ky:List (List UInt8)) (oP:J.Method) (ox:Int):oZ ky oP k ox=NH k ky (⟨oP.Name,false,[],(⟨0,[]⟩:J.Kind),0,0,[],[]⟩:J.Method) ox:=(show oZ ky oP k ox=oZ ky (⟨oP.Name,false,[],(⟨0,[]⟩:J.Kind),0,0,[],[]⟩:J.Method) k ox by kernel_rfl).trans (dt trivial).symm
noncomputable def aii (F:Nat):aT aR:=(aif F).bT 120 4 F ⟨[0,6,7,8,9,10,11,12],[.p (.l 134),.p (.R 0),.p (.R 1),.p (.l 3),.p (.i .i64),.p (.i .i64),.p (.s),.p (.i .i64)],[.r 9 false,.r 166 false],
 [⟨⟨.nm,[0,6,7,8,9,10,11,12],[.p (.l 134),.p (.R 0),.p (.R 1),.p (.l 3),.p (.i .i64),.p (.i .i64),.p (.s),.p (.i .i64)],[.r 9 false,.r 166 false]⟩,Int,fun d r=>((d.1.1,(),(),d.1.2.2.2.1,d.1.2.2.2.2.1,d.1.2.2.2.2.2.1,d.1.2.2.2.2.2.2.1,r,()),(d.2.1,d.2.2.1,()))⟩],
 fun k d=>NH k d.2.1 (⟨d.1.2.2.2.2.2.2.1,false,[],(⟨0,[]⟩:J.Kind),0,0,[],[]⟩:J.Method) d.1.2.2.2.2.2.2.2.1⟩ (bI.bS (fun d=>dr) fun k ax aB q h=>by
 obtain ⟨(aY:List J.al),_,_,(v1:List Int),(v2:Int),(bq:Int),(v4:List UInt8),(bW:Int),_⟩:=ax
 obtain ⟨(v6:List (List UInt8)),(cm:List J.Target),_⟩:=aB
 conv=>rhs;change Option.map (α:=Int) _ (NH (k+ 1) v6 (⟨v4,false,[],(⟨0,[]⟩:J.Kind),0,0,[],[]⟩:J.Method) bW);rw [<-Rx (k+ 1) v6 (⟨v4,false,[],(⟨0,[]⟩:J.Kind),0,0,[],[]⟩:J.Method) bW];simp only [oZ,a6,Rx];simp only [bM]
 kernel_rfl)
noncomputable def aij (F:Nat):aT aR:=(aii F).bT 120 2 F ⟨[0,6,7,8,9,10],[.p (.l 134),.p (.R 0),.p (.R 1),.p (.l 3),.p (.i .i64),.p (.i .i64)],[.r 9 false,.r 166 false],
 [⟨⟨.nm,[0,6,7,8,9],[.p (.l 134),.p (.R 0),.p (.R 1),.p (.l 3),.p (.i .i64)],[.r 9 false,.r 166 false]⟩,(List J.Target) × (List (List UInt8)),fun d r=>((d.1.1,(),(),d.1.2.2.2.1,d.1.2.2.2.2.1,()),(r.2,r.1,()))⟩],
 fun k d=>xV F d.1.1 d.1.2.2.2.1 d.1.2.2.2.2.1 k d.2.2.1 d.2.1 d.1.2.2.2.2.2.1⟩ (bI.bS (fun d=>rfl) fun k ax aB q h=>by
 obtain ⟨(aY:List J.al),_,_,(v1:List Int),(v2:Int),(bq:Int),_⟩:=ax
 obtain ⟨(v4:List (List UInt8)),(bW:List J.Target),_⟩:=aB
 conv=>rhs;simp only [xV,a6,Rx];simp only [bM]
 kernel_rfl)
noncomputable def aik (F:Nat):aT aR:=(aij F).bT 120 0 F ⟨[0,6,7,8,9],[.p (.l 134),.p (.R 0),.p (.R 1),.p (.l 3),.p (.i .i64)],[.r 9 false,.r 166 false],
 [⟨⟨.nm,[6,7],[.p (.R 0),.p (.R 1)],[.r 9 false,.r 166 false]⟩,(List J.Target) × (List (List UInt8)),fun d r=>(((),(),()),(r.2,r.1,()))⟩],
 fun k d=>xU F d.1.1 d.1.2.2.2.1 k d.2.2.1 d.2.1 d.1.2.2.2.2.1⟩ (bI.bS (fun d=>rfl) fun k ax aB q h=>by
 conv=>rhs;simp only [xU,a6];simp only [bM]
 kernel_rfl)
noncomputable def ail (F:Nat):aT aR:=(aik F).rt 120 ⟨[.p (.l 134),.p (.i .i64)],[],[.p (.l 9),.p (.l 166)],[],(List (List UInt8)) × (List J.Target),fun d=>CV F d.1.1 d.1.2.1,fun d r=>((r.1,r.2,()),())⟩ fun ax aB=>by
 conv=>rhs;simp only [CV,a6]
 kernel_rfl
noncomputable def NF (F:Nat) (k:Nat) (a8:List J.al) (yW:List (List J.Target)) (yX:List (List (List UInt8))) (yY:List (List J.Field)) (yZ:List Int) (q7:Int) (e2:List J.al) (e3:List Int) (e4:List (List J.Field)) (e5:List (List (List UInt8))) (e6:List (List J.Target)) (e7:List J.al):=c0 (([]:List J.al)=e2/\([]:List Int)=e3/\([]:List (List J.Field))=e4/\([]:List (List (List UInt8)))=e5/\([]:List (List J.Target))=e6/\(a8:List J.al)=e7/\True) (a9 (oY F a8 k yW yX yY yZ q7))
theorem Rv (F:Nat) (k:Nat) (a8:List J.al) (yW:List (List J.Target)) (yX:List (List (List UInt8))) (yY:List (List J.Field)) (yZ:List Int) (q7:Int):a9 (oY F a8 k yW yX yY yZ q7)=NF F k a8 yW yX yY yZ q7 [] [] [] [] [] a8:=(dt ⟨rfl,rfl,rfl,rfl,rfl,rfl,trivial⟩).symm
noncomputable def aim (F:Nat):aT aR:=(ail F).bT 86 0 F ⟨[0,2,5,6],[.p (.l 134),.p (.B 0),.p (.B 1),.p (.i .i64)],[dE,aaH,.r 3 false,.r 124 false,.r 120 false,.r 121 false],
 [⟨⟨.nm,[2,5],[.p (.B 0),.p (.B 1)],[dE,aaH,.r 3 false,.r 124 false,.r 120 false,.r 121 false]⟩,(List (List J.Target)) × (List (List (List UInt8))) × (List (List J.Field)) × (List Int),fun d r=>(((),(),()),(d.2.1,(d.2.2.1.1,(),(),(),(),()),r.2.2.2,r.2.2.1,r.2.1,r.1,()))⟩,
  ⟨⟨.rt,[2,3],[.p (.B 0),.p (.i .i64)],[dE,.d,.d,.d,.d,.d]⟩,J.aP × Int,fun d r=>(((),r.2,()),((r.1.a4,r.1.a0,r.1.Fields,r.1.Names,r.1.a1,()),(),(),(),(),(),()))⟩],
 fun k d=>NF F k d.1.1 d.2.2.2.2.2.2.1 d.2.2.2.2.2.1 d.2.2.2.2.1 d.2.2.2.1 d.1.2.2.2.1 d.2.1.1 d.2.1.2.1 d.2.1.2.2.1 d.2.1.2.2.2.1 d.2.1.2.2.2.2.1 d.2.2.1.1⟩ (bI.bS (fun d=>dr) fun k ax aB q h=>by
 obtain ⟨(aY:List J.al),_,_,(v1:Int),_⟩:=ax
 obtain ⟨⟨(v2:List J.al),(bq:List Int),(v4:List (List J.Field)),(bW:List (List (List UInt8))),(v6:List (List J.Target)),_⟩,⟨(cm:List J.al),_,_,_,_,_⟩,(cv:List Int),(cB:List (List J.Field)),(v10:List (List (List UInt8))),(v11:List (List J.Target)),_⟩:=aB
 obtain ⟨aw,_⟩:=dT h
 dsimp only at aw
 obtain ⟨rfl,rfl,rfl,rfl,rfl,rfl,_⟩:=aw
 conv=>rhs;change Option.map (α:=((List (List J.Target)) × (List (List (List UInt8))) × (List (List J.Field)) × (List Int)) ⊕ (J.aP × Int)) _ (NF F (k+ 1) aY v11 v10 cB cv v1 ([]) ([]) ([]) ([]) ([]) (aY));rw [<-Rv F (k+ 1) aY v11 v10 cB cv v1];simp only [oY,a6,Rv];simp only [bM]
 kernel_rfl)
noncomputable def ain (F:Nat):aT aR:=(aim F).rt 86 ⟨[.p (.l 134)],[],[gX,.p (.i .i64)],[],J.aP × Int,fun d=>CT F d.1.1,fun d r=>(((r.1.a4,r.1.a0,r.1.Fields,r.1.Names,r.1.a1,()),r.2,()),())⟩ fun ax aB=>by
 obtain ⟨(aY:List J.al),_⟩:=ax
 conv=>rhs;simp only [CT,a6,Rv]
 kernel_rfl
noncomputable def aio (F:Nat):aT aR:=(ain F).rt 50 ⟨[gX],[],[.p (.i .i64)],[],Int,fun d=>rW F (eQ d.1.1),fun d r=>((r,()),())⟩ fun ax aB=>by
 conv=>rhs;simp only [rW,a6]
 kernel_rfl
noncomputable def aip (F:Nat):aT aR:=(aio F).rt 59 ⟨[gX,.p (.i .i64)],[],[.p (.b)],[],Bool,fun d=>Aj (eQ d.1.1) d.1.2.1,fun d r=>((r,()),())⟩ fun ax aB=>by
 conv=>rhs;simp only [Aj,a6]
 kernel_rfl
noncomputable def aiq (F:Nat):aT aR:=(aip F).rt 60 ⟨[gX,.p (.i .i64),.p (.i .i64)],[],[.p (.b)],[],Bool,fun d=>Ai (eQ d.1.1) d.1.2.1 d.1.2.2.1,fun d r=>((r,()),())⟩ fun ax aB=>by
 conv=>rhs;simp only [Ai,a6]
 kernel_rfl
noncomputable def air (F:Nat):aT aR:=(aiq F).bT 95 0 F ⟨[2,3,4,5,10],[.p (.i .i64),.p (.i .i64),.p (.B 0),.p (.B 1),.p (.R 2)],[h2,dE,.r 3 false],
 [⟨⟨.nm,[2,3,10],[.p (.i .i64),.p (.i .i64),.p (.R 2)],[h2,dE,.r 3 false]⟩,(List Int) × Int,fun d r=>((r.2,d.1.2.1,(),()),(d.2.1,d.2.2.1,r.1,()))⟩,
  ⟨⟨.rt,[8,9],[.p (.l 3),.p (.b)],[.d,.d,.d]⟩,(List Int) × Bool,fun d r=>((r.1,r.2,()),((),(),(),()))⟩],
 fun k d=>a9 (uk (dF d.2.1) (eQ d.2.2.1) d.1.2.1 k d.2.2.2.1 d.1.1)⟩ (bI.bS (fun d=>rfl) fun k ax aB q h=>by
 conv=>rhs;simp only [uk,a6];simp only [bM]
 kernel_rfl)
noncomputable def ait (F:Nat):aT aR:=(air F).rt 95 ⟨[io,gX,.p (.i .i64),.p (.i .i64)],[],[.p (.l 3),.p (.b)],[],(List Int) × Bool,fun d=>o0 F (dF d.1.1) (eQ d.1.2.1) d.1.2.2.1 d.1.2.2.2.1,fun d r=>((r.1,r.2,()),())⟩ fun ax aB=>by
 conv=>rhs;simp only [o0,a6]
 kernel_rfl
noncomputable def aiu (F:Nat):aT aR:=(ait F).rt 62 ⟨[io,gX],[],[.p (.l 3),.p (.l 3),.p (.b)],[],(List Int) × (List Int) × Bool,fun d=>o1 F (dF d.1.1) (eQ d.1.2.1),fun d r=>((r.1,r.2.1,r.2.2,()),())⟩ fun ax aB=>by
 conv=>rhs;simp only [o1,a6]
 kernel_rfl
noncomputable def aiv (F:Nat):aT aR:=(aiu F).rt 71 ⟨[gX,.p (.i .i64),.p (.i .i64)],[],[.p (.b)],[],Bool,fun d=>uo (eQ d.1.1) d.1.2.1 d.1.2.2.1,fun d r=>((r,()),())⟩ fun ax aB=>by
 conv=>rhs;simp only [uo,a6]
 kernel_rfl
noncomputable def aiw (F:Nat):aT aR:=(aiv F).bT 44 0 F ⟨[2,3,4,7,8],[.p (.i .i64),.p (.B 0),.p (.B 1),.p (.R 2),.p (.i .i64)],[h2,dE,.r 3 false],
 [⟨⟨.nm,[7],[.p (.R 2)],[h2,dE,.r 3 false]⟩,List Int,fun d r=>(((),()),(d.2.1,d.2.2.1,r,()))⟩],
 fun k d=>rX d.1.1 (dF d.2.1) (eQ d.2.2.1) k d.2.2.2.1 d.1.2.2.2.2.1⟩ (bI.bS (fun d=>rfl) fun k ax aB q h=>by
 conv=>rhs;simp only [rX,a6];simp only [bM]
 kernel_rfl)
noncomputable def aix (F:Nat):aT aR:=(aiw F).rt 44 ⟨[io,gX,.p (.i .i64)],[],[.p (.l 3)],[],List Int,fun d=>nQ F (dF d.1.1) (eQ d.1.2.1) d.1.2.2.1,fun d r=>((r,()),())⟩ fun ax aB=>by
 conv=>rhs;simp only [nQ,a6]
 kernel_rfl
noncomputable def aiy (F:Nat):aT aR:=(aix F).bT 43 0 F ⟨[0,1,5],[.p (.l 3),.p (.i .i64),.p (.i .i64)],[],
 [⟨⟨.nm,[],[],[]⟩,Unit,fun d r=>((),())⟩,
  ⟨⟨.rt,[4],[.p (.b)],[]⟩,Bool,fun d r=>((r,()),())⟩],
 fun k d=>a9 (xH d.1.1 d.1.2.1 k d.1.2.2.1)⟩ (bI.bS (fun d=>rfl) fun k ax aB q h=>by
 conv=>rhs;simp only [xH,a6];simp only [bM]
 kernel_rfl)
noncomputable def aiz (F:Nat):aT aR:=(aiy F).rt 43 ⟨[.p (.l 3),.p (.i .i64)],[],[.p (.b)],[],Bool,fun d=>kg F d.1.1 d.1.2.1,fun d r=>((r,()),())⟩ fun ax aB=>by
 conv=>rhs;simp only [kg,a6]
 kernel_rfl
noncomputable def aiA (F:Nat):aT aR:=(aiz F).bT 51 0 F ⟨[2,3,6,8,9],[.p (.B 0),.p (.B 1),.p (.l 3),.p (.R 2),.p (.i .i64)],[h2,dE,.r 3 true],
 [⟨⟨.nm,[2,3,6,8],[.p (.B 0),.p (.B 1),.p (.l 3),.p (.R 2)],[h2,dE,.r 3 true]⟩,Unit,fun d r=>(((),(),d.1.2.2.1,(),()),(d.2.1,d.2.2.1,d.2.2.2.1,()))⟩,
  ⟨⟨.rt,[4],[.p (.i .i64)],[.d,.d,.d]⟩,Int,fun d r=>((r,()),((),(),(),()))⟩],
 fun k d=>a9 (xi (dF d.2.1) d.2.2.2.1 k d.1.2.2.2.2.1)⟩ (bI.bS (fun d=>rfl) fun k ax aB q h=>by
 conv=>rhs;simp only [xi,a6];simp only [bM]
 kernel_rfl)
noncomputable def aiB (F:Nat):aT aR:=(aiA F).bT 51 4 F ⟨[2,3,6,8,10,11],[.p (.B 0),.p (.B 1),.p (.l 3),.p (.R 2),.p (.i .i64),.p (.i .i64)],[h2,dE,.r 3 true],
 [⟨⟨.nm,[2,3,6,8,10],[.p (.B 0),.p (.B 1),.p (.l 3),.p (.R 2),.p (.i .i64)],[h2,dE,.r 3 true]⟩,Unit,fun d r=>(((),(),d.1.2.2.1,(),d.1.2.2.2.2.1,()),(d.2.1,d.2.2.1,d.2.2.2.1,()))⟩,
  ⟨⟨.rt,[4],[.p (.i .i64)],[.d,.d,.d]⟩,Int,fun d r=>((r,()),((),(),(),()))⟩],
 fun k d=>a9 (xj (dF d.2.1) d.2.2.2.1 d.1.2.2.2.2.1 k d.1.2.2.2.2.2.1)⟩ (bI.bS (fun d=>rfl) fun k ax aB q h=>by
 conv=>rhs;simp only [xj,a6];simp only [bM]
 kernel_rfl)
noncomputable def aiC (F:Nat):aT aR:=(aiB F).bT 51 2 F ⟨[2,3,6,8,10],[.p (.B 0),.p (.B 1),.p (.l 3),.p (.R 2),.p (.i .i64)],[h2,dE,.r 3 true],
 [⟨⟨.nm,[2,3,6,8],[.p (.B 0),.p (.B 1),.p (.l 3),.p (.R 2)],[h2,dE,.r 3 true]⟩,Unit,fun d r=>(((),(),d.1.2.2.1,(),()),(d.2.1,d.2.2.1,d.2.2.2.1,()))⟩,
  ⟨⟨.rt,[4],[.p (.i .i64)],[.d,.d,.d]⟩,Int,fun d r=>((r,()),((),(),(),()))⟩],
 fun k d=>a9 (uc F (dF d.2.1) d.2.2.2.1 k d.1.2.2.2.2.1)⟩ (bI.bS (fun d=>rfl) fun k ax aB q h=>by
 conv=>rhs;simp only [uc,a6];simp only [bM]
 kernel_rfl)
noncomputable def aiE (F:Nat):aT aR:=(aiC F).bT 51 8 F ⟨[2,3,6,8,12,13,14],[.p (.B 0),.p (.B 1),.p (.l 3),.p (.l 3),.p (.i .i64),.p (.l 3),.p (.i .i64)],[h2,dE],
 [⟨⟨.nm,[2,3,6,8,12],[.p (.B 0),.p (.B 1),.p (.l 3),.p (.l 3),.p (.i .i64)],[h2,dE]⟩,Unit,fun d r=>(((),(),d.1.2.2.1,d.1.2.2.2.1,d.1.2.2.2.2.1,()),(d.2.1,d.2.2.1,()))⟩,
  ⟨⟨.rt,[4],[.p (.i .i64)],[.d,.d]⟩,Int,fun d r=>((r,()),((),(),()))⟩],
 fun k d=>a9 (ud F (dF d.2.1) d.1.2.2.2.1 d.1.2.2.2.2.2.1 k d.1.2.2.2.2.2.2.1)⟩ (bI.bS (fun d=>rfl) fun k ax aB q h=>by
 conv=>rhs;simp only [ud,a6];simp only [bM]
 kernel_rfl)
noncomputable def aiF (F:Nat):aT aR:=(aiE F).bT 51 6 F ⟨[2,3,6,8,12],[.p (.B 0),.p (.B 1),.p (.l 3),.p (.l 3),.p (.i .i64)],[h2,dE],
 [⟨⟨.nm,[2,3,6],[.p (.B 0),.p (.B 1),.p (.l 3)],[h2,dE]⟩,Unit,fun d r=>(((),(),d.1.2.2.1,()),(d.2.1,d.2.2.1,()))⟩,
  ⟨⟨.rt,[4],[.p (.i .i64)],[.d,.d]⟩,Int,fun d r=>((r,()),((),(),()))⟩],
 fun k d=>a9 (xk F (dF d.2.1) (eQ d.2.2.1) d.1.2.2.2.1 k d.1.2.2.2.2.1)⟩ (bI.bS (fun d=>rfl) fun k ax aB q h=>by
 conv=>rhs;simp only [xk,a6];simp only [bM]
 kernel_rfl)
noncomputable def aiG (F:Nat):aT aR:=(aiF F).bT 51 10 F ⟨[2,3,6,15],[.p (.B 0),.p (.B 1),.p (.l 3),.p (.i .i64)],[h2,dE],
 [⟨⟨.nm,[2,3,6],[.p (.B 0),.p (.B 1),.p (.l 3)],[h2,dE]⟩,Unit,fun d r=>(((),(),d.1.2.2.1,()),(d.2.1,d.2.2.1,()))⟩,
  ⟨⟨.rt,[4],[.p (.i .i64)],[.d,.d]⟩,Int,fun d r=>((r,()),((),(),()))⟩],
 fun k d=>a9 (rU (dF d.2.1) k d.1.2.2.2.1)⟩ (bI.bS (fun d=>rfl) fun k ax aB q h=>by
 conv=>rhs;simp only [rU,a6];simp only [bM]
 kernel_rfl)
noncomputable def Nz (F:Nat) (k:Nat) (aG:J.aV) (aW:J.aP) (ed:(List Int) × (List Int) × Bool) (j3:Int):=c0 (True) (a9 (nO F aG aW ed k j3))
theorem Rp (F:Nat) (k:Nat) (aG:J.aV) (aW:J.aP) (ed:(List Int) × (List Int) × Bool) (j3:Int):a9 (nO F aG aW ed k j3)=Nz F k aG aW ([],ed.2.1,false) j3:=(show a9 (nO F aG aW ed k j3)=a9 (nO F aG aW ([],ed.2.1,false) k j3) by kernel_rfl).trans (dt trivial).symm
noncomputable def aiH (F:Nat):aT aR:=(aiG F).bT 51 12 F ⟨[2,3,6,16],[.p (.B 0),.p (.B 1),.p (.l 3),.p (.i .i64)],[h2,dE],
 [⟨⟨.nm,[2,3,6],[.p (.B 0),.p (.B 1),.p (.l 3)],[h2,dE]⟩,Unit,fun d r=>(((),(),d.1.2.2.1,()),(d.2.1,d.2.2.1,()))⟩,
  ⟨⟨.rt,[4],[.p (.i .i64)],[.d,.d]⟩,Int,fun d r=>((r,()),((),(),()))⟩],
 fun k d=>Nz F k (dF d.2.1) (eQ d.2.2.1) ([],d.1.2.2.1,false) d.1.2.2.2.1⟩ (bI.bS (fun d=>dr) fun k ax aB q h=>by
 obtain ⟨_,_,(aY:List Int),(v1:Int),_⟩:=ax
 obtain ⟨⟨(v2:List Int),(bq:Int),(v4:Int),(bW:Int),(v6:Int),(cm:List Int),(cv:Int),_⟩,⟨(cB:List J.al),(v10:List Int),(v11:List (List J.Field)),(da:List (List (List UInt8))),(dG:List (List J.Target)),_⟩,_⟩:=aB
 conv=>rhs;change Option.map (α:=Unit ⊕ Int) _ (Nz F (k+ 1) (⟨v2,bq,v4,bW,v6,cm,cv⟩:J.aV) (⟨cB,v10,v11,da,dG⟩:J.aP) ([],aY,false) v1);rw [<-Rp F (k+ 1) (⟨v2,bq,v4,bW,v6,cm,cv⟩:J.aV) (⟨cB,v10,v11,da,dG⟩:J.aP) ([],aY,false) v1];simp only [nO,a6,Rp];simp only [bM]
 kernel_rfl)
noncomputable def NB (F:Nat) (k:Nat) (aG:J.aV) (ed:(List Int) × (List Int) × Bool) (h0:Int) (nk:List Int) (pN:Int):=c0 (True) (a9 (oX F aG ed h0 nk k pN))
theorem Rr (F:Nat) (k:Nat) (aG:J.aV) (ed:(List Int) × (List Int) × Bool) (h0:Int) (nk:List Int) (pN:Int):a9 (oX F aG ed h0 nk k pN)=NB F k aG ([],ed.2.1,false) h0 nk pN:=(show a9 (oX F aG ed h0 nk k pN)=a9 (oX F aG ([],ed.2.1,false) h0 nk k pN) by kernel_rfl).trans (dt trivial).symm
noncomputable def aiI (F:Nat):aT aR:=(aiH F).bT 51 16 F ⟨[2,3,6,17,18,19],[.p (.B 0),.p (.B 1),.p (.l 3),.p (.i .i64),.p (.l 3),.p (.i .i64)],[h2,dE],
 [⟨⟨.nm,[2,3,6,17],[.p (.B 0),.p (.B 1),.p (.l 3),.p (.i .i64)],[h2,dE]⟩,Unit,fun d r=>(((),(),d.1.2.2.1,d.1.2.2.2.1,()),(d.2.1,d.2.2.1,()))⟩,
  ⟨⟨.rt,[4],[.p (.i .i64)],[.d,.d]⟩,Int,fun d r=>((r,()),((),(),()))⟩],
 fun k d=>NB F k (dF d.2.1) ([],d.1.2.2.1,false) d.1.2.2.2.1 d.1.2.2.2.2.1 d.1.2.2.2.2.2.1⟩ (bI.bS (fun d=>dr) fun k ax aB q h=>by
 obtain ⟨_,_,(aY:List Int),(v1:Int),(v2:List Int),(bq:Int),_⟩:=ax
 obtain ⟨⟨(v4:List Int),(bW:Int),(v6:Int),(cm:Int),(cv:Int),(cB:List Int),(v10:Int),_⟩,⟨(v11:List J.al),(da:List Int),(dG:List (List J.Field)),(dZ:List (List (List UInt8))),(fq:List (List J.Target)),_⟩,_⟩:=aB
 conv=>rhs;change Option.map (α:=Unit ⊕ Int) _ (NB F (k+ 1) (⟨v4,bW,v6,cm,cv,cB,v10⟩:J.aV) ([],aY,false) v1 v2 bq);rw [<-Rr F (k+ 1) (⟨v4,bW,v6,cm,cv,cB,v10⟩:J.aV) ([],aY,false) v1 v2 bq];simp only [oX,a6,Rr];simp only [bM]
 kernel_rfl)
noncomputable def NA (F:Nat) (k:Nat) (aG:J.aV) (aW:J.aP) (ed:(List Int) × (List Int) × Bool) (h0:Int):=c0 (True) (a9 (qk F aG aW ed k h0))
theorem Rq (F:Nat) (k:Nat) (aG:J.aV) (aW:J.aP) (ed:(List Int) × (List Int) × Bool) (h0:Int):a9 (qk F aG aW ed k h0)=NA F k aG aW ([],ed.2.1,false) h0:=(show a9 (qk F aG aW ed k h0)=a9 (qk F aG aW ([],ed.2.1,false) k h0) by kernel_rfl).trans (dt trivial).symm
noncomputable def aiJ (F:Nat):aT aR:=(aiI F).bT 51 14 F ⟨[2,3,6,17],[.p (.B 0),.p (.B 1),.p (.l 3),.p (.i .i64)],[h2,dE],
 [⟨⟨.nm,[],[],[h2,dE]⟩,Unit,fun d r=>((),(d.2.1,d.2.2.1,()))⟩,
  ⟨⟨.rt,[4],[.p (.i .i64)],[.d,.d]⟩,Int,fun d r=>((r,()),((),(),()))⟩],
 fun k d=>NA F k (dF d.2.1) (eQ d.2.2.1) ([],d.1.2.2.1,false) d.1.2.2.2.1⟩ (bI.bS (fun d=>dr) fun k ax aB q h=>by
 obtain ⟨_,_,(aY:List Int),(v1:Int),_⟩:=ax
 obtain ⟨⟨(v2:List Int),(bq:Int),(v4:Int),(bW:Int),(v6:Int),(cm:List Int),(cv:Int),_⟩,⟨(cB:List J.al),(v10:List Int),(v11:List (List J.Field)),(da:List (List (List UInt8))),(dG:List (List J.Target)),_⟩,_⟩:=aB
 conv=>rhs;change Option.map (α:=Unit ⊕ Int) _ (NA F (k+ 1) (⟨v2,bq,v4,bW,v6,cm,cv⟩:J.aV) (⟨cB,v10,v11,da,dG⟩:J.aP) ([],aY,false) v1);rw [<-Rq F (k+ 1) (⟨v2,bq,v4,bW,v6,cm,cv⟩:J.aV) (⟨cB,v10,v11,da,dG⟩:J.aP) ([],aY,false) v1];simp only [qk,a6,Rr,Rq];simp only [bM]
 kernel_rfl)
noncomputable def aiK (F:Nat):aT aR:=(aiJ F).rt 51 ⟨[io,gX],[],[.p (.i .i64)],[],Int,fun d=>Af F (dF d.1.1) (eQ d.1.2.1),fun d r=>((r,()),())⟩ fun ax aB=>by
 obtain ⟨⟨(aY:List Int),(v1:Int),(v2:Int),(bq:Int),(v4:Int),(bW:List Int),(v6:Int),_⟩,⟨(cm:List J.al),(cv:List Int),(cB:List (List J.Field)),(v10:List (List (List UInt8))),(v11:List (List J.Target)),_⟩,_⟩:=ax
 conv=>rhs;simp only [Af,a6,Rp,Rq]
 kernel_rfl
noncomputable def aiL (F:Nat):aT aR:=(aiK F).rt 20 ⟨[io,gX],[],[.p (.i .i64)],[],Int,fun d=>qo F (dF d.1.1) (eQ d.1.2.1),fun d r=>((r,()),())⟩ fun ax aB=>by
 conv=>rhs;simp only [qo,a6]
 kernel_rfl
noncomputable def aiM (F:Nat):aT aR:=(aiL F).rt 14 ⟨[io],[],[.p (.i .i64)],[],Int,fun d=>Vb (dF d.1.1),fun d r=>((r,()),())⟩ fun ax aB=>by
 conv=>rhs;simp only [Vb,a6]
 kernel_rfl
noncomputable def aiN (F:Nat):aT aR:=(aiM F).bT 18 0 F ⟨[0,1,5],[.p (.l 3),.p (.l 3),.p (.i .i64)],[],
 [⟨⟨.nm,[],[],[]⟩,Unit,fun d r=>((),())⟩,
  ⟨⟨.rt,[4],[.p (.b)],[]⟩,Bool,fun d r=>((r,()),())⟩],
 fun k d=>a9 (rZ d.1.1 d.1.2.1 k d.1.2.2.1)⟩ (bI.bS (fun d=>rfl) fun k ax aB q h=>by
 conv=>rhs;simp only [rZ,a6];simp only [bM]
 kernel_rfl)
noncomputable def aiP (F:Nat):aT aR:=(aiN F).rt 18 ⟨[.p (.l 3),.p (.l 3)],[],[.p (.b)],[],Bool,fun d=>nR F d.1.1 d.1.2.1,fun d r=>((r,()),())⟩ fun ax aB=>by
 conv=>rhs;simp only [nR,a6]
 kernel_rfl
noncomputable def aiQ (F:Nat):aT aR:=(aiP F).rt 32 ⟨[io,io],[],[.p (.b)],[],Bool,fun d=>xO F (dF d.1.1) (dF d.1.2.1),fun d r=>((r,()),())⟩ fun ax aB=>by
 conv=>rhs;simp only [xO,a6]
 kernel_rfl
noncomputable def aiR (F:Nat):aT aR:=(aiQ F).rt 17 ⟨[io,.p (.i .i64),.p (.i .i64),io],[],[.p (.b)],[],Bool,fun d=>oV F (dF d.1.1) d.1.2.1 d.1.2.2.1 (dF d.1.2.2.2.1),fun d r=>((r,()),())⟩ fun ax aB=>by
 conv=>rhs;simp only [oV,a6]
 kernel_rfl
noncomputable def NE (F:Nat) (k:Nat) (h4:List Int) (hO:(List Int) × (List Int) × Bool) (mj:Int):=c0 (True) (a9 (nP F h4 hO k mj))
theorem Ru (F:Nat) (k:Nat) (h4:List Int) (hO:(List Int) × (List Int) × Bool) (mj:Int):a9 (nP F h4 hO k mj)=NE F k h4 (hO.1,hO.2.1,false) mj:=(show a9 (nP F h4 hO k mj)=a9 (nP F h4 (hO.1,hO.2.1,false) k mj) by kernel_rfl).trans (dt trivial).symm
noncomputable def aiS (F:Nat):aT aR:=(aiR F).bT 40 0 F ⟨[2,7,8,10],[.p (.l 3),.p (.l 3),.p (.l 3),.p (.i .i64)],[],
 [⟨⟨.nm,[],[],[]⟩,Unit,fun d r=>((),())⟩,
  ⟨⟨.rt,[6],[.p (.i .i64)],[]⟩,Int,fun d r=>((r,()),())⟩],
 fun k d=>NE F k d.1.1 (d.1.2.1,d.1.2.2.1,false) d.1.2.2.2.1⟩ (bI.bS (fun d=>dr) fun k ax aB q h=>by
 obtain ⟨(aY:List Int),(v1:List Int),(v2:List Int),(bq:Int),_⟩:=ax
 conv=>rhs;change Option.map (α:=Unit ⊕ Int) _ (NE F (k+ 1) aY (v1,v2,false) bq);rw [<-Ru F (k+ 1) aY (v1,v2,false) bq];simp only [nP,a6,Ru];simp only [bM]
 kernel_rfl)
noncomputable def aiT (F:Nat):aT aR:=(aiS F).rt 40 ⟨[io,gX,.p (.l 3)],[],[.p (.i .i64)],[],Int,fun d=>Ag F (dF d.1.1) (eQ d.1.2.1) d.1.2.2.1,fun d r=>((r,()),())⟩ fun ax aB=>by
 obtain ⟨⟨(aY:List Int),(v1:Int),(v2:Int),(bq:Int),(v4:Int),(bW:List Int),(v6:Int),_⟩,⟨(cm:List J.al),(cv:List Int),(cB:List (List J.Field)),(v10:List (List (List UInt8))),(v11:List (List J.Target)),_⟩,(da:List Int),_⟩:=ax
 conv=>rhs;simp only [Ag,a6,Ru]
 kernel_rfl
noncomputable def GG (F:Nat):aT aR:=(aiT F).rt 13 ⟨[io,gX,.p (.l 3)],[],[.p (.i .i64)],[],Int,fun d=>rR F (dF d.1.1) (eQ d.1.2.1) d.1.2.2.1,fun d r=>((r,()),())⟩ fun ax aB=>by
 conv=>rhs;simp only [rR,a6]
 kernel_rfl
end Go.Proofs.YteeliipnilghaaaGreat
namespace J
def p' (n:Int):Nat->List Int->Int->Option (List Int)
 | 0,_,_=>none
 | k+ 1,l,i=>cond (decide (i <n)) ((bR 8 l [i]).bind fun l'=>p' n k l' (aE (i+ 1))) (some l)
def rJ (F:Nat) (n:Int):Option (List Int):=p' n F [] 0
end J
namespace Go.Proofs.YteeliipnilghaaaGreat
open Go Go.RowKit av J bz
set_option maxHeartbeats 4000000
set_option maxRecDepth 20000
def wx (a:Nat):db Int where
 size:=1
 rd _ _ cs q:=cs= [.pointer (some ⟨a,q.toNat,none⟩)]
 len h:=by subst h;rfl
 one h v ag:=by subst h;simp at ag;subst ag;rfl
 law _ h:=h
theorem aup {F:Nat->Prop} {w:World} {g:Nat} {i:Int}:(wx g).rd F w [.pointer (some ⟨g,0 +i.toNat* 1,none⟩)] i:=by
 show [_]= [_]
 rw [Nat.zero_add,Nat.mul_one]
theorem aqX:(Tryz.prog.info? 109).map (fun i=>(i.zero,i.size,i.bytes))=some (some (.pointer none),1,8):=by kernel_rfl
theorem alu {W:World} {X:List Nat} {F:Nat} {A:hU} {n c:Nat} {r:List Int} {M0:List Nat} (aA:n<= 9223372036854775807) (dB:0 <n->A=some ⟨di A,0,none⟩) (hm:bn W M0 X W [] []) (h:J.rJ F (n:Int)=some r) :
 Calls Tryz.prog 39 [.slice A n c].toArray W (fun e w'=>∃ cN:Option Addr,∃ bC:Nat,∃ xs:List Value,e= .returned (.q cN bC r)/\bn W M0 X w' [a7.row 109 1 (.q cN bC r) r xs] [bt.rows (wx (di A)) xs r]):=by
 refine enter Tryz.func39 rfl Tryz.ntmps39 rfl fun a af=>?_;rw [J.rJ] at h
 refine n0 [] [(0,.slice A n c)] af fun a af=>n0 [] [(3,.slice none 0 0)] af fun a af=>?_
 have hm:=hm.ER (α:=Int) 109 1;have hm:=hm.more (y:=bt.rows (wx (di A)) [] []) rfl
 refine wp_seq_k fun K sj=>n0 [] [(6,.i n),(7,.i 0)] af fun a af=>?_
 refine G' (fun a w=>∃ (dW:hU) (c1:Nat) (rH:mH),Fr ⟨18,[]⟩ [(3,.q dW c1 r)] a/\bn W M0 X w [a7.row 109 1 (.q dW c1 r) r rH] [bt.rows (wx (di A)) rH r]) (fun K po=>?_) ?_
 · refine Mn (fun (bf:Nat) a w=>∃ (dW:hU) (c1:Nat) (l1:z') (rH:mH) (i:Int),Fr ⟨18,[]⟩ [(0,.slice A n c),(3,.q dW c1 l1),(6,.i n),(7,.i i)] a/\bn W M0 X w [a7.row 109 1 (.q dW c1 l1) l1 rH] [bt.rows (wx (di A)) rH l1]/\ 0 <=i/\J.p' n bf l1 i=some r) F ⟨none,0,[],[],0,af.cut,hm,Int.le_refl _,h⟩ ?_ ?_
   · rintro a w ⟨dW,c1,l1,rH,i,af,hm,hi,h⟩;exact absurd h (by simp [J.p'])
   rintro bf a w ⟨dW,c1,l1,rH,i,af,hm,hi,h⟩ K Dy;rw [J.p'] at h
   refine n0 [] [(8,.bool (decide (i <n)))] af fun a af=>?_
   refine wp_seq_k fun K Dz=>Hb (af.g rfl) h (fun ah h=>?_) (fun ah h=>?_)
   · refine wp_skip <| Dz _ _ <| wp_seq_k fun K OB=>?_
     have bs:i <(n:Int):=of_decide_eq_true ah
     obtain ⟨g,rfl⟩:∃ g,A=some ⟨g,0,none⟩:=⟨_,dB (by omega)⟩
     obtain ⟨cj,DZ,h⟩:=J.fW h
     refine G' (fun a w=>∃ (cZ:hU) (c2:Nat) (Cy:mH),Fr ⟨18,[]⟩ [(0,.slice (some ⟨g,0,none⟩) n c),(3,.q cZ c2 cj),(6,.i n),(7,.i i)] a/\bn W M0 X w [a7.row 109 1 (.q cZ c2 cj) cj Cy] [bt.rows (wx g) Cy cj]) (fun K Dx=>?_) ?_
     · refine n0 [] [(4,.i i)] af fun a af=>?_
       refine mL <| jP 3 [] [(10,.q dW c1 l1),(11,.slice (some ⟨g,0,none⟩) n c),(12,.i i)] af fun a af=>nr wn (nF Tryz.underlying22 Tryz.sizeOf3 rfl (af.g rfl) (af.g rfl) rfl ⟨hi,bs⟩) af rfl rfl fun a af=>?_
       refine aai (cs:=[.pointer (some ⟨g,0 +i.toNat* 1,none⟩)]) wn (zZ (vs:=[(0,.pointer (some ⟨g,0 +i.toNat* 1,none⟩))]) Tryz.underlying73 Tryz.sizeOf109 Tryz.zeroValue109 rfl rfl rfl ⟨⟨(af.g rfl),rfl⟩,trivial⟩ (by kernel_rfl)) af hm rfl rfl fun a bB w _ af hm=>?_
       refine Fq (T:=wx g) (ml:=[i]) 1 0 0 hm rfl rfl rfl Tryz.underlying73 aqX rfl rfl DZ rfl rfl ⟨_,_,rfl,aup,rfl⟩ wn rfl (af.g rfl) (af.g rfl) af rfl rfl fun a cZ c2 Cy w af hm=>?_
       refine jP 1 [] [(3,.q cZ c2 cj)] af fun a af=>wpList_nil ?_
       exact Dx _ _ ⟨cZ,c2,Cy,af.cut,hm.hN [0]⟩
     rintro a w ⟨cZ,c2,Cy,af,hm⟩
     refine OB _ _ <| Wf [] [(7,.i (J.aE (i+ 1)))] af fun a af=>?_
     exact Dy _ _ ⟨cZ,c2,cj,Cy,J.aE (i+ 1),af.cut,hm,by rw [show J.aE (i+ 1)=i+ 1 by unfold J.aE;omega];omega,h⟩
   · refine wp_exit <| p9 (p9 (Cx ?_));obtain rfl:=cV h;exact po _ _ ⟨dW,c1,rH,af.cut,hm⟩
 rintro a w ⟨dW,c1,rH,af,hm⟩
 refine sj _ _ <| FG [] [(2,.q dW c1 r)] af fun a af=>wp_ret ?_;refine Fa Tryz.results39 af rfl ?_;exact ⟨dW,c1,rH,rfl,hm⟩
theorem aaS {n:Int}:∀ {k:Nat} {l r:List Int} {i:Int},J.p' n k l i=some r->n<= 9223372036854775807 -> 0 <=i->(∀ q ∈ l,0 <=q/\q <n)-> ∀ q ∈ r,0 <=q/\q <n
 | 0,l,r,i,h,_,_,_=>by simp [J.p'] at h
 | k+ 1,l,r,i,h,aA,hi,ak=>by
   rw [J.p'] at h
   cases ah:decide (i <n) with
   | false=>rw [ah] at h;obtain rfl:=cV h;exact ak
   | true=>
     rw [ah] at h
     have bs:=of_decide_eq_true ah
     obtain ⟨cj,aa,h⟩:=J.fW h
     have e:J.aE (i+ 1)=i+ 1 :=by unfold J.aE;omega
     rw [e] at h
     refine aaS h aA (by omega) fun q aQ=>?_
     have:cj=l++[i]:=by
      unfold bR at aa
      split at aa
      · exact (cV aa).symm
      · cases aa
     rw [this] at aQ
     rcases List.mem_append.1 aQ with aQ | aQ
     · exact ak q aQ
     · cases List.mem_singleton.1 aQ;exact ⟨hi,bs⟩
theorem aaX {ρ:List Value} {bl:List (aF bO.El)} {F:Nat->Prop} {w:World} {g n c:Nat} (aN:ρ[0]? =some (.slice (some ⟨g,0,none⟩) n c)) (aw:b1 bl[0]? = 0):∀ {r:List Int} {xs:List Value},(∀ q ∈ r,0 <=q/\q <(n:Int))->dO (wx g) F w xs r->qi ρ bl 0 0 1 r xs
 | [],xs,_,h=>h
 | q::r,xs,aQ,h=>by
   obtain ⟨cs,ys,rfl,I,aa⟩:=h
   have I:cs= [.pointer (some ⟨g,q.toNat,none⟩)]:=I
   subst I
   have:=aQ q (by simp)
   exact ⟨_,_,rfl,⟨trivial,_,aN,Nat.zero_le _,fun _=>⟨_,_,_,rfl,this.1,this.2,by simp [di]⟩⟩,aaX aN aw (fun q sF=>aQ q (by simp [sF])) aa⟩
@[reducible] noncomputable def P4 (F:Nat):ib bO:=⟨[.p (.R 0)],[.r 3 true],[.p (.P 0 1)],[.r 3 true],List Int,fun d=>rJ F d.2.1.length,fun d r=>((r,()),(d.2.1,()))⟩
theorem ama (F:Nat):(P4 F).ho.GI aR 39 :=by
 intro ax aB lm h W M0 X ρ w vs hm ag
 obtain ⟨⟨⟩,⟨⟩⟩:=ax
 obtain ⟨l,⟨⟩⟩:=aB
 have h:Option.map _ (J.rJ F (l:List Int).length)=some lm:=h
 obtain ⟨r,ay,rfl⟩:=Option.map_eq_some_iff.1 h
 have hm:Mem bO W M0 X [.r 3 0 0 l] ρ w:=hm
 have ag:a3 bO (bi X [.r 3 0 0 l] ρ w) w ρ [.r 3 0 0 l] [.r 0 0] vs:=ag
 obtain ⟨aN,Ba⟩:=hm.Bp (i:=0) rfl
 obtain ⟨A,c,xs,rfl,n',_⟩:=hm.ok 0 _ _ rfl Ba
 simp only [a3,au] at ag
 obtain ⟨v,_,rfl,⟨_,u,hu,_,ag⟩,rfl⟩:=ag
 rw [Ba] at hu
 cases hu
 obtain rfl:=ag rfl
 have qJ:=n'.cap
 have H6:List.length (α:=Int) l<=c:=qJ.1
 have aA:List.length (α:=Int) l<= 9223372036854775807 :=by have:=qJ.2.1;simp only [maxLen] at this;omega
 have dB:0 <List.length (α:=Int) l->A=some ⟨di A,0,none⟩:=fun aD=>by
  obtain ⟨g,rfl⟩:=qJ.2.2.2 (by omega)
  rfl
 refine ⟨⟨.ret (.pp 0 0 1 r),[.r 3 0 0 l],[]⟩,by kernel_rfl,?_⟩
 refine (alu (X:=[]) (M0:=[]) aA dB (bn.start [] [] w [] [] (by simp) (by simp [b4]) (by simp) (by simp [b4]) (by simp)) ay).mono fun e w' ⟨cN,bC,ys,he,ao⟩=>?_
 refine ⟨ρ,hm.ff ao.b6,Mem.Ca ao.b6,fun k ai _=>ao.b6.block k ai (by simp),?_⟩
 subst he
 show au _ _ _ _ _ (.pp 0 0 1 r) _
 simp only [au]
 have ap:(a7.row 109 1 (.slice cN r.length bC) r ys).ok w':=ao.e 0 rfl
 obtain ⟨_,_,e1,e2,e3,e4,e5⟩:=Fm ap
 simp only [Value.slice.injEq,true_and] at e1
 obtain ⟨rfl,rfl⟩:=e1
 refine ⟨cN,bC,rfl,e2,e4,fun b2=>?_⟩
 have gS:0 <r.length:=List.length_pos_iff.2 b2
 have pt:cN≠none:=fun e=>by have:=e4 e;omega
 have aoi:=e5 pt
 have gm:∀ q ∈ r,0 <=q/\q <((List.length (α:=Int) l:Nat):Int):=aaS ay (Int.ofNat_le.2 aA) (Int.le_refl _) (by simp)
 have n9:0 <List.length (α:=Int) l:=by
  obtain ⟨q,aQ⟩:=List.exists_mem_of_ne_nil r b2
  have:=gm q aQ
  omega
 have aoq:=dB n9
 obtain ⟨g,rfl⟩:∃ g,A=some ⟨g,0,none⟩:=⟨_,aoq⟩
 obtain ⟨g',rfl⟩:∃ g',cN=some ⟨g',0,none⟩:=⟨_,aoi⟩
 have bs:=ao.lt g' (by simp [b4,a7.row,Value.ownBlock])
 have H_:w.heap.size<=g':=bs.2.resolve_left (by simp)
 have cX:W.heap.size<=w.heap.size:=hm.b6.size
 refine ⟨rfl,⟨fun OD=>?_,fun ap=>?_,bs.1⟩,ys,aaX Ba rfl gm (ao.d 0 rfl),?_⟩
 · have:g' <W.heap.size:=(hm.hz _ OD).1;omega
 · have:g' <w.heap.size:=(hm.lt _ ap).1;omega
 · have iU:w'.ownsRow 0 109 1 (.slice (some ⟨g',0,none⟩) r.length bC) r.length ys:=ap
   have:=rp gS (Or.inl iU)
   obtain ⟨bB,bk,bH,bU,_⟩:=this
   simp only [Option.some.injEq,Addr.mk.injEq,and_true] at bk
   subst bk
   exact bU
theorem alo (F:Nat):kO aR 39 ((P4 F).run aR):=fun ys bl r aj=>Hk (ama F) ys bl r (zw aj)
end Go.Proofs.YteeliipnilghaaaGreat
namespace Go.Proofs.YteeliipnilghaaaGreat
open Go Go.RowKit av J bz
@[reducible] def Bm:ib bO:=⟨[],[],[.p .b],[],Bool,fun _=>some true,fun _ r=>((r,()),())⟩
theorem am2:Bm.Eq rP (Di rP (GG 2000).t.kb (fun _ _=>none) 100) (fun _ _=>none) 16 :=fun ax aB=>by
 kernel_rfl
theorem VX (g:Nat) (h:List (aI bO.El)->List (aF bO.El)->D (fu bO.El)):kO aR g h=kO rP g h:=by kernel_rfl
theorem aln:kO rP 16 (Bm.run rP):=
 have ak:xd rP (fun _ _=>none):=fun g fn c _ _ _=>s7 (fun _=>rfl) c
 have hc:=((GG 2000).ok pc).ce
 have H6:LU rP (GG 2000).t.kb:=⟨hc.cq,fun g h aw=>(VX g h) ▸ hc.ok g h aw⟩
 fun ys bl r aj=>C9 WY (n2 WY H6 ak 100) ak rfl (c:=Bm.ho) (fA.Eq.v am2) ys bl r (zw aj)
theorem axd:Bm.run aR=Bm.run rP:=by kernel_rfl
noncomputable def aiU (F:Nat):aT aR:=(GG F).add 16 (Bm.run aR) (axd ▸ (VX 16 _) ▸ aln)
noncomputable def aiV (F:Nat):aT aR:=(aiU F).add 39 ((P4 F).run aR) (alo F)
end Go.Proofs.YteeliipnilghaaaGreat
namespace Go.Proofs.YteeliipnilghaaaGreat
open Go Go.RowKit av J bz
set_option maxRecDepth 100000
@[reducible] def BK:bK:=.c 24 [.R 2,.i .i64,.i .i64,.i .i64,.i .i64,.l 3,.i .i64]
@[reducible] def v5:bK:=.c 24 [.R 1,.i .i64,.i .i64,.i .i64,.i .i64,.l 3,.i .i64]
@[reducible] def eA:bK:=.c 24 [.l 3,.i .i64,.i .i64,.i .i64,.i .i64,.l 3,.i .i64]
@[reducible] def BL:bK:=.c 24 [.R 7,.i .i64,.i .i64,.i .i64,.i .i64,.l 3,.i .i64]
@[reducible] def JC:bK:=.c 24 [.R 6,.i .i64,.i .i64,.i .i64,.i .i64,.l 3,.i .i64]
@[reducible] def zp:dp:=.a [.l 3,.i .i64,.i .i64,.i .i64,.i .i64,.l 3,.i .i64]
@[reducible] def BM:bK:=.c 108 [.B 1,.l 134,.l 3,.l 124,.l 120,.l 121,.M 3]
@[reducible] def BN:bK:=.c 108 [.B 0,.l 134,.l 3,.l 124,.l 120,.l 121,.M 3]
@[reducible] def jb:bK:=.c 30 [.l 134,.l 3,.l 124,.l 120,.l 121]
@[reducible] def E1:dp:=.a [.l 134,.l 3,.l 124,.l 120,.l 121]
abbrev agQ:=(Unit ×
 (List Int × Int × Int × Int × Int × List Int × Int × Unit) ×
  (List al × List Int × List (List J.Field) × List (List (List UInt8)) × List (List J.Target) × Unit) ×
   (Unit × Unit) × (List Int × Unit) × (Unit × Unit) × List Int × (Unit × Int × Int × Int × Int × List Int × Int × Unit) × List Int × Unit)
abbrev agR:=(Unit × (Unit × List al × List Int × List (List J.Field) × List (List (List UInt8)) × List (List J.Target) × Unit × Unit) × (Unit × Int × Int × Int × Int × List Int × Int × Unit) × List Int × List (Int × Int) × Unit)
abbrev LI:=(Unit × List al × List Int × List (List J.Field) × List (List (List UInt8)) × List (List J.Target) × Unit × Unit)
abbrev w5:=(List al × List Int × List (List J.Field) × List (List (List UInt8)) × List (List J.Target) × Unit)
abbrev agS:=(List Int × Unit × Unit × Unit × Unit × (Unit × Unit × Unit) × Int × Unit)
abbrev agT:=(List Int × Unit × Unit × Unit × Unit × (Unit × Unit × Unit) × Unit)
abbrev iI:=(List Int × Int × Int × Int × Int × List Int × Int × Unit)
abbrev w6:=(Unit × Int × Int × Int × Int × List Int × Int × Unit)
def rK (F:Nat) (cK:Int) (gz:List al) (lB:List Int) (wM:List (List J.Field)) (Gh:List (List (List UInt8))) (T0:List (List J.Target)) (wP:Int) (Co:Int) (wW:Int) (p8:Int) (FV:List Int) (F0:Int) (nA:List Int) (Cl:List (Int × Int)):Option ((Int × Unit) × LI × w6 × List Int × List (Int × Int) × Unit):=
 cond (decide (cK= 0) || decide (wP <cK)) (some ((cK,()),((),gz,lB,wM,Gh,T0,(),()),((),wP,Co,wW,p8,FV,F0,()),nA,Cl,())) (
cond ((du Cl cK).isSome) (some ((((du Cl cK).getD 0),()),((),gz,lB,wM,Gh,T0,(),()),((),wP,Co,wW,p8,FV,F0,()),nA,Cl,())) (
(idx nA (aE (cK+ 1))).bind fun KP=>
(if (0 :Int)<=p8/\p8<=(↑nA.length:Int)/\(↑nA.length:Int)<=(↑nA.length:Int) then some () else none).bind fun aDb=>
(if (0 :Int)<=cK/\cK<=aE (cK+aE (3 +KP))/\aE (cK+aE (3 +KP))<=(↑nA.length:Int) then some () else none).bind fun aDc=>
(tr (decide (0 <nA.length))).bind fun aDd=>
some ((p8,()),((),gz,lB,wM,Gh,T0,(),()),((),wP,Co,wW,(aE (p8+aE (3 +KP))),FV,F0,()),(fo nA p8.toNat (List.take ((↑nA.length:Int) - p8).toNat (List.drop cK.toNat (List.take (aE (cK+aE (3 +KP))).toNat nA)))),(hA Cl cK p8),())))
noncomputable def aiW (F:Nat):aT aR:=(aiV F).fn 69 ⟨[.p (.B 0),.p (.i .i64)],[BM,BK,.r 3 true,.m 3 3],[.p (.i .i64)],[BM,BK,.r 3 true,.m 3 3],fun d=>rK F d.1.2.1 d.2.1.2.1 d.2.1.2.2.1 d.2.1.2.2.2.1 d.2.1.2.2.2.2.1 d.2.1.2.2.2.2.2.1 d.2.2.1.2.1 d.2.2.1.2.2.1 d.2.2.1.2.2.2.1 d.2.2.1.2.2.2.2.1 d.2.2.1.2.2.2.2.2.1 d.2.2.1.2.2.2.2.2.2.1 d.2.2.2.1 d.2.2.2.2.1⟩ fun ax aB=>by kernel_rfl
def w8 (F:Nat):Nat->(Int)->(Int)->(Int)->(List al)->(List Int)->(List (List J.Field))->(List (List (List UInt8)))->(List (List J.Target))->(Int)->(Int)->(Int)->(Int)->(List Int)->(Int)->(List Int)->(List (Int × Int))->Option agR
 | 0,_,_,_,_,_,_,_,_,_,_,_,_,_,_,_,_=>none
 | aW+ 1,Cn,T2,zS,Lg,Lh,Li,p6,mB,j_,p7,wQ,wR,wT,wU,rG,wV=>
   cond (decide (zS <T2)) ((idx rG Cn).bind fun zT=>
(uY (cb.mk (aP.mk Lg Lh Li p6 mB)) zT zS).bind fun zU=>
cond zU ((idx rG (aE (aE (Cn+ 3)+zS))).bind fun zV=>
(rK F zV Lg Lh Li p6 mB j_ p7 wQ wR wT wU rG wV).bind fun iH=>
(idx iH.2.2.2.1 (aE (aE (Cn+ 3)+zS))).bind fun Cp=>
w8 F aW Cn T2 (aE (zS+ 1)) iH.2.1.2.1 iH.2.1.2.2.1 iH.2.1.2.2.2.1 iH.2.1.2.2.2.2.1 iH.2.1.2.2.2.2.2.1 iH.2.2.1.2.1 iH.2.2.1.2.2.1 iH.2.2.1.2.2.2.1 iH.2.2.1.2.2.2.2.1 iH.2.2.1.2.2.2.2.2.1 iH.2.2.1.2.2.2.2.2.2.1 (List.set iH.2.2.2.1 (aE (aE (Cn+ 3)+zS)).toNat iH.1.1) iH.2.2.2.2.1) (
w8 F aW Cn T2 (aE (zS+ 1)) Lg Lh Li p6 mB j_ p7 wQ wR wT wU rG wV)) (
some ((),((),Lg,Lh,Li,p6,mB,(),()),((),j_,p7,wQ,wR,wT,wU,()),rG,wV,()))
noncomputable def aiX (F:Nat):aT aR:=(aiW F).j2 70 0 F ⟨[0,1,16,17],[.p (.B 0),.p (.i .i64),.p (.i .i64),.p (.i .i64)],[BM,BK,.r 3 true,.m 3 3],[⟨.nm,[],[],[BM,BK,.r 3 true,.m 3 3]⟩],fun k d=>w8 F k d.1.2.1 d.1.2.2.1 d.1.2.2.2.1 d.2.1.2.1 d.2.1.2.2.1 d.2.1.2.2.2.1 d.2.1.2.2.2.2.1 d.2.1.2.2.2.2.2.1 d.2.2.1.2.1 d.2.2.1.2.2.1 d.2.2.1.2.2.2.1 d.2.2.1.2.2.2.2.1 d.2.2.1.2.2.2.2.2.1 d.2.2.1.2.2.2.2.2.2.1 d.2.2.2.1 d.2.2.2.2.1⟩ ⟨fun d=>by kernel_rfl,fun k ax aB=>by kernel_rfl⟩
def Gt (F:Nat) (zW:Int) (Cq:List al) (Cr:List Int) (Cs:List (List J.Field)) (Ct:List (List (List UInt8))) (Cu:List (List J.Target)) (Cv:Int) (Cw:Int) (tN:Int) (Ui:Int) (Gk:List Int) (Uj:Int) (Lk:List Int) (Gl:List (Int × Int)):Option agR:=
 (idx Lk (aE (zW+ 1))).bind fun af8=>
(w8 F F zW af8 0 Cq Cr Cs Ct Cu Cv Cw tN Ui Gk Uj Lk Gl).bind fun mC=>
some ((),((),mC.2.1.2.1,mC.2.1.2.2.1,mC.2.1.2.2.2.1,mC.2.1.2.2.2.2.1,mC.2.1.2.2.2.2.2.1,(),()),((),mC.2.2.1.2.1,mC.2.2.1.2.2.1,mC.2.2.1.2.2.2.1,mC.2.2.1.2.2.2.2.1,mC.2.2.1.2.2.2.2.2.1,mC.2.2.1.2.2.2.2.2.2.1,()),mC.2.2.2.1,mC.2.2.2.2.1,())
noncomputable def aiZ (F:Nat):aT aR:=(aiX F).fn 70 ⟨[.p (.B 0),.p (.i .i64)],[BM,BK,.r 3 true,.m 3 3],[],[BM,BK,.r 3 true,.m 3 3],fun d=>Gt F d.1.2.1 d.2.1.2.1 d.2.1.2.2.1 d.2.1.2.2.2.1 d.2.1.2.2.2.2.1 d.2.1.2.2.2.2.2.1 d.2.2.1.2.1 d.2.2.1.2.2.1 d.2.2.1.2.2.2.1 d.2.2.1.2.2.2.2.1 d.2.2.1.2.2.2.2.2.1 d.2.2.1.2.2.2.2.2.2.1 d.2.2.2.1 d.2.2.2.2.1⟩ fun ax aB=>by kernel_rfl
def z1 (F:Nat):Nat->(Int)->(List Int)->(Int)->(Int)->(Int)->(Int)->(Int)->(Int)->(List Int)->(Int)->(List Int)->(List al)->(List Int)->(List (List J.Field))->(List (List (List UInt8)))->(List (List J.Target))->(List (Int × Int))->(List Int)->Option ((Unit × Unit × Int × Unit) ×
 w6 × List Int × LI × List (Int × Int) × List Int × Unit)
 | 0,_,_,_,_,_,_,_,_,_,_,_,_,_,_,_,_,_,_=>none
 | aW+ 1,adg,adh,adi,Ty,adj,adl,adm,adn,ado,adp,adq,adr,ads,adt,adu,adv,adw,TA=>
   cond (decide (Ty <adi)) ((idx adh Ty).bind fun adx=>
(idx TA adx).bind fun azf=>
(rK F azf adr ads adt adu adv adj adl adm adn ado adp adq adw).bind fun mz=>
z1 F aW adg adh adi (aE (Ty+ 1)) mz.2.2.1.2.1 mz.2.2.1.2.2.1 mz.2.2.1.2.2.2.1 mz.2.2.1.2.2.2.2.1 mz.2.2.1.2.2.2.2.2.1 mz.2.2.1.2.2.2.2.2.2.1 mz.2.2.2.1 mz.2.1.2.1 mz.2.1.2.2.1 mz.2.1.2.2.2.1 mz.2.1.2.2.2.2.1 mz.2.1.2.2.2.2.2.1 mz.2.2.2.2.1 (TA.set adx.toNat mz.1.1)) (
some (((),(),adg,()),((),adj,adl,adm,adn,ado,adp,()),adq,((),adr,ads,adt,adu,adv,(),()),adw,TA,()))
noncomputable def ai0 (F:Nat):aT aR:=(aiZ F).j2 38 0 F ⟨[0,6,7,22,23,24],[.p (.B 0),.p (.B 2),.p (.i .i64),.p (.P 4 1),.p (.i .i64),.p (.i .i64)],[v5,.r 3 true,BN,.m 3 3,.r 3 true],[⟨.nm,[0,6,7],[.p (.B 0),.p (.B 2),.p (.i .i64)],[v5,.r 3 true,BN,.m 3 3,.r 3 true]⟩],fun k d=>z1 F k d.1.2.2.1 d.1.2.2.2.1 d.1.2.2.2.2.1 d.1.2.2.2.2.2.1 d.2.1.2.1 d.2.1.2.2.1 d.2.1.2.2.2.1 d.2.1.2.2.2.2.1 d.2.1.2.2.2.2.2.1 d.2.1.2.2.2.2.2.2.1 d.2.2.1 d.2.2.2.1.2.1 d.2.2.2.1.2.2.1 d.2.2.2.1.2.2.2.1 d.2.2.2.1.2.2.2.2.1 d.2.2.2.1.2.2.2.2.2.1 d.2.2.2.2.1 d.2.2.2.2.2.1⟩ ⟨fun d=>by kernel_rfl,fun k ax aB=>by kernel_rfl⟩
def z2 (F:Nat):Nat->(Int)->(List Int)->(Int)->(Int)->(Int)->(Int)->(Int)->(Int)->(List Int)->(Int)->(List Int)->(List al)->(List Int)->(List (List J.Field))->(List (List (List UInt8)))->(List (List J.Target))->(List (Int × Int))->Option ((Unit × Unit × Int × Unit) ×
 w6 × List Int × LI × List (Int × Int) × Unit)
 | 0,_,_,_,_,_,_,_,_,_,_,_,_,_,_,_,_,_=>none
 | aW+ 1,F2,F3,F4,F5,KR,KS,adS,adU,adV,adW,adX,adY,adZ,ad0,ad1,ad2,ad3=>
   cond (decide (F5 <F4)) ((idx F3 F5).bind fun azv=>
(Gt F azv adY adZ ad0 ad1 ad2 KR KS adS adU adV adW adX ad3).bind fun nD=>
z2 F aW F2 F3 F4 (aE (F5+ 1)) nD.2.2.1.2.1 nD.2.2.1.2.2.1 nD.2.2.1.2.2.2.1 nD.2.2.1.2.2.2.2.1 nD.2.2.1.2.2.2.2.2.1 nD.2.2.1.2.2.2.2.2.2.1 nD.2.2.2.1 nD.2.1.2.1 nD.2.1.2.2.1 nD.2.1.2.2.2.1 nD.2.1.2.2.2.2.1 nD.2.1.2.2.2.2.2.1 nD.2.2.2.2.1) (
some (((),(),F2,()),((),KR,KS,adS,adU,adV,adW,()),adX,((),adY,adZ,ad0,ad1,ad2,(),()),ad3,()))
noncomputable def ai1 (F:Nat):aT aR:=(ai0 F).j2 38 2 F ⟨[0,6,7,39,40,41],[.p (.B 0),.p (.B 2),.p (.i .i64),.p (.l 3),.p (.i .i64),.p (.i .i64)],[v5,.r 3 true,BN,.m 3 3],[⟨.nm,[0,6,7],[.p (.B 0),.p (.B 2),.p (.i .i64)],[v5,.r 3 true,BN,.m 3 3]⟩],fun k d=>z2 F k d.1.2.2.1 d.1.2.2.2.1 d.1.2.2.2.2.1 d.1.2.2.2.2.2.1 d.2.1.2.1 d.2.1.2.2.1 d.2.1.2.2.2.1 d.2.1.2.2.2.2.1 d.2.1.2.2.2.2.2.1 d.2.1.2.2.2.2.2.2.1 d.2.2.1 d.2.2.2.1.2.1 d.2.2.2.1.2.2.1 d.2.2.2.1.2.2.2.1 d.2.2.2.1.2.2.2.2.1 d.2.2.2.1.2.2.2.2.2.1 d.2.2.2.2.1⟩ ⟨fun d=>by kernel_rfl,fun k ax aB=>by kernel_rfl⟩
def z3 (F:Nat):Nat->(Int)->(Int)->(Int)->(Int)->(Int)->(List Int)->(Int)->(List Int)->(List al)->(List Int)->(List (List J.Field))->(List (List (List UInt8)))->(List (List J.Target))->(List (Int × Int))->Option ((Unit × Unit) × w6 × List Int × LI × List (Int × Int) × Unit)
 | 0,_,_,_,_,_,_,_,_,_,_,_,_,_,_=>none
 | aW+ 1,KW,ad4,ad5,ad6,TH,F6,F7,wH,F8,F9,F_,Ga,Gb,Gc=>
   cond (decide (KW <TH)) ((Gt F KW F8 F9 F_ Ga Gb ad4 ad5 ad6 TH F6 F7 wH Gc).bind fun j7=>
(idx j7.2.2.2.1 (aE (KW+ 1))).bind fun KX=>
z3 F aW (aE (KW+aE (3 +KX))) j7.2.2.1.2.1 j7.2.2.1.2.2.1 j7.2.2.1.2.2.2.1 j7.2.2.1.2.2.2.2.1 j7.2.2.1.2.2.2.2.2.1 j7.2.2.1.2.2.2.2.2.2.1 j7.2.2.2.1 j7.2.1.2.1 j7.2.1.2.2.1 j7.2.1.2.2.2.1 j7.2.1.2.2.2.2.1 j7.2.1.2.2.2.2.2.1 j7.2.2.2.2.1) (
some (((),()),((),ad4,ad5,ad6,TH,F6,F7,()),wH,((),F8,F9,F_,Ga,Gb,(),()),Gc,()))
noncomputable def ai2 (F:Nat):aT aR:=(ai1 F).j2 38 4 F ⟨[0,6,12],[.p (.B 0),.p (.B 2),.p (.i .i64)],[v5,.r 3 true,BN,.m 3 3],[⟨.nm,[0],[.p (.B 0)],[v5,.r 3 true,BN,.m 3 3]⟩],fun k d=>z3 F k d.1.2.2.1 d.2.1.2.1 d.2.1.2.2.1 d.2.1.2.2.2.1 d.2.1.2.2.2.2.1 d.2.1.2.2.2.2.2.1 d.2.1.2.2.2.2.2.2.1 d.2.2.1 d.2.2.2.1.2.1 d.2.2.2.1.2.2.1 d.2.2.2.1.2.2.2.1 d.2.2.2.1.2.2.2.2.1 d.2.2.2.1.2.2.2.2.2.1 d.2.2.2.2.1⟩ ⟨fun d=>by kernel_rfl,fun k ax aB=>by kernel_rfl⟩
def z0 (F:Nat) (KY:List al) (KZ:List Int) (K0:List (List J.Field)) (K1:List (List (List UInt8))) (K2:List (List J.Target)) (Gd:List Int) (K3:Int) (K4:Int) (K5:Int) (Gf:Int) (K6:List Int) (K7:Int) (K8:List Int) (K9:List Int):Option (Unit × w6 × List Int × List Int × Unit):=
 (z1 F F Gf Gd (↑Gd.length:Int) 0 K3 K4 K5 Gf K6 K7 K8 KY KZ K0 K1 K2 [] K9).bind fun jg=>
(z2 F F jg.1.2.2.1 jg.2.1.2.2.2.2.2.1 (↑(List.length jg.2.1.2.2.2.2.2.1):Int) 0 jg.2.1.2.1 jg.2.1.2.2.1 jg.2.1.2.2.2.1
 jg.2.1.2.2.2.2.1 jg.2.1.2.2.2.2.2.1 jg.2.1.2.2.2.2.2.2.1 jg.2.2.1 jg.2.2.2.1.2.1 jg.2.2.2.1.2.2.1 jg.2.2.2.1.2.2.2.1
 jg.2.2.2.1.2.2.2.2.1 jg.2.2.2.1.2.2.2.2.2.1 jg.2.2.2.2.1).bind fun j8=>
(z3 F F j8.1.2.2.1 j8.2.1.2.1 j8.2.1.2.2.1 j8.2.1.2.2.2.1 j8.2.1.2.2.2.2.1 j8.2.1.2.2.2.2.2.1 j8.2.1.2.2.2.2.2.2.1 j8.2.2.1
 j8.2.2.2.1.2.1 j8.2.2.2.1.2.2.1 j8.2.2.2.1.2.2.2.1 j8.2.2.2.1.2.2.2.2.1 j8.2.2.2.1.2.2.2.2.2.1 j8.2.2.2.2.1).bind fun nE=>
(if (0 :Int)<= 1 /\ 1 <=aE (nE.2.1.2.1 + 1)/\aE (nE.2.1.2.1 + 1)<=(↑(List.length nE.2.2.1):Int) then some () else none).bind fun TJ=>
(tr (decide (1 <aE (nE.2.1.2.1 + 1)))).bind fun TK=>
some ((),((),nE.2.1.2.1,nE.2.1.2.2.1,1,nE.2.1.2.2.2.2.1,([]),nE.2.1.2.2.2.2.2.2.1,()),(fo nE.2.2.1 (Int.toNat 1) (List.replicate (aE (nE.2.1.2.1 + 1) - 1).toNat 0)),jg.2.2.2.2.2.1,())
noncomputable def ai3 (F:Nat):aT aR:=(ai2 F).fn 38 ⟨[.p (.B 0),E1,.p (.P 2 1)],[v5,.r 3 true,.r 3 true],[],[v5,.r 3 true,.r 3 true],fun d=>z0 F d.1.2.1.1 d.1.2.1.2.1 d.1.2.1.2.2.1 d.1.2.1.2.2.2.1 d.1.2.1.2.2.2.2.1 d.1.2.2.1 d.2.1.2.1 d.2.1.2.2.1 d.2.1.2.2.2.1 d.2.1.2.2.2.2.1 d.2.1.2.2.2.2.2.1 d.2.1.2.2.2.2.2.2.1 d.2.2.1 d.2.2.2.1⟩ fun ax aB=>by kernel_rfl
def rI (F:Nat) (rD:List Int) (fr:Int) (oO:Int) (rE:Int) (rF:Int) (zJ:List Int) (zK:Int) (azE:List al) (azG:List Int) (azH:List (List J.Field)) (azI:List (List (List UInt8))) (azJ:List (List J.Target)) (zL:List Int):Option ((iI × List Int × Int × Unit) × Unit):=
 dx (iw (jC F (aV.mk rD fr oO rE rF zJ zK) (aP.mk azE azG azH azI azJ))) (fun ey=>
cond (decide (ey.2 = 0)) ((w7 F
 (bc.mk (aV.mk ey.1.H.Words ey.1.H.ar ey.1.H.aO ey.1.H.aZ ey.1.H.aU ey.1.H.aS ey.1.H.Next)
  (cb.mk (aP.mk ey.1.S.K.a4 ey.1.S.K.a0 ey.1.S.K.Fields ey.1.S.K.Names ey.1.S.K.a1)) ey.1.ar ey.1.aO ey.1.dM)
 zL).bind fun Gg=>
cond (decide (Gg= 0)) (cond (decide (aE (aE (aE (aE (fr+oO)+ 1) - rF) - aE (rE - 1)) < 0)) (some (((([]),0,0,0,0,([]),0,()),([]),8,()),())) (
cond (!decide (Gg= 0)) (some (((([]),0,0,0,0,([]),0,()),([]),Gg,()),())) (
(n6 (aV.mk rD fr oO rE rF zJ zK)).bind fun zM=>
(bR 8 [] zL).bind fun ad7=>
(rJ F (↑ad7.length:Int)).bind fun azK=>
(z0 F ey.1.S.K.a4 ey.1.S.K.a0 ey.1.S.K.Fields ey.1.S.K.Names ey.1.S.K.a1 azK zM.ar zM.aO zM.aZ zM.aU zM.aS zM.Next zM.Words ad7).bind fun wI=>
some (((wI.2.2.1,wI.2.1.2.1,wI.2.1.2.2.1,wI.2.1.2.2.2.1,wI.2.1.2.2.2.2.1,wI.2.1.2.2.2.2.2.1,wI.2.1.2.2.2.2.2.2.1,()),wI.2.2.2.1,0,()),())))) (
cond (!decide (Gg= 0)) (some (((([]),0,0,0,0,([]),0,()),([]),Gg,()),())) (
(n6 (aV.mk rD fr oO rE rF zJ zK)).bind fun zN=>
(bR 8 [] zL).bind fun ad8=>
(rJ F (↑ad8.length:Int)).bind fun azL=>
(z0 F ey.1.S.K.a4 ey.1.S.K.a0 ey.1.S.K.Fields ey.1.S.K.Names ey.1.S.K.a1 azL zN.ar zN.aO zN.aZ zN.aU zN.aS zN.Next zN.Words ad8).bind fun wJ=>
some (((wJ.2.2.1,wJ.2.1.2.1,wJ.2.1.2.2.1,wJ.2.1.2.2.2.1,wJ.2.1.2.2.2.2.1,wJ.2.1.2.2.2.2.2.1,wJ.2.1.2.2.2.2.2.2.1,()),wJ.2.2.2.1,0,()),())))) (
cond (decide (ey.2 = 0)) (cond (decide (aE (aE (aE (aE (fr+oO)+ 1) - rF) - aE (rE - 1)) < 0)) (some (((([]),0,0,0,0,([]),0,()),([]),8,()),())) (
cond (!decide (ey.2 = 0)) (some (((([]),0,0,0,0,([]),0,()),([]),ey.2,()),())) (
(n6 (aV.mk rD fr oO rE rF zJ zK)).bind fun zO=>
(bR 8 [] zL).bind fun ad9=>
(rJ F (↑ad9.length:Int)).bind fun azM=>
(z0 F ey.1.S.K.a4 ey.1.S.K.a0 ey.1.S.K.Fields ey.1.S.K.Names ey.1.S.K.a1 azM zO.ar zO.aO zO.aZ zO.aU zO.aS zO.Next zO.Words ad9).bind fun wK=>
some (((wK.2.2.1,wK.2.1.2.1,wK.2.1.2.2.1,wK.2.1.2.2.2.1,wK.2.1.2.2.2.2.1,wK.2.1.2.2.2.2.2.1,wK.2.1.2.2.2.2.2.2.1,()),wK.2.2.2.1,0,()),())))) (
cond (!decide (ey.2 = 0)) (some (((([]),0,0,0,0,([]),0,()),([]),ey.2,()),())) (
(n6 (aV.mk rD fr oO rE rF zJ zK)).bind fun zP=>
(bR 8 [] zL).bind fun ad_=>
(rJ F (↑ad_.length:Int)).bind fun azN=>
(z0 F ey.1.S.K.a4 ey.1.S.K.a0 ey.1.S.K.Fields ey.1.S.K.Names ey.1.S.K.a1 azN zP.ar zP.aO zP.aZ zP.aU zP.aS zP.Next zP.Words ad_).bind fun wL=>
some (((wL.2.2.1,wL.2.1.2.1,wL.2.1.2.2.1,wL.2.1.2.2.2.1,wL.2.1.2.2.2.2.1,wL.2.1.2.2.2.2.2.1,wL.2.1.2.2.2.2.2.2.1,()),wL.2.2.2.1,0,()),()))))) (fun Cm=>
cond (decide (Cm= 0)) none (
cond (decide (Cm= 0)) (cond (decide (aE (aE (aE (aE (fr+oO)+ 1) - rF) - aE (rE - 1)) < 0)) (some (((([]),0,0,0,0,([]),0,()),([]),8,()),())) (
cond (!decide (Cm= 0)) (some (((([]),0,0,0,0,([]),0,()),([]),Cm,()),())) (
(n6 (aV.mk rD fr oO rE rF zJ zK)).bind fun aDf=>
(bR 8 [] zL).bind fun aDg=>
none))) (
cond (!decide (Cm= 0)) (some (((([]),0,0,0,0,([]),0,()),([]),Cm,()),())) (
(n6 (aV.mk rD fr oO rE rF zJ zK)).bind fun aDh=>
(bR 8 [] zL).bind fun aDi=>
none))))
noncomputable def ai4 (F:Nat):aT aR:=(ai3 F).fn 12 ⟨[zp,E1,.p (.l 3)],[],[zp,.p (.l 3),.p (.i .i64)],[],fun d=>rI F d.1.1.1 d.1.1.2.1 d.1.1.2.2.1 d.1.1.2.2.2.1 d.1.1.2.2.2.2.1 d.1.1.2.2.2.2.2.1 d.1.1.2.2.2.2.2.2.1 d.1.2.1.1 d.1.2.1.2.1 d.1.2.1.2.2.1 d.1.2.1.2.2.2.1 d.1.2.1.2.2.2.2.1 d.1.2.2.1⟩ fun ax aB=>by kernel_rfl
def xJ (F:Nat):Nat->(List Int)->(Int)->(Int)->Option ((Int × Unit) × Unit ⊕ Unit × Unit)
 | 0,_,_,_=>none
 | aW+ 1,wP,Co,wW=>
   cond (decide (wW <(↑wP.length:Int))) ((idx wP wW).bind fun p8=>
cond (decide (p8=Co)) (some (.inl ((wW,()),()))) (
xJ F aW wP Co (aE (wW+ 1)))) (
some (.inr ((),())))
noncomputable def ai5 (F:Nat):aT aR:=(ai4 F).j2 29 0 F ⟨[0,1,5],[.p (.l 3),.p (.i .i64),.p (.i .i64)],[],[⟨.rt,[4],[.p (.i .i64)],[]⟩,⟨.nm,[],[],[]⟩],fun k d=>xJ F k d.1.1 d.1.2.1 d.1.2.2.1⟩ ⟨fun d=>by kernel_rfl,fun k ax aB=>by kernel_rfl⟩
def CU (F:Nat) (FV:List Int) (F0:Int):Option ((Int × Unit) × Unit):=
 dx (xJ F F FV F0 0) (fun nA=>
some ((nA.1.1,()),())) (fun Cl=>
some (((-1),()),()))
noncomputable def ai6 (F:Nat):aT aR:=(ai5 F).fn 29 ⟨[.p (.l 3),.p (.i .i64)],[],[.p (.i .i64)],[],fun d=>CU F d.1.1 d.1.2.1⟩ fun ax aB=>by kernel_rfl
noncomputable def ai7 (F:Nat):aT aR:=(ai6 F).qA 43
noncomputable def ai8 (F:Nat):aT aR:=(ai7 F).qA 29
def CW (F:Nat) (cK:Int) (gz:List Int) (lB:List Int):Option ((Int × Unit) × (List Int × Unit) × (Unit × Unit) × List Int × Unit):=
 (CU F gz cK).bind fun wM=>
cond (decide (cK= 0) || decide (wM.1.1 < 0)) (some ((cK,()),(gz,()),((),()),lB,())) (
(idx lB wM.1.1).bind fun Gh=>
some ((Gh,()),(gz,()),((),()),lB,()))
noncomputable def ai_ (F:Nat):aT aR:=(ai8 F).fn 72 ⟨[.p (.i .i64),.p (.B 0),.p (.B 1)],[.c 22 [.l 3],.c 22 [.R 2],.r 3 true],[.p (.i .i64)],[.c 22 [.l 3],.c 22 [.R 2],.r 3 true],fun d=>CW F d.1.1 d.2.1.1 d.2.2.2.1⟩ fun ax aB=>by kernel_rfl
def qp (F:Nat):Nat->(Int)->(Int)->(Int)->(List Int)->(Int)->(Int)->(Int)->(Int)->(List Int)->(Int)->(List al)->(List Int)->(List (List J.Field))->(List (List (List UInt8)))->(List (List J.Target))->(List Int)->(List Int)->(Int)->(Int)->(Int)->(Int)->(List Int)->(Int)->(List Int)->Option agQ
 | 0,_,_,_,_,_,_,_,_,_,_,_,_,_,_,_,_,_,_,_,_,_,_,_,_=>none
 | aW+ 1,p6,mB,j_,p7,wQ,wR,wT,wU,rG,wV,zT,zU,zV,iH,Cp,zW,Cq,Cr,Cs,Ct,Cu,Cv,Cw,tN=>
   (idx p7 (aE (p6+ 1))).bind fun Ui=>
cond (decide (j_ <aE (3 +Ui))) ((idx p7 (aE (p6+j_))).bind fun Gk=>
cond (decide (3 <=j_)) ((idx p7 p6).bind fun Uj=>
(uo (aP.mk zT zU zV iH Cp) Uj (aE (j_ - 3))).bind fun Lk=>
cond Lk ((CW F Gk zW Cq).bind fun Gl=>
(idx tN (aE (mB+j_))).bind fun af8=>
qp F aW p6 mB (aE (j_+ 1)) p7 wQ wR wT wU rG wV zT zU zV iH Cp Gl.2.1.1 Gl.2.2.2.1 Cr Cs Ct Cu Cv Cw (tN.set (aE (mB+j_)).toNat Gl.1.1)) (
(idx tN (aE (mB+j_))).bind fun mC=>
qp F aW p6 mB (aE (j_+ 1)) p7 wQ wR wT wU rG wV zT zU zV iH Cp zW Cq Cr Cs Ct Cu Cv Cw (tN.set (aE (mB+j_)).toNat Gk))) (
(idx tN (aE (mB+j_))).bind fun aDn=>
qp F aW p6 mB (aE (j_+ 1)) p7 wQ wR wT wU rG wV zT zU zV iH Cp zW Cq Cr Cs Ct Cu Cv Cw (tN.set (aE (mB+j_)).toNat Gk))) (
some ((),(p7,wQ,wR,wT,wU,rG,wV,()),(zT,zU,zV,iH,Cp,()),((),()),(zW,()),((),()),Cq,((),Cr,Cs,Ct,Cu,Cv,Cw,()),tN,()))
noncomputable def ai' (F:Nat):aT aR:=(ai_ F).j2 73 0 F ⟨[0,1,2,3,4,5,8],[.p (.i .i64),.p (.i .i64),.p (.B 0),.p (.B 1),.p (.B 2),.p (.B 6),.p (.i .i64)],[eA,jb,.c 110 [.F 72 [3,4]],.c 22 [.l 3],.c 22 [.R 5],.r 3 true,BL,.r 3 true],[⟨.nm,[],[],[eA,jb,.c 110 [.F 72 [3,4]],.c 22 [.l 3],.c 22 [.R 5],.r 3 true,BL,.r 3 true]⟩],fun k d=>qp F k d.1.1 d.1.2.1 d.1.2.2.2.2.2.2.1 d.2.1.1 d.2.1.2.1 d.2.1.2.2.1 d.2.1.2.2.2.1 d.2.1.2.2.2.2.1 d.2.1.2.2.2.2.2.1 d.2.1.2.2.2.2.2.2.1 d.2.2.1.1 d.2.2.1.2.1 d.2.2.1.2.2.1 d.2.2.1.2.2.2.1 d.2.2.1.2.2.2.2.1 d.2.2.2.2.1.1 d.2.2.2.2.2.2.1 d.2.2.2.2.2.2.2.1.2.1 d.2.2.2.2.2.2.2.1.2.2.1 d.2.2.2.2.2.2.2.1.2.2.2.1 d.2.2.2.2.2.2.2.1.2.2.2.2.1 d.2.2.2.2.2.2.2.1.2.2.2.2.2.1 d.2.2.2.2.2.2.2.1.2.2.2.2.2.2.1 d.2.2.2.2.2.2.2.2.1⟩ ⟨fun d=>by kernel_rfl,fun k ax aB=>by kernel_rfl⟩
def CX (F:Nat) (aBi:Int) (aBk:Int) (aBl:List Int) (aBm:Int) (aBn:Int) (aBp:Int) (aBq:Int) (aBr:List Int) (ayv:Int) (ayF:List al) (ayL:List Int) (ayN:List (List J.Field)) (ayU:List (List (List UInt8))) (ay0:List (List J.Target)) (ay1:List Int) (ay2:List Int) (ay3:Int) (ay4:Int) (ay5:Int) (ay6:Int) (ay8:List Int) (ay9:Int) (ay_:List Int):Option agQ:=
 (qp F F aBi aBk 0 aBl aBm aBn aBp aBq aBr ayv ayF ayL ayN ayU ay0 ay1 ay2 ay3 ay4 ay5 ay6 ay8 ay9 ay_).bind fun iE=>
some ((),(iE.2.1.1,iE.2.1.2.1,iE.2.1.2.2.1,iE.2.1.2.2.2.1,iE.2.1.2.2.2.2.1,iE.2.1.2.2.2.2.2.1,iE.2.1.2.2.2.2.2.2.1,()),(iE.2.2.1.1,iE.2.2.1.2.1,iE.2.2.1.2.2.1,iE.2.2.1.2.2.2.1,iE.2.2.1.2.2.2.2.1,()),((),()),(iE.2.2.2.2.1.1,()),((),()),iE.2.2.2.2.2.2.1,((),iE.2.2.2.2.2.2.2.1.2.1,iE.2.2.2.2.2.2.2.1.2.2.1,iE.2.2.2.2.2.2.2.1.2.2.2.1,iE.2.2.2.2.2.2.2.1.2.2.2.2.1,iE.2.2.2.2.2.2.2.1.2.2.2.2.2.1,iE.2.2.2.2.2.2.2.1.2.2.2.2.2.2.1,()),iE.2.2.2.2.2.2.2.2.1,())
noncomputable def aja (F:Nat):aT aR:=(ai' F).fn 73 ⟨[.p (.i .i64),.p (.i .i64),.p (.B 0),.p (.B 1),.p (.B 2),.p (.B 6)],[eA,jb,.c 110 [.F 72 [3,4]],.c 22 [.l 3],.c 22 [.R 5],.r 3 true,BL,.r 3 true],[],[eA,jb,.c 110 [.F 72 [3,4]],.c 22 [.l 3],.c 22 [.R 5],.r 3 true,BL,.r 3 true],fun d=>CX F d.1.1 d.1.2.1 d.2.1.1 d.2.1.2.1 d.2.1.2.2.1 d.2.1.2.2.2.1 d.2.1.2.2.2.2.1 d.2.1.2.2.2.2.2.1 d.2.1.2.2.2.2.2.2.1 d.2.2.1.1 d.2.2.1.2.1 d.2.2.1.2.2.1 d.2.2.1.2.2.2.1 d.2.2.1.2.2.2.2.1 d.2.2.2.2.1.1 d.2.2.2.2.2.2.1 d.2.2.2.2.2.2.2.1.2.1 d.2.2.2.2.2.2.2.1.2.2.1 d.2.2.2.2.2.2.2.1.2.2.2.1 d.2.2.2.2.2.2.2.1.2.2.2.2.1 d.2.2.2.2.2.2.2.1.2.2.2.2.2.1 d.2.2.2.2.2.2.2.1.2.2.2.2.2.2.1 d.2.2.2.2.2.2.2.2.1⟩ fun ax aB=>by kernel_rfl
def xZ (F:Nat):Nat->(Int)->(List Int)->(Int)->(Int)->(List Int)->(Int)->(Int)->(Int)->(Int)->(List Int)->(Int)->(List al)->(List Int)->(List (List J.Field))->(List (List (List UInt8)))->(List (List J.Target))->(List Int)->(List Int)->(Int)->(Int)->(Int)->(Int)->(List Int)->(Int)->(List Int)->Option ((Int × List Int × Unit × Unit × Unit × Unit × Unit × Int × Unit) ×
 iI ×
  w5 × (List Int × Unit) × iI × (Unit × Unit) × List Int × Unit)
 | 0,_,_,_,_,_,_,_,_,_,_,_,_,_,_,_,_,_,_,_,_,_,_,_,_,_=>none
 | aW+ 1,adz,adA,TC,TD,TE,adB,adC,adD,adE,adF,adH,adI,adJ,adK,adL,adM,KQ,adN,adO,adP,adQ,adR,F2,F3,F4=>
   cond (decide (TD <(↑KQ.length:Int))) ((bR 8 F4 [TC]).bind fun F5=>
(idx KQ TD).bind fun KR=>
(idx TE (aE (KR+ 1))).bind fun KS=>
xZ F aW adz adA (aE (TC+aE (3 +KS))) (aE (TD+ 1)) TE adB adC adD adE adF adH adI adJ adK adL adM KQ adN adO adP adQ adR F2 F3 F5) (
some ((adz,adA,(),(),(),(),(),TC,()),(TE,adB,adC,adD,adE,adF,adH,()),(adI,adJ,adK,adL,adM,()),(KQ,()),(adN,adO,adP,adQ,adR,F2,F3,()),((),()),F4,()))
noncomputable def ajb (F:Nat):aT aR:=(aja F).j2 45 0 F ⟨[3,4,5,6,7,10,12,13,14],[.p (.i .i64),.p (.l 3),.p (.B 0),.p (.B 1),.p (.B 2),.p (.B 3),.p (.B 4),.p (.i .i64),.p (.i .i64)],[eA,jb,.c 22 [.l 3],eA,.c 22 [.R 5],.r 3 false],[⟨.nm,[3,4,5,6,7,10,12,13],[.p (.i .i64),.p (.l 3),.p (.B 0),.p (.B 1),.p (.B 2),.p (.B 3),.p (.B 4),.p (.i .i64)],[eA,jb,.c 22 [.l 3],eA,.c 22 [.R 5],.r 3 false]⟩],fun k d=>xZ F k d.1.1 d.1.2.1 d.1.2.2.2.2.2.2.2.1 d.1.2.2.2.2.2.2.2.2.1 d.2.1.1 d.2.1.2.1 d.2.1.2.2.1 d.2.1.2.2.2.1 d.2.1.2.2.2.2.1 d.2.1.2.2.2.2.2.1 d.2.1.2.2.2.2.2.2.1 d.2.2.1.1 d.2.2.1.2.1 d.2.2.1.2.2.1 d.2.2.1.2.2.2.1 d.2.2.1.2.2.2.2.1 d.2.2.2.1.1 d.2.2.2.2.1.1 d.2.2.2.2.1.2.1 d.2.2.2.2.1.2.2.1 d.2.2.2.2.1.2.2.2.1 d.2.2.2.2.1.2.2.2.2.1 d.2.2.2.2.1.2.2.2.2.2.1 d.2.2.2.2.1.2.2.2.2.2.2.1 d.2.2.2.2.2.2.1⟩ ⟨fun d=>by kernel_rfl,fun k ax aB=>by kernel_rfl⟩
def An (F:Nat):Nat->(Int)->(List Int)->(Int)->(List Int)->(Int)->(Int)->(Int)->(Int)->(List Int)->(Int)->(List Int)->(List Int)->(Int)->(Int)->(Int)->(Int)->(List Int)->(Int)->(List Int)->(Int)->(Int)->(Int)->(Int)->(List Int)->(Int)->(List Int)->(List al)->(List Int)->(List (List J.Field))->(List (List (List UInt8)))->(List (List J.Target))->Option ((List Int × Unit × Unit × Unit × Unit × Unit × (Unit × Unit × Unit × Unit × Unit) × Unit) ×
 iI ×
  (List Int × Unit) ×
   iI ×
    (Unit × Unit) × List Int × (Unit × Unit) × w6 × List Int × w5 × Unit)
 | 0,_,_,_,_,_,_,_,_,_,_,_,_,_,_,_,_,_,_,_,_,_,_,_,_,_,_,_,_,_,_,_=>none
 | aW+ 1,F6,F7,wH,F8,F9,F_,Ga,Gb,Gc,j7,KX,KY,KZ,K0,K1,K2,Gd,K3,K4,K5,Gf,K6,K7,K8,K9,jg,j8,nE,TJ,TK,rD=>
   cond (decide (wH <F6)) ((CX F wH wH F8 F9 F_ Ga Gb Gc j7 j8 nE TJ TK rD KX K4 K5 Gf K6 K7 K8 K9 jg).bind fun fr=>
(idx fr.2.1.1 (aE (wH+ 1))).bind fun oO=>
An F aW F6 F7 (aE (wH+aE (3 +oO))) fr.2.1.1 fr.2.1.2.1 fr.2.1.2.2.1 fr.2.1.2.2.2.1 fr.2.1.2.2.2.2.1 fr.2.1.2.2.2.2.2.1 fr.2.1.2.2.2.2.2.2.1 fr.2.2.2.2.1.1 KY KZ K0 K1 K2 Gd K3 fr.2.2.2.2.2.2.1 fr.2.2.2.2.2.2.2.1.2.1 fr.2.2.2.2.2.2.2.1.2.2.1 fr.2.2.2.2.2.2.2.1.2.2.2.1 fr.2.2.2.2.2.2.2.1.2.2.2.2.1 fr.2.2.2.2.2.2.2.1.2.2.2.2.2.1 fr.2.2.2.2.2.2.2.1.2.2.2.2.2.2.1 fr.2.2.2.2.2.2.2.2.1 fr.2.2.1.1 fr.2.2.1.2.1 fr.2.2.1.2.2.1 fr.2.2.1.2.2.2.1 fr.2.2.1.2.2.2.2.1) (
some ((F7,(),(),(),(),(),((),(),(),(),()),()),(F8,F9,F_,Ga,Gb,Gc,j7,()),(KX,()),(KY,KZ,K0,K1,K2,Gd,K3,()),((),()),K4,((),()),((),K5,Gf,K6,K7,K8,K9,()),jg,(j8,nE,TJ,TK,rD,()),()))
noncomputable def ajc (F:Nat):aT aR:=(ajb F).j2 45 2 F ⟨[3,4,5,7,10,12,15,16,17,18],[.p (.i .i64),.p (.l 3),.p (.B 0),.p (.B 1),.p (.B 2),.p (.B 3),.p (.B 5),.p (.B 6),.f 73 [.B 0,.B 8,.B 5,.B 6],.p (.i .i64)],[eA,.c 22 [.l 3],eA,.c 22 [.R 4],.r 3 true,.c 110 [.F 72 [1,3]],BL,.r 3 true,jb],[⟨.nm,[4,7,10,12,15,16,17],[.p (.l 3),.p (.B 1),.p (.B 2),.p (.B 3),.p (.B 5),.p (.B 6),.f 73 [.B 0,.B 8,.B 5,.B 6]],[eA,.c 22 [.l 3],eA,.c 22 [.R 4],.r 3 true,.c 110 [.F 72 [1,3]],BL,.r 3 true,jb]⟩],fun k d=>An F k d.1.1 d.1.2.1 d.1.2.2.2.2.2.2.2.2.2.1 d.2.1.1 d.2.1.2.1 d.2.1.2.2.1 d.2.1.2.2.2.1 d.2.1.2.2.2.2.1 d.2.1.2.2.2.2.2.1 d.2.1.2.2.2.2.2.2.1 d.2.2.1.1 d.2.2.2.1.1 d.2.2.2.1.2.1 d.2.2.2.1.2.2.1 d.2.2.2.1.2.2.2.1 d.2.2.2.1.2.2.2.2.1 d.2.2.2.1.2.2.2.2.2.1 d.2.2.2.1.2.2.2.2.2.2.1 d.2.2.2.2.2.1 d.2.2.2.2.2.2.2.1.2.1 d.2.2.2.2.2.2.2.1.2.2.1 d.2.2.2.2.2.2.2.1.2.2.2.1 d.2.2.2.2.2.2.2.1.2.2.2.2.1 d.2.2.2.2.2.2.2.1.2.2.2.2.2.1 d.2.2.2.2.2.2.2.1.2.2.2.2.2.2.1 d.2.2.2.2.2.2.2.2.1 d.2.2.2.2.2.2.2.2.2.1.1 d.2.2.2.2.2.2.2.2.2.1.2.1 d.2.2.2.2.2.2.2.2.2.1.2.2.1 d.2.2.2.2.2.2.2.2.2.1.2.2.2.1 d.2.2.2.2.2.2.2.2.2.1.2.2.2.2.1⟩ ⟨fun d=>by kernel_rfl,fun k ax aB=>by kernel_rfl⟩
def x0 (F:Nat):Nat->(List Int)->(Int)->(List Int)->(List Int)->(Int)->(Int)->(Int)->(Int)->(List Int)->(Int)->(List Int)->(Int)->(Int)->(Int)->(Int)->(List Int)->(Int)->(List Int)->(List Int)->(Int)->(Int)->(Int)->(Int)->(List Int)->(Int)->(List al)->(List Int)->(List (List J.Field))->(List (List (List UInt8)))->(List (List J.Target))->Option ((List Int × Unit × Unit × Unit × Unit) ×
 (List Int × Unit) ×
  iI ×
   (Unit × Unit) ×
    List Int ×
     (Unit × Unit) ×
      w6 ×
       List Int × iI × w5 × Unit)
 | 0,_,_,_,_,_,_,_,_,_,_,_,_,_,_,_,_,_,_,_,_,_,_,_,_,_,_,_,_,_,_=>none
 | aW+ 1,aeb,K_,La,aec,aed,aee,aef,aeg,aeh,aei,TN,aej,aek,ael,aem,aen,aeo,aep,aeq,aer,aes,aet,aeu,aev,aew,aex,aey,aez,aeA,aeB=>
   cond (decide (K_ <(↑La.length:Int))) ((idx La K_).bind fun azQ=>
(idx TN K_).bind fun azR=>
(CX F azQ azR aeq aer aes aet aeu aev aew aex aey aez aeA aeB La TN aej aek ael aem aen aeo aep).bind fun iG=>
x0 F aW aeb (aE (K_+ 1)) iG.2.2.2.2.1.1 aec aed aee aef aeg aeh aei iG.2.2.2.2.2.2.1 iG.2.2.2.2.2.2.2.1.2.1 iG.2.2.2.2.2.2.2.1.2.2.1 iG.2.2.2.2.2.2.2.1.2.2.2.1 iG.2.2.2.2.2.2.2.1.2.2.2.2.1 iG.2.2.2.2.2.2.2.1.2.2.2.2.2.1 iG.2.2.2.2.2.2.2.1.2.2.2.2.2.2.1 iG.2.2.2.2.2.2.2.2.1 iG.2.1.1 iG.2.1.2.1 iG.2.1.2.2.1 iG.2.1.2.2.2.1 iG.2.1.2.2.2.2.1 iG.2.1.2.2.2.2.2.1 iG.2.1.2.2.2.2.2.2.1 iG.2.2.1.1 iG.2.2.1.2.1 iG.2.2.1.2.2.1 iG.2.2.1.2.2.2.1 iG.2.2.1.2.2.2.2.1) (
some ((aeb,(),(),(),()),(La,()),(aec,aed,aee,aef,aeg,aeh,aei,()),((),()),TN,((),()),((),aej,aek,ael,aem,aen,aeo,()),aep,(aeq,aer,aes,aet,aeu,aev,aew,()),(aex,aey,aez,aeA,aeB,()),()))
noncomputable def ajd (F:Nat):aT aR:=(ajc F).j2 45 4 F ⟨[4,7,10,12,15,16,17,19],[.p (.l 3),.p (.B 0),.p (.B 1),.p (.B 2),.p (.B 4),.p (.B 5),.f 73 [.B 7,.B 8,.B 4,.B 5],.p (.i .i64)],[.c 22 [.l 3],eA,.c 22 [.R 3],.r 3 true,.c 110 [.F 72 [0,2]],JC,.r 3 true,eA,jb],[⟨.nm,[4,10,15,16],[.p (.l 3),.p (.B 1),.p (.B 4),.p (.B 5)],[.c 22 [.l 3],eA,.c 22 [.R 3],.r 3 true,.c 110 [.F 72 [0,2]],JC,.r 3 true,eA,jb]⟩],fun k d=>x0 F k d.1.1 d.1.2.2.2.2.2.2.2.1 d.2.1.1 d.2.2.1.1 d.2.2.1.2.1 d.2.2.1.2.2.1 d.2.2.1.2.2.2.1 d.2.2.1.2.2.2.2.1 d.2.2.1.2.2.2.2.2.1 d.2.2.1.2.2.2.2.2.2.1 d.2.2.2.2.1 d.2.2.2.2.2.2.1.2.1 d.2.2.2.2.2.2.1.2.2.1 d.2.2.2.2.2.2.1.2.2.2.1 d.2.2.2.2.2.2.1.2.2.2.2.1 d.2.2.2.2.2.2.1.2.2.2.2.2.1 d.2.2.2.2.2.2.1.2.2.2.2.2.2.1 d.2.2.2.2.2.2.2.1 d.2.2.2.2.2.2.2.2.1.1 d.2.2.2.2.2.2.2.2.1.2.1 d.2.2.2.2.2.2.2.2.1.2.2.1 d.2.2.2.2.2.2.2.2.1.2.2.2.1 d.2.2.2.2.2.2.2.2.1.2.2.2.2.1 d.2.2.2.2.2.2.2.2.1.2.2.2.2.2.1 d.2.2.2.2.2.2.2.2.1.2.2.2.2.2.2.1 d.2.2.2.2.2.2.2.2.2.1.1 d.2.2.2.2.2.2.2.2.2.1.2.1 d.2.2.2.2.2.2.2.2.2.1.2.2.1 d.2.2.2.2.2.2.2.2.2.1.2.2.2.1 d.2.2.2.2.2.2.2.2.2.1.2.2.2.2.1⟩ ⟨fun d=>by kernel_rfl,fun k ax aB=>by kernel_rfl⟩
def x1 (F:Nat):Nat->(List Int)->(Int)->(List Int)->(Int)->(Int)->(Int)->(Int)->(List Int)->(Int)->(List Int)->(List Int)->(Int)->(Int)->(Int)->(Int)->(List Int)->(Int)->(List Int)->(List Int)->Option ((Unit × Unit × Unit × Unit) × iI × (Unit × Unit) × (List Int × Unit) × (Unit × Unit) × List Int × w6 × List Int × List Int × Unit)
 | 0,_,_,_,_,_,_,_,_,_,_,_,_,_,_,_,_,_,_,_=>none
 | aW+ 1,TP,TQ,aeC,aeD,aeE,aeF,aeG,aeH,aeI,aeJ,aeK,aeL,aeM,aeN,aeO,aeP,aeQ,aeR,aeS=>
   cond (decide (TQ <(↑TP.length:Int))) ((idx TP TQ).bind fun az_=>
(CW F az_ aeJ aeK).bind fun TS=>
(bR 8 aeS [TS.1.1]).bind fun aAc=>
x1 F aW TP (aE (TQ+ 1)) aeC aeD aeE aeF aeG aeH aeI TS.2.1.1 TS.2.2.2.1 aeL aeM aeN aeO aeP aeQ aeR aAc) (
some (((),(),(),()),(aeC,aeD,aeE,aeF,aeG,aeH,aeI,()),((),()),(aeJ,()),((),()),aeK,((),aeL,aeM,aeN,aeO,aeP,aeQ,()),aeR,aeS,()))
noncomputable def aje (F:Nat):aT aR:=(ajd F).j2 45 6 F ⟨[4,10,15,16,20,21],[.p (.l 3),.p (.B 0),.p (.B 1),.p (.B 5),.p (.R 7),.p (.i .i64)],[eA,.c 110 [.F 72 [2,3]],.c 22 [.l 3],.c 22 [.R 4],.r 3 true,JC,.r 3 true,.r 3 false],[⟨.nm,[10,16,20],[.p (.B 0),.p (.B 5),.p (.R 7)],[eA,.c 110 [.F 72 [2,3]],.c 22 [.l 3],.c 22 [.R 4],.r 3 true,JC,.r 3 true,.r 3 false]⟩],fun k d=>x1 F k d.1.1 d.1.2.2.2.2.2.1 d.2.1.1 d.2.1.2.1 d.2.1.2.2.1 d.2.1.2.2.2.1 d.2.1.2.2.2.2.1 d.2.1.2.2.2.2.2.1 d.2.1.2.2.2.2.2.2.1 d.2.2.2.1.1 d.2.2.2.2.2.1 d.2.2.2.2.2.2.1.2.1 d.2.2.2.2.2.2.1.2.2.1 d.2.2.2.2.2.2.1.2.2.2.1 d.2.2.2.2.2.2.1.2.2.2.2.1 d.2.2.2.2.2.2.1.2.2.2.2.2.1 d.2.2.2.2.2.2.1.2.2.2.2.2.2.1 d.2.2.2.2.2.2.2.1 d.2.2.2.2.2.2.2.2.1⟩ ⟨fun d=>by kernel_rfl,fun k ax aB=>by kernel_rfl⟩
def xY (F:Nat) (aAd:List Int) (aAe:Int) (aAf:Int) (aAg:Int) (aAh:Int) (aAi:List Int) (aAk:Int) (aAl:List al) (aAm:List Int) (aAo:List (List J.Field)) (aAp:List (List (List UInt8))) (aAq:List (List J.Target)) (aAt:List Int) (aeT:Int) (aAv:List Int):Option ((iI × List Int × Unit) × Unit):=
 (xZ F F aeT aAv aeT 0 aAd aAe aAf aAg aAh aAi aAk aAl aAm aAo aAp aAq aAt [] 0 0 0 0 [] 0 []).bind fun gg=>
(zb 0 8 (↑(List.length gg.2.1.1):Int)).bind fun aAw=>
(An F F gg.1.1 gg.1.2.1 (aE (gg.2.1.2.1 + 1)) gg.2.1.1 gg.2.1.2.1 gg.2.1.2.2.1 gg.2.1.2.2.2.1 gg.2.1.2.2.2.2.1
 gg.2.1.2.2.2.2.2.1 gg.2.1.2.2.2.2.2.2.1 gg.2.2.2.1.1 gg.2.2.2.2.1.1 gg.2.2.2.2.1.2.1 gg.2.2.2.2.1.2.2.1
 gg.2.2.2.2.1.2.2.2.1 gg.2.2.2.2.1.2.2.2.2.1 gg.2.2.2.2.1.2.2.2.2.2.1 gg.2.2.2.2.1.2.2.2.2.2.2.1 gg.2.2.2.2.2.2.1
 gg.2.1.2.1 gg.2.1.2.2.1 1 gg.1.2.2.2.2.2.2.2.1 [] gg.2.1.2.2.2.2.2.2.1 aAw gg.2.2.1.1 gg.2.2.1.2.1 gg.2.2.1.2.2.1
 gg.2.2.1.2.2.2.1 gg.2.2.1.2.2.2.2.1).bind fun gh=>
(x0 F F gh.1.1 0 gh.2.2.1.1 gh.2.2.2.1.1 gh.2.2.2.1.2.1 gh.2.2.2.1.2.2.1 gh.2.2.2.1.2.2.2.1 gh.2.2.2.1.2.2.2.2.1
 gh.2.2.2.1.2.2.2.2.2.1 gh.2.2.2.1.2.2.2.2.2.2.1 gh.2.2.2.2.2.1 gh.2.2.2.2.2.2.2.1.2.1 gh.2.2.2.2.2.2.2.1.2.2.1
 gh.2.2.2.2.2.2.2.1.2.2.2.1 gh.2.2.2.2.2.2.2.1.2.2.2.2.1 gh.2.2.2.2.2.2.2.1.2.2.2.2.2.1 gh.2.2.2.2.2.2.2.1.2.2.2.2.2.2.1
 gh.2.2.2.2.2.2.2.2.1 gh.2.1.1 gh.2.1.2.1 gh.2.1.2.2.1 gh.2.1.2.2.2.1 gh.2.1.2.2.2.2.1 gh.2.1.2.2.2.2.2.1
 gh.2.1.2.2.2.2.2.2.1 gh.2.2.2.2.2.2.2.2.2.1.1 gh.2.2.2.2.2.2.2.2.2.1.2.1 gh.2.2.2.2.2.2.2.2.2.1.2.2.1
 gh.2.2.2.2.2.2.2.2.2.1.2.2.2.1 gh.2.2.2.2.2.2.2.2.2.1.2.2.2.2.1).bind fun j9=>
(x1 F F j9.1.1 0 j9.2.2.1.1 j9.2.2.1.2.1 j9.2.2.1.2.2.1 j9.2.2.1.2.2.2.1 j9.2.2.1.2.2.2.2.1 j9.2.2.1.2.2.2.2.2.1
 j9.2.2.1.2.2.2.2.2.2.1 j9.2.1.1 j9.2.2.2.2.1 j9.2.2.2.2.2.2.1.2.1 j9.2.2.2.2.2.2.1.2.2.1 j9.2.2.2.2.2.2.1.2.2.2.1
 j9.2.2.2.2.2.2.1.2.2.2.2.1 j9.2.2.2.2.2.2.1.2.2.2.2.2.1 j9.2.2.2.2.2.2.1.2.2.2.2.2.2.1 j9.2.2.2.2.2.2.2.1 []).bind fun wN=>
some (((wN.2.2.2.2.2.2.2.1,wN.2.2.2.2.2.2.1.2.1,wN.2.2.2.2.2.2.1.2.2.1,wN.2.2.2.2.2.2.1.2.2.2.1,wN.2.2.2.2.2.2.1.2.2.2.2.1,wN.2.2.2.2.2.2.1.2.2.2.2.2.1,wN.2.2.2.2.2.2.1.2.2.2.2.2.2.1,()),wN.2.2.2.2.2.2.2.2.1,()),())
noncomputable def ajf (F:Nat):aT aR:=(aje F).fn 45 ⟨[zp,E1,.p (.l 3),.p (.i .i64),.p (.l 3)],[],[zp,.p (.l 3)],[],fun d=>xY F d.1.1.1 d.1.1.2.1 d.1.1.2.2.1 d.1.1.2.2.2.1 d.1.1.2.2.2.2.1 d.1.1.2.2.2.2.2.1 d.1.1.2.2.2.2.2.2.1 d.1.2.1.1 d.1.2.1.2.1 d.1.2.1.2.2.1 d.1.2.1.2.2.2.1 d.1.2.1.2.2.2.2.1 d.1.2.2.1 d.1.2.2.2.1 d.1.2.2.2.2.1⟩ fun ax aB=>by kernel_rfl
def xB (F:Nat) (Lb:Int) (TT:List Int) (Lc:Int) (TU:Int) (TV:Int) (TW:Int) (TX:List Int) (TY:Int) (Ld:List Int):Option (Unit × iI × (Unit × Unit) × List Int × Unit):=
 cond (decide (1 <=Lb) && decide (Lb<=Lc)) ((kg F Ld Lb).bind fun aAz=>
cond (!aAz) ((bR 8 Ld [Lb]).bind fun aAA=>
some ((),(TT,Lc,TU,TV,TW,TX,TY,()),((),()),aAA,())) (
some ((),(TT,Lc,TU,TV,TW,TX,TY,()),((),()),Ld,()))) (
some ((),(TT,Lc,TU,TV,TW,TX,TY,()),((),()),Ld,()))
noncomputable def ajg (F:Nat):aT aR:=(ajf F).fn 41 ⟨[.p (.i .i64),.p (.B 0),.p (.B 1)],[eA,.c 22 [.R 2],.r 3 false],[],[eA,.c 22 [.R 2],.r 3 false],fun d=>xB F d.1.1 d.2.1.1 d.2.1.2.1 d.2.1.2.2.1 d.2.1.2.2.2.1 d.2.1.2.2.2.2.1 d.2.1.2.2.2.2.2.1 d.2.1.2.2.2.2.2.2.1 d.2.2.2.1⟩ fun ax aB=>by kernel_rfl
def xC (F:Nat):Nat->(List Int)->(Int)->(List Int)->(Int)->(Int)->(Int)->(Int)->(List Int)->(Int)->(List al)->(List Int)->(List (List J.Field))->(List (List (List UInt8)))->(List (List J.Target))->(List Int)->(Int)->(Int)->(Int)->(Int)->(List Int)->(Int)->(List Int)->Option (agT ×
 iI ×
  w5 × iI × (Unit × Unit) × List Int × Unit)
 | 0,_,_,_,_,_,_,_,_,_,_,_,_,_,_,_,_,_,_,_,_,_,_=>none
 | aW+ 1,Lf,TZ,aeU,aeV,aeW,aeX,aeY,aeZ,ae_,ae',afa,afb,afc,afd,afe,aff,afg,afh,afi,afj,afk,afl=>
   cond (decide (TZ <(↑Lf.length:Int))) ((idx Lf TZ).bind fun aAE=>
(xB F aAE aeU aeV aeW aeX aeY aeZ ae_ afl).bind fun wO=>
xC F aW Lf (aE (TZ+ 1)) wO.2.1.1 wO.2.1.2.1 wO.2.1.2.2.1 wO.2.1.2.2.2.1 wO.2.1.2.2.2.2.1 wO.2.1.2.2.2.2.2.1 wO.2.1.2.2.2.2.2.2.1 ae' afa afb afc afd afe aff afg afh afi afj afk wO.2.2.2.1) (
some ((Lf,(),(),(),(),((),(),()),()),(aeU,aeV,aeW,aeX,aeY,aeZ,ae_,()),(ae',afa,afb,afc,afd,()),(afe,aff,afg,afh,afi,afj,afk,()),((),()),afl,()))
noncomputable def ajh (F:Nat):aT aR:=(ajg F).j2 15 0 F ⟨[2,3,4,6,8,9,10],[.p (.l 3),.p (.B 0),.p (.B 1),.p (.B 2),.p (.B 3),.f 41 [.B 0,.B 3],.p (.i .i64)],[eA,jb,eA,.c 22 [.R 4],.r 3 false],[⟨.nm,[2,3,4,6,8,9],[.p (.l 3),.p (.B 0),.p (.B 1),.p (.B 2),.p (.B 3),.f 41 [.B 0,.B 3]],[eA,jb,eA,.c 22 [.R 4],.r 3 false]⟩],fun k d=>xC F k d.1.1 d.1.2.2.2.2.2.2.1 d.2.1.1 d.2.1.2.1 d.2.1.2.2.1 d.2.1.2.2.2.1 d.2.1.2.2.2.2.1 d.2.1.2.2.2.2.2.1 d.2.1.2.2.2.2.2.2.1 d.2.2.1.1 d.2.2.1.2.1 d.2.2.1.2.2.1 d.2.2.1.2.2.2.1 d.2.2.1.2.2.2.2.1 d.2.2.2.1.1 d.2.2.2.1.2.1 d.2.2.2.1.2.2.1 d.2.2.2.1.2.2.2.1 d.2.2.2.1.2.2.2.2.1 d.2.2.2.1.2.2.2.2.2.1 d.2.2.2.1.2.2.2.2.2.2.1 d.2.2.2.2.2.1⟩ ⟨fun d=>by kernel_rfl,fun k ax aB=>by kernel_rfl⟩
def xE (F:Nat):Nat->(List Int)->(Int)->(List Int)->(Int)->(List Int)->(Int)->(Int)->(Int)->(Int)->(List Int)->(Int)->(List al)->(List Int)->(List (List J.Field))->(List (List (List UInt8)))->(List (List J.Target))->(List Int)->(Int)->(Int)->(Int)->(Int)->(List Int)->(Int)->(List Int)->Option (agS ×
 iI ×
  w5 × iI × (Unit × Unit) × List Int × Unit)
 | 0,_,_,_,_,_,_,_,_,_,_,_,_,_,_,_,_,_,_,_,_,_,_,_,_=>none
 | aW+ 1,afq,afr,T3,T4,T5,afs,aft,afu,afv,afw,afx,afy,afz,afA,afB,afC,afD,afE,afF,afG,afH,afI,afJ,afK=>
   cond (decide (T4 <(↑T3.length:Int))) ((idx T3 T4).bind fun aAZ=>
(idx T5 aAZ).bind fun aA0=>
(xB F aA0 T5 afs aft afu afv afw afx afK).bind fun wS=>
xE F aW afq afr T3 (aE (T4+ 1)) wS.2.1.1 wS.2.1.2.1 wS.2.1.2.2.1 wS.2.1.2.2.2.1 wS.2.1.2.2.2.2.1 wS.2.1.2.2.2.2.2.1 wS.2.1.2.2.2.2.2.2.1 afy afz afA afB afC afD afE afF afG afH afI afJ wS.2.2.2.1) (
some ((afq,(),(),(),(),((),(),()),afr,()),(T5,afs,aft,afu,afv,afw,afx,()),(afy,afz,afA,afB,afC,()),(afD,afE,afF,afG,afH,afI,afJ,()),((),()),afK,()))
noncomputable def ajj (F:Nat):aT aR:=(ajh F).j2 15 4 F ⟨[2,3,4,6,8,9,11,12,13],[.p (.l 3),.p (.B 0),.p (.B 1),.p (.B 2),.p (.B 3),.f 41 [.B 0,.B 3],.p (.i .i64),.p (.l 3),.p (.i .i64)],[eA,jb,eA,.c 22 [.R 4],.r 3 false],[⟨.nm,[2,3,4,6,8,9,11],[.p (.l 3),.p (.B 0),.p (.B 1),.p (.B 2),.p (.B 3),.f 41 [.B 0,.B 3],.p (.i .i64)],[eA,jb,eA,.c 22 [.R 4],.r 3 false]⟩],fun k d=>xE F k d.1.1 d.1.2.2.2.2.2.2.1 d.1.2.2.2.2.2.2.2.1 d.1.2.2.2.2.2.2.2.2.1 d.2.1.1 d.2.1.2.1 d.2.1.2.2.1 d.2.1.2.2.2.1 d.2.1.2.2.2.2.1 d.2.1.2.2.2.2.2.1 d.2.1.2.2.2.2.2.2.1 d.2.2.1.1 d.2.2.1.2.1 d.2.2.1.2.2.1 d.2.2.1.2.2.2.1 d.2.2.1.2.2.2.2.1 d.2.2.2.1.1 d.2.2.2.1.2.1 d.2.2.2.1.2.2.1 d.2.2.2.1.2.2.2.1 d.2.2.2.1.2.2.2.2.1 d.2.2.2.1.2.2.2.2.2.1 d.2.2.2.1.2.2.2.2.2.2.1 d.2.2.2.2.2.1⟩ ⟨fun d=>by kernel_rfl,fun k ax aB=>by kernel_rfl⟩
def xD (F:Nat):Nat->(List Int)->(Int)->(List Int)->(Int)->(Int)->(Int)->(Int)->(List Int)->(Int)->(List al)->(List Int)->(List (List J.Field))->(List (List (List UInt8)))->(List (List J.Target))->(List Int)->(Int)->(Int)->(Int)->(Int)->(List Int)->(Int)->(List Int)->Option (agT ×
 iI ×
  w5 × iI × (Unit × Unit) × List Int × Unit)
 | 0,_,_,_,_,_,_,_,_,_,_,_,_,_,_,_,_,_,_,_,_,_,_=>none
 | aW+ 1,afL,T6,T7,T8,T9,T_,T',Gj,Ua,Ub,Uc,Ud,Uf,Ug,afM,afN,afO,afP,afQ,afR,afS,afT=>
   cond (decide (T6 <(↑Gj.length:Int))) ((idx Gj T6).bind fun aA9=>
(nQ F (aV.mk T7 T8 T9 T_ T' Gj Ua) (aP.mk Ub Uc Ud Uf Ug) aA9).bind fun aA_=>
(xE F F afL T6 aA_ 0 T7 T8 T9 T_ T' Gj Ua Ub Uc Ud Uf Ug afM afN afO afP afQ afR afS afT).bind fun h7=>
xD F aW h7.1.1 (aE (h7.1.2.2.2.2.2.2.1 + 1)) h7.2.1.1 h7.2.1.2.1 h7.2.1.2.2.1 h7.2.1.2.2.2.1 h7.2.1.2.2.2.2.1 h7.2.1.2.2.2.2.2.1 h7.2.1.2.2.2.2.2.2.1 h7.2.2.1.1 h7.2.2.1.2.1 h7.2.2.1.2.2.1 h7.2.2.1.2.2.2.1 h7.2.2.1.2.2.2.2.1 h7.2.2.2.1.1 h7.2.2.2.1.2.1 h7.2.2.2.1.2.2.1 h7.2.2.2.1.2.2.2.1 h7.2.2.2.1.2.2.2.2.1 h7.2.2.2.1.2.2.2.2.2.1 h7.2.2.2.1.2.2.2.2.2.2.1 h7.2.2.2.2.2.1) (
some ((afL,(),(),(),(),((),(),()),()),(T7,T8,T9,T_,T',Gj,Ua,()),(Ub,Uc,Ud,Uf,Ug,()),(afM,afN,afO,afP,afQ,afR,afS,()),((),()),afT,()))
noncomputable def ajk (F:Nat):aT aR:=(ajj F).j2 15 2 F ⟨[2,3,4,6,8,9,11],[.p (.l 3),.p (.B 0),.p (.B 1),.p (.B 2),.p (.B 3),.f 41 [.B 0,.B 3],.p (.i .i64)],[eA,jb,eA,.c 22 [.R 4],.r 3 false],[⟨.nm,[2,3,4,6,8,9],[.p (.l 3),.p (.B 0),.p (.B 1),.p (.B 2),.p (.B 3),.f 41 [.B 0,.B 3]],[eA,jb,eA,.c 22 [.R 4],.r 3 false]⟩],fun k d=>xD F k d.1.1 d.1.2.2.2.2.2.2.1 d.2.1.1 d.2.1.2.1 d.2.1.2.2.1 d.2.1.2.2.2.1 d.2.1.2.2.2.2.1 d.2.1.2.2.2.2.2.1 d.2.1.2.2.2.2.2.2.1 d.2.2.1.1 d.2.2.1.2.1 d.2.2.1.2.2.1 d.2.2.1.2.2.2.1 d.2.2.1.2.2.2.2.1 d.2.2.2.1.1 d.2.2.2.1.2.1 d.2.2.2.1.2.2.1 d.2.2.2.1.2.2.2.1 d.2.2.2.1.2.2.2.2.1 d.2.2.2.1.2.2.2.2.2.1 d.2.2.2.1.2.2.2.2.2.2.1 d.2.2.2.2.2.1⟩ ⟨fun d=>by kernel_rfl,fun k ax aB=>by kernel_rfl⟩
def xG (F:Nat):Nat->(List Int)->(Int)->(List Int)->(Int)->(List Int)->(Int)->(Int)->(Int)->(Int)->(List Int)->(Int)->(List al)->(List Int)->(List (List J.Field))->(List (List (List UInt8)))->(List (List J.Target))->(List Int)->(Int)->(Int)->(Int)->(Int)->(List Int)->(Int)->(List Int)->Option (agS ×
 iI ×
  w5 × iI × (Unit × Unit) × List Int × Unit)
 | 0,_,_,_,_,_,_,_,_,_,_,_,_,_,_,_,_,_,_,_,_,_,_,_,_=>none
 | aW+ 1,afW,afX,Uk,Ul,Um,afY,afZ,af0,af1,af2,af3,af4,af5,af6,af7,af9,af_,af',aga,agb,agc,agd,age,agf=>
   cond (decide (Ul <(↑Uk.length:Int))) ((idx Uk Ul).bind fun aBa=>
(idx Um aBa).bind fun aBb=>
(xB F aBb Um afY afZ af0 af1 af2 af3 agf).bind fun w1=>
xG F aW afW afX Uk (aE (Ul+ 1)) w1.2.1.1 w1.2.1.2.1 w1.2.1.2.2.1 w1.2.1.2.2.2.1 w1.2.1.2.2.2.2.1 w1.2.1.2.2.2.2.2.1 w1.2.1.2.2.2.2.2.2.1 af4 af5 af6 af7 af9 af_ af' aga agb agc agd age w1.2.2.2.1) (
some ((afW,(),(),(),(),((),(),()),afX,()),(Um,afY,afZ,af0,af1,af2,af3,()),(af4,af5,af6,af7,af9,()),(af_,af',aga,agb,agc,agd,age,()),((),()),agf,()))
noncomputable def ajl (F:Nat):aT aR:=(ajk F).j2 15 8 F ⟨[2,3,4,6,8,9,14,15,16],[.p (.l 3),.p (.B 0),.p (.B 1),.p (.B 2),.p (.B 3),.f 41 [.B 0,.B 3],.p (.i .i64),.p (.l 3),.p (.i .i64)],[eA,jb,eA,.c 22 [.R 4],.r 3 false],[⟨.nm,[2,3,4,6,8,9,14],[.p (.l 3),.p (.B 0),.p (.B 1),.p (.B 2),.p (.B 3),.f 41 [.B 0,.B 3],.p (.i .i64)],[eA,jb,eA,.c 22 [.R 4],.r 3 false]⟩],fun k d=>xG F k d.1.1 d.1.2.2.2.2.2.2.1 d.1.2.2.2.2.2.2.2.1 d.1.2.2.2.2.2.2.2.2.1 d.2.1.1 d.2.1.2.1 d.2.1.2.2.1 d.2.1.2.2.2.1 d.2.1.2.2.2.2.1 d.2.1.2.2.2.2.2.1 d.2.1.2.2.2.2.2.2.1 d.2.2.1.1 d.2.2.1.2.1 d.2.2.1.2.2.1 d.2.2.1.2.2.2.1 d.2.2.1.2.2.2.2.1 d.2.2.2.1.1 d.2.2.2.1.2.1 d.2.2.2.1.2.2.1 d.2.2.2.1.2.2.2.1 d.2.2.2.1.2.2.2.2.1 d.2.2.2.1.2.2.2.2.2.1 d.2.2.2.1.2.2.2.2.2.2.1 d.2.2.2.2.2.1⟩ ⟨fun d=>by kernel_rfl,fun k ax aB=>by kernel_rfl⟩
def xF (F:Nat):Nat->(List Int)->(Int)->(List Int)->(Int)->(Int)->(Int)->(Int)->(List Int)->(Int)->(List al)->(List Int)->(List (List J.Field))->(List (List (List UInt8)))->(List (List J.Target))->(List Int)->(Int)->(Int)->(Int)->(Int)->(List Int)->(Int)->(List Int)->Option ((List Int × Unit × Unit × Unit × Unit × Unit) ×
 iI ×
  w5 × iI × (Unit × Unit) × List Int × Unit)
 | 0,_,_,_,_,_,_,_,_,_,_,_,_,_,_,_,_,_,_,_,_,_,_=>none
 | aW+ 1,agj,Up,Uq,Ur,Us,Ut,Uu,Uv,Uw,Ux,Uy,Uz,UA,UB,agk,agl,agm,agn,ago,agp,agq,Lm=>
   cond (decide (Up <(↑Lm.length:Int))) ((idx Lm Up).bind fun aBs=>
(nQ F (aV.mk Uq Ur Us Ut Uu Uv Uw) (aP.mk Ux Uy Uz UA UB) aBs).bind fun ayw=>
(xG F F agj Up ayw 0 Uq Ur Us Ut Uu Uv Uw Ux Uy Uz UA UB agk agl agm agn ago agp agq Lm).bind fun h6=>
xF F aW h6.1.1 (aE (h6.1.2.2.2.2.2.2.1 + 1)) h6.2.1.1 h6.2.1.2.1 h6.2.1.2.2.1 h6.2.1.2.2.2.1 h6.2.1.2.2.2.2.1 h6.2.1.2.2.2.2.2.1 h6.2.1.2.2.2.2.2.2.1 h6.2.2.1.1 h6.2.2.1.2.1 h6.2.2.1.2.2.1 h6.2.2.1.2.2.2.1 h6.2.2.1.2.2.2.2.1 h6.2.2.2.1.1 h6.2.2.2.1.2.1 h6.2.2.2.1.2.2.1 h6.2.2.2.1.2.2.2.1 h6.2.2.2.1.2.2.2.2.1 h6.2.2.2.1.2.2.2.2.2.1 h6.2.2.2.1.2.2.2.2.2.2.1 h6.2.2.2.2.2.1) (
some ((agj,(),(),(),(),()),(Uq,Ur,Us,Ut,Uu,Uv,Uw,()),(Ux,Uy,Uz,UA,UB,()),(agk,agl,agm,agn,ago,agp,agq,()),((),()),Lm,()))
noncomputable def ajm (F:Nat):aT aR:=(ajl F).j2 15 6 F ⟨[2,3,4,6,8,9,14],[.p (.l 3),.p (.B 0),.p (.B 1),.p (.B 2),.p (.B 3),.f 41 [.B 0,.B 3],.p (.i .i64)],[eA,jb,eA,.c 22 [.R 4],.r 3 false],[⟨.nm,[2,3,4,6,8],[.p (.l 3),.p (.B 0),.p (.B 1),.p (.B 2),.p (.B 3)],[eA,jb,eA,.c 22 [.R 4],.r 3 false]⟩],fun k d=>xF F k d.1.1 d.1.2.2.2.2.2.2.1 d.2.1.1 d.2.1.2.1 d.2.1.2.2.1 d.2.1.2.2.2.1 d.2.1.2.2.2.2.1 d.2.1.2.2.2.2.2.1 d.2.1.2.2.2.2.2.2.1 d.2.2.1.1 d.2.2.1.2.1 d.2.2.1.2.2.1 d.2.2.1.2.2.2.1 d.2.2.1.2.2.2.2.1 d.2.2.2.1.1 d.2.2.2.1.2.1 d.2.2.2.1.2.2.1 d.2.2.2.1.2.2.2.1 d.2.2.2.1.2.2.2.2.1 d.2.2.2.1.2.2.2.2.2.1 d.2.2.2.1.2.2.2.2.2.2.1 d.2.2.2.2.2.1⟩ ⟨fun d=>by kernel_rfl,fun k ax aB=>by kernel_rfl⟩
def Ah (F:Nat) (ayx:List Int) (ayy:Int) (ayz:Int) (ayA:Int) (ayB:Int) (ayC:List Int) (ayD:Int) (ayE:List al) (ayG:List Int) (ayH:List (List J.Field)) (ayI:List (List (List UInt8))) (ayJ:List (List J.Target)) (ayK:List Int):Option ((iI × List Int × Unit) × Unit):=
 (xC F F ayK 0 ayx ayy ayz ayA ayB ayC ayD ayE ayG ayH ayI ayJ [] 0 0 0 0 [] 0 []).bind fun iC=>
(xD F F iC.1.1 0 iC.2.1.1 iC.2.1.2.1 iC.2.1.2.2.1 iC.2.1.2.2.2.1 iC.2.1.2.2.2.2.1 iC.2.1.2.2.2.2.2.1
 iC.2.1.2.2.2.2.2.2.1 iC.2.2.1.1 iC.2.2.1.2.1 iC.2.2.1.2.2.1 iC.2.2.1.2.2.2.1 iC.2.2.1.2.2.2.2.1 iC.2.2.2.1.1
 iC.2.2.2.1.2.1 iC.2.2.2.1.2.2.1 iC.2.2.2.1.2.2.2.1 iC.2.2.2.1.2.2.2.2.1 iC.2.2.2.1.2.2.2.2.2.1
 iC.2.2.2.1.2.2.2.2.2.2.1 iC.2.2.2.2.2.1).bind fun iD=>
(xF F F iD.1.1 0 iD.2.1.1 iD.2.1.2.1 iD.2.1.2.2.1 iD.2.1.2.2.2.1 iD.2.1.2.2.2.2.1 iD.2.1.2.2.2.2.2.1
 iD.2.1.2.2.2.2.2.2.1 iD.2.2.1.1 iD.2.2.1.2.1 iD.2.2.1.2.2.1 iD.2.2.1.2.2.2.1 iD.2.2.1.2.2.2.2.1 iD.2.2.2.1.1
 iD.2.2.2.1.2.1 iD.2.2.2.1.2.2.1 iD.2.2.2.1.2.2.2.1 iD.2.2.2.1.2.2.2.2.1 iD.2.2.2.1.2.2.2.2.2.1
 iD.2.2.2.1.2.2.2.2.2.2.1 iD.2.2.2.2.2.1).bind fun lA=>
(xY F lA.2.1.1 lA.2.1.2.1 lA.2.1.2.2.1 lA.2.1.2.2.2.1 lA.2.1.2.2.2.2.1 lA.2.1.2.2.2.2.2.1 lA.2.1.2.2.2.2.2.2.1
 lA.2.2.1.1 lA.2.2.1.2.1 lA.2.2.1.2.2.1 lA.2.2.1.2.2.2.1 lA.2.2.1.2.2.2.2.1 lA.2.2.2.2.2.1 lA.2.1.2.2.2.2.1 lA.1.1).bind fun wB=>
some (((wB.1.1.1,wB.1.1.2.1,wB.1.1.2.2.1,wB.1.1.2.2.2.1,wB.1.1.2.2.2.2.1,wB.1.1.2.2.2.2.2.1,wB.1.1.2.2.2.2.2.2.1,()),wB.1.2.1,()),())
noncomputable def CI (F:Nat):aT aR:=(ajm F).fn 15 ⟨[zp,E1,.p (.l 3)],[],[zp,.p (.l 3)],[],fun d=>Ah F d.1.1.1 d.1.1.2.1 d.1.1.2.2.1 d.1.1.2.2.2.1 d.1.1.2.2.2.2.1 d.1.1.2.2.2.2.2.1 d.1.1.2.2.2.2.2.2.1 d.1.2.1.1 d.1.2.1.2.1 d.1.2.1.2.2.1 d.1.2.1.2.2.2.1 d.1.2.1.2.2.2.2.1 d.1.2.2.1⟩ fun ax aB=>by kernel_rfl
def GO (F:Nat) (KG:List Int) (FW:Int) (FX:Int) (FY:Int) (FZ:Int) (KH:List Int) (KI:Int) (KJ:List al) (KK:List Int) (KL:List (List J.Field)) (KM:List (List (List UInt8))) (KN:List (List J.Target)) (KO:List Int):Option ((Bool × Unit) × Unit):=
 (rI F KG FW FX FY FZ KH KI KJ KK KL KM KN KO).bind fun ef=>
(rR F (aV.mk KG FW FX FY FZ KH KI) (aP.mk KJ KK KL KM KN) KO).bind fun zH=>
cond (decide (zH= 0)) (cond (decide (aE (aE (aE (aE (aE (FW+FX)+ 1) - FZ) - FY)+ 1) < 0)) ((oV F (aV.mk ef.1.1.1 ef.1.1.2.1 ef.1.1.2.2.1 ef.1.1.2.2.2.1 ef.1.1.2.2.2.2.1 ef.1.1.2.2.2.2.2.1 ef.1.1.2.2.2.2.2.2.1)
 ef.1.2.2.1 8 (aV.mk [] 0 0 0 0 [] 0)).bind fun ayO=>
cond ayO ((nR F ef.1.2.1 []).bind fun ayP=>
some ((ayP,()),())) (
some ((false,()),()))) (
cond (decide (zH= 0)) ((Ah F KG FW FX FY FZ KH KI KJ KK KL KM KN KO).bind fun wC=>
(oV F (aV.mk ef.1.1.1 ef.1.1.2.1 ef.1.1.2.2.1 ef.1.1.2.2.2.1 ef.1.1.2.2.2.2.1 ef.1.1.2.2.2.2.2.1 ef.1.1.2.2.2.2.2.2.1)
 ef.1.2.2.1 zH
 (aV.mk wC.1.1.1 wC.1.1.2.1 wC.1.1.2.2.1 wC.1.1.2.2.2.1 wC.1.1.2.2.2.2.1 wC.1.1.2.2.2.2.2.1 wC.1.1.2.2.2.2.2.2.1)).bind fun ayQ=>
cond ayQ ((nR F ef.1.2.1 wC.1.2.1).bind fun ayR=>
some ((ayR,()),())) (
some ((false,()),()))) (
(oV F (aV.mk ef.1.1.1 ef.1.1.2.1 ef.1.1.2.2.1 ef.1.1.2.2.2.1 ef.1.1.2.2.2.2.1 ef.1.1.2.2.2.2.2.1 ef.1.1.2.2.2.2.2.2.1)
 ef.1.2.2.1 zH (aV.mk [] 0 0 0 0 [] 0)).bind fun ayS=>
cond ayS ((nR F ef.1.2.1 []).bind fun ayV=>
some ((ayV,()),())) (
some ((false,()),()))))) (
cond (decide (zH= 0)) ((Ah F KG FW FX FY FZ KH KI KJ KK KL KM KN KO).bind fun wD=>
(oV F (aV.mk ef.1.1.1 ef.1.1.2.1 ef.1.1.2.2.1 ef.1.1.2.2.2.1 ef.1.1.2.2.2.2.1 ef.1.1.2.2.2.2.2.1 ef.1.1.2.2.2.2.2.2.1)
 ef.1.2.2.1 zH
 (aV.mk wD.1.1.1 wD.1.1.2.1 wD.1.1.2.2.1 wD.1.1.2.2.2.1 wD.1.1.2.2.2.2.1 wD.1.1.2.2.2.2.2.1 wD.1.1.2.2.2.2.2.2.1)).bind fun ayW=>
cond ayW ((nR F ef.1.2.1 wD.1.2.1).bind fun ayX=>
some ((ayX,()),())) (
some ((false,()),()))) (
(oV F (aV.mk ef.1.1.1 ef.1.1.2.1 ef.1.1.2.2.1 ef.1.1.2.2.2.1 ef.1.1.2.2.2.2.1 ef.1.1.2.2.2.2.2.1 ef.1.1.2.2.2.2.2.2.1)
 ef.1.2.2.1 zH (aV.mk [] 0 0 0 0 [] 0)).bind fun ayY=>
cond ayY ((nR F ef.1.2.1 []).bind fun ayZ=>
some ((ayZ,()),())) (
some ((false,()),()))))
@[reducible] noncomputable def P3 (F:Nat):fA bO:=⟨[zp,E1,.p (.l 3)],[],[.p (.b)],[],fun d=>GO F d.1.1.1 d.1.1.2.1 d.1.1.2.2.1 d.1.1.2.2.2.1 d.1.1.2.2.2.2.1 d.1.1.2.2.2.2.2.1 d.1.1.2.2.2.2.2.2.1 d.1.2.1.1 d.1.2.1.2.1 d.1.2.1.2.2.1 d.1.2.1.2.2.2.1 d.1.2.1.2.2.2.2.1 d.1.2.2.1⟩
theorem am0 (F:Nat):(P3 F).Eq aR (CI F).t.bD (CI F).t.LE 3 :=fun ax aB=>by kernel_rfl
theorem alm (F:Nat):kO aR 3 ((P3 F).run aR):=V8 pc (n2 pc ((CI F).ok pc).ce ((CI F).ok pc).le 100) ((CI F).ok pc).le rfl (am0 F)
end Go.Proofs.YteeliipnilghaaaGreat
namespace Go.Proofs.YteeliipnilghaaaGreat
open Go Go.RowKit av J bz
section
variable {F:Nat->Prop} {w:World} {cs:List Value}
theorem JX {d:bO.El 3} (h:((av.eR .i64)).rd F w cs d):(bO.ty 3).rd F w cs d:=by
 obtain rfl:cs=_:=h
 change eV (fun t=>(fG Hy t).ty) F w [.i .i64] _ (d,())
 exact ⟨_,_,rfl,rfl,rfl⟩
theorem abz {d:bO.El 136} (h:(J.iB).rd F w cs d):(bO.ty 136).rd F w cs d:=by
 obtain rfl:cs=_:=h
 change eV (fun t=>(fG Dc t).ty) F w [.s,.i .i64,.s] _ (d.Name,d.Kind.Kind,d.Kind.al,())
 exact ⟨_,_,rfl,rfl,_,_,rfl,rfl,_,_,rfl,rfl,rfl⟩
theorem awt {d:bO.El 128} (h:(J.zB).rd F w cs d):(bO.ty 128).rd F w cs d:=by
 obtain rfl:cs=_:=h
 change eV (fun t=>(fG Hw t).ty) F w [.i .i64,.s] _ (d.Kind,d.al,())
 exact ⟨_,_,rfl,rfl,_,_,rfl,rfl,rfl⟩
theorem aww {d:bO.El 157} (h:(J.zA).rd F w cs d):(bO.ty 157).rd F w cs d:=by
 obtain rfl:cs=_:=h
 change eV (fun t=>(fG Hu t).ty) F w [.i .i64,.i .i64,.i .i64,.s] _ (d.From,d.To,d.hS,d.al,())
 exact ⟨_,_,rfl,rfl,_,_,rfl,rfl,_,_,rfl,rfl,_,_,rfl,rfl,rfl⟩
theorem awu {d:bO.El 131} (h:(J.oM).rd F w cs d):(bO.ty 131).rd F w cs d:=by
 obtain ⟨_,_,_,_,rfl,aa,mR⟩:=h
 change eV (fun t=>(fG Hx t).ty) F w [.s,.b,.l 128,.i .i64,.s,.i .i64,.i .i64,.s,.l 157] _ (d.Name,d.Static,d.cr,d.Returns.Kind,d.Returns.al,d.g4,d.g2,d.Code,d.cw,())
 exact ⟨_,_,rfl,rfl,_,_,rfl,rfl,_,_,rfl,iy (fun _ _=>awt) aa,_,_,rfl,rfl,_,_,rfl,rfl,_,_,rfl,rfl,_,_,rfl,rfl,_,_,rfl,rfl,_,_,rfl,iy (fun _ _=>aww) mR,rfl⟩
theorem awv {d:bO.El 134} (h:(J.jt).rd F w cs d):(bO.ty 134).rd F w cs d:=by
 obtain ⟨_,_,_,_,rfl,aa,aq⟩:=h
 change eV (fun t=>(fG Hv t).ty) F w [.s,.s,.l 136,.l 131] _ (d.Name,d.cO,d.Fields,d.bb,())
 exact ⟨_,_,rfl,rfl,_,_,rfl,rfl,_,_,rfl,iy (fun _ _=>abz) aa,_,_,rfl,iy (fun _ _=>awu) aq,rfl⟩
theorem aws {d:bO.El 124} (h:((bZ J.iB)).rd F w cs d):(bO.ty 124).rd F w cs d:=by
 obtain ⟨A,c,rfl⟩:=lp h
 change eV (fun t=>(fG ML t).ty) F w [.l 136] _ (d,())
 exact ⟨_,_,rfl,iy (fun _ _=>abz) h,rfl⟩
theorem awy {d:bO.El 9} (h:(iA).rd F w cs d):(bO.ty 9).rd F w cs d:=by
 obtain rfl:cs=_:=h
 change eV (fun t=>(fG HA t).ty) F w [.s] _ (d,())
 exact ⟨_,_,rfl,rfl,rfl⟩
theorem awq {d:bO.El 120} (h:((bZ iA)).rd F w cs d):(bO.ty 120).rd F w cs d:=by
 obtain ⟨A,c,rfl⟩:=lp h
 change eV (fun t=>(fG MN t).ty) F w [.l 9] _ (d,())
 exact ⟨_,_,rfl,iy (fun _ _=>awy) h,rfl⟩
theorem awx {d:bO.El 166} (h:(J.ju).rd F w cs d):(bO.ty 166).rd F w cs d:=by
 obtain rfl:cs=_:=h
 change eV (fun t=>(fG Hz t).ty) F w [.i .i64,.i .i64] _ (d.al,d.Method,())
 exact ⟨_,_,rfl,rfl,_,_,rfl,rfl,rfl⟩
theorem awr {d:bO.El 121} (h:((bZ J.ju)).rd F w cs d):(bO.ty 121).rd F w cs d:=by
 obtain ⟨A,c,rfl⟩:=lp h
 change eV (fun t=>(fG MK t).ty) F w [.l 166] _ (d,())
 exact ⟨_,_,rfl,iy (fun _ _=>awx) h,rfl⟩
end
end Go.Proofs.YteeliipnilghaaaGreat
namespace J
theorem cE {n:Int} (aN: -9223372036854775808 <=n) (I:n<= 9223372036854775807):aE n=n:=by unfold aE;omega
theorem eK {i n:Nat} (hi:i <n) (aA:n<= 140737488355328):aE ((i:Int)+ 1)=((i+ 1 :Nat):Int):=by
 rw [cE (by omega) (by omega)];omega
theorem bm {α:Type} {l:List α} {i:Nat} {x:α} (h:l[i]? =some x):idx l (i:Int)=some x:=by
 unfold idx;rw [if_pos (by omega)];simpa using h
theorem bF {i n:Nat} (h:i <n):decide ((i:Int) <(n:Int))=true:=decide_eq_true (by omega)
theorem bE (n:Nat):decide ((n:Int) <(n:Int))=false:=decide_eq_false (by omega)
def cn {ρ:Type}:Option ρ->Way ρ Unit
 | some r=>.out r
 | none=>.go ()
def gy {ρ:Type} (o:Option ρ) (y:Option (Way ρ Unit)):Option (Way ρ Unit):=match o with
 | some r=>some (.out r)
 | none=>y
theorem each {α ρ:Type} {l:List α} {L:Nat->Int->Option (Way ρ Unit)} (g:α->Option ρ) (ak:l.length<= 140737488355328)
 (ao:∀ k (i:Nat) x,l[i]? =some x->L (k+ 1) (i:Int)=gy (g x) (L k (aE ((i:Int)+ 1))))
 (he:∀ k,L (k+ 1) (l.length:Int)=some (.go ())) {F:Nat} (az:l.length <F):L F 0 =some (cn (l.findSome? g)):=by
 have key:∀ (d i k:Nat),i+d=l.length->d <k->L k (i:Int)=some (cn ((l.drop i).findSome? g)):=by
  intro d
  induction d with
  | zero=>
    intro i k h ai
    obtain ⟨k,rfl⟩:∃ k',k=k'+ 1 :=⟨k - 1,by omega⟩
    have hi:i=l.length:=by omega
    subst hi
    rw [he];simp [cn]
  | succ d ba=>
    intro i k h ai
    obtain ⟨k,rfl⟩:∃ k',k=k'+ 1 :=⟨k - 1,by omega⟩
    have hi:i <l.length:=by omega
    rw [ao k i l[i] (List.getElem?_eq_getElem hi),List.drop_eq_getElem_cons hi,List.findSome?_cons]
    cases aw:g l[i] with
    | some r=>rfl
    | none=>
      simp only [gy]
      rw [eK hi ak]
      exact ba (i+ 1) k (by omega) (by omega)
 have:=key l.length 0 F (by omega) az
 simpa using this
theorem jA {ρ:Type} {n:Nat} {L:Nat->Int->Option (Way ρ Unit)} (g:Nat->Option ρ) (ak:n<= 140737488355328)
 (ao:∀ k (i:Nat),i <n->L (k+ 1) (i:Int)=gy (g i) (L k (aE ((i:Int)+ 1))))
 (he:∀ k,L (k+ 1) (n:Int)=some (.go ())) {F:Nat} (az:n <F):L F 0 =some (cn ((List.range n).findSome? g)):=by
 have h:=each (l:=List.range n) (L:=L) g (by simpa using ak) (fun k i x ad=>by
  have hi:i <n:=by have:=(List.getElem?_eq_some_iff.1 ad).1;simpa using this
  rw [List.getElem?_range hi] at ad
  simp only [Option.some.injEq] at ad
  subst ad
  exact ao k i hi) (fun k=>by simpa using he k) (F:=F) (by simpa using az)
 exact h
theorem I3 {σ:Type} {n:Nat} (T:Nat->Nat->Option σ) (fin:σ) (ao:∀ k i,i <n->T (k+ 1) i=T k (i+ 1)) (he:∀ k,T (k+ 1) n=some fin) {F:Nat} (az:n <F):T F 0 =some fin:=by
 have key:∀ (d i k:Nat),i+d=n->d <k->T k i=some fin:=by
  intro d
  induction d with
  | zero=>
    intro i k h ai
    obtain ⟨k,rfl⟩:∃ k',k=k'+ 1 :=⟨k - 1,by omega⟩
    have hi:i=n:=by omega
    subst hi
    exact he k
  | succ d ba=>
    intro i k h ai
    obtain ⟨k,rfl⟩:∃ k',k=k'+ 1 :=⟨k - 1,by omega⟩
    rw [ao k i (by omega)]
    exact ba (i+ 1) k (by omega) (by omega)
 exact key n 0 F (by omega) az
abbrev Small (F n:Nat):Prop:=n<= 140737488355328 /\n <F
end J
namespace J
def qv (b:UInt8):Bool:=((((decide (97 <=(b.toNat:Int))) && (decide ((b.toNat:Int)<= 122))) || ((decide (65 <=(b.toNat:Int))) && (decide ((b.toNat:Int)<= 90)))) || ((decide (48 <=(b.toNat:Int))) && (decide ((b.toNat:Int)<= 57)))) || (decide ((b.toNat:Int)= 95))
def gJ (s:List UInt8):Bool:=(s.findSome? fun b=>if qv b then none else some ()).isNone && decide (s≠ []) && decide (s.length<= 20)
theorem xI {F:Nat} {s:List UInt8} (h:Small F s.length):mJ F s=some (gJ s):=by
 unfold mJ
 have l1:=each (l:=s) (L:=qn s) (fun b=>if qv b then none else some false) h.1 (fun k i x ad=>by
  rw [qn,bF (List.getElem?_eq_some_iff.1 ad).1,cond_true,bm ad,Option.bind_some]
  show cond (!qv x) _ _=_
  cases qv x <;> rfl) (fun k=>by rw [qn,bE];rfl) h.2
 rw [l1]
 unfold gJ
 have e:∀ s:List UInt8,s.findSome? (fun b=>if qv b then none else some false)=(s.findSome? (fun b=>if qv b then none else some ())).map (fun _=>false):=by
  intro s
  induction s with
  | nil=>rfl
  | cons b r ba=>simp only [List.findSome?_cons];cases qv b <;> simp [ba]
 rw [e]
 cases s.findSome? (fun b=>if qv b then none else some ()) with
 | some _=>rfl
 | none=>
   simp only [Option.map_none,cn,oI,Option.isNone_none,Bool.true_and]
   congr 1
   rw [Bool.eq_iff_iff]
   cases s <;> first | (simp;done) | (simp;omega)
theorem Bj {F:Nat} {s:List UInt8} (h:Small F s.length):mc F s=some (gJ s):=by
 rw [<-xI h]
 unfold mc mJ bytesOf
 rw [if_pos h.1,Option.bind_some]
 have e:∀ k n,yL s k n=qn s k n:=by
  intro k
  induction k with
  | zero=>intro n;rfl
  | succ k ba=>
    intro n
    rw [yL,qn]
    simp only [ba]
    congr 1
    congr 1
    funext b
    have hc:(((((decide ((b.toNat:Int) < 97)) || (decide (122 <(b.toNat:Int)))) && ((decide ((b.toNat:Int) < 65)) || (decide (90 <(b.toNat:Int))))) && ((decide ((b.toNat:Int) < 48)) || (decide (57 <(b.toNat:Int))))) && (!decide ((b.toNat:Int)= 95)))= !qv b:=by
     unfold qv
     rw [Bool.eq_iff_iff]
     first | (simp;done) | (simp;omega)
    rw [hc];rfl
 rw [e]
 cases qn s F 0 with
 | none=>rfl
 | some w=>
   cases w with
   | out r=>rfl
   | go u=>
     simp only [oI]
     congr 1
     rw [Bool.eq_iff_iff]
     cases s <;> first | (simp;done) | (simp;omega)
def kindOk (k:Kind):Bool:=if k.Kind= 3 \/k.Kind= 4 then gJ k.al else (decide (k.Kind= 1) || decide (k.Kind= 2)) && decide (k.al= [])
theorem PO {F:Nat} {k:Kind} (h:Small F k.al.length):sK F k=some (kindOk k):=by
 unfold sK Iz kindOk
 simp only [Option.bind_some,Bj h]
 by_cases aq:k.Kind= 3 \/k.Kind= 4
 · rw [if_pos aq]
   rcases aq with e | e <;> simp [e]
 · rw [if_neg aq]
   have e3: ¬ k.Kind= 3 :=fun e=>aq (.inl e)
   have e4: ¬ k.Kind= 4 :=fun e=>aq (.inr e)
   simp [e3,e4]
theorem L2 {F:Nat} {k:Kind} (h:Small F k.al.length):rY F k=some (kindOk k):=by
 unfold rY kindOk
 simp only [xI h,Option.bind_some]
 by_cases aq:k.Kind= 3 \/k.Kind= 4
 · rw [if_pos aq]
   rcases aq with e | e <;> simp [e]
 · rw [if_neg aq]
   have e3: ¬ k.Kind= 3 :=fun e=>aq (.inl e)
   have e4: ¬ k.Kind= 4 :=fun e=>aq (.inr e)
   by_cases I:k.Kind= 1
   · simp [I]
   · by_cases aa:k.Kind= 2
     · simp [aa]
     · simp [e3,e4,I,aa]
def hj (n a b:Int):Bool:=decide (a<=n) && decide (n<=b)
def qF (h:Handler):Option Int:=if gJ h.al then (if hj h.From 0 200 && hj h.To 0 200 && hj h.hS 0 200 then none else some 3) else some 1
def sM (k:Kind):Option Int:=if kindOk k then none else some 7
def za (m:Method):Int:=
 if gJ m.Name then
  if 4 <m.cr.length\/ 200 <m.Code.length\/ 4 <m.cw.length then 2
  else if hj m.g4 0 10 && hj m.g2 0 10 then
   match m.cr.findSome? sM with
   | some e=>e
   | none=>if m.Returns=⟨0,[]⟩\/kindOk m.Returns=true then (m.cw.findSome? qF).getD 0 else 7
  else 3
 else 1
structure Method.Fits (F:Nat) (m:Method):Prop where
 name:Small F m.Name.length
 args:Small F m.cr.length
 arg:∀ k ∈ m.cr,Small F k.al.length
 ret:Small F m.Returns.al.length
 uW:Small F m.cw.length
 hand:∀ h ∈ m.cw,Small F h.al.length
structure al.Fits (F:Nat) (c:al):Prop where
 name:Small F c.Name.length
 super:Small F c.cO.length
 fields:Small F c.Fields.length
 field:∀ f ∈ c.Fields,Small F f.Name.length/\Small F f.Kind.al.length
 methods:Small F c.bb.length
 method:∀ m ∈ c.bb,m.Fits F
def Fits (F:Nat) (l:List al):Prop:=Small F l.length/\ ∀ c ∈ l,c.Fits F
theorem ac3 {F:Nat} (o:Option Int) (d:Int):cd (α:=Unit) (some (cn o)) (fun _=>some d)=some (o.getD d):=by cases o <;> rfl
theorem ac4 {o:Option Int} {k:Option Int}:cd (α:=Unit) (some (cn o)) (fun _=>k)=(match o with | some e=>some e | none=>k):=by cases o <;> rfl
theorem aqU {F:Nat} {m:Method} (h:m.Fits F):yO F m=some (za m):=by
 have l1:vj F m F 0 =some (cn (m.cr.findSome? sM)):=each sM h.args.1 (fun k i x ad=>by
  rw [vj,bF (List.getElem?_eq_some_iff.1 ad).1,cond_true,bm ad,Option.bind_some,PO (h.arg x (List.mem_of_getElem? ad)),Option.bind_some]
  unfold sM
  show cond (!kindOk x) _ _=_
  cases kindOk x <;> rfl) (fun k=>by rw [vj,bE];rfl) h.args.2
 have ak:∀ {x:Handler} (_:x ∈ m.cw) (Y:Option (Way Int Unit)),((mc F x.al).bind fun Sl=>
  cond (!Sl) (some (.out 1)) ((k8 x.From 0 200).bind fun oC=>
  cond (!oC) (some (.out 3)) ((k8 x.To 0 200).bind fun Sm=>
  cond (!Sm) (some (.out 3)) ((k8 x.hS 0 200).bind fun Sn=>
  cond (!Sn) (some (.out 3)) Y))))=gy (qF x) Y:=by
  intro x ad Y
  rw [Bj (h.hand x ad)]
  unfold qF k8
  simp only [Option.bind_some]
  show cond (!gJ x.al) _ (cond (!hj x.From 0 200) _ (cond (!hj x.To 0 200) _ (cond (!hj x.hS 0 200) _ _)))=_
  cases gJ x.al <;> cases hj x.From 0 200 <;> cases hj x.To 0 200 <;> cases hj x.hS 0 200 <;> rfl
 have cj:yP F m F 0 =some (cn (m.cw.findSome? qF)):=each qF h.uW.1 (fun k i x ad=>by
  rw [yP,bF (List.getElem?_eq_some_iff.1 ad).1,cond_true,bm ad,Option.bind_some]
  exact ak (List.mem_of_getElem? ad) _) (fun k=>by rw [yP,bE];rfl) h.uW.2
 have jp:pA F m F 0 =some (cn (m.cw.findSome? qF)):=each qF h.uW.1 (fun k i x ad=>by
  rw [pA,bF (List.getElem?_eq_some_iff.1 ad).1,cond_true,bm ad,Option.bind_some]
  exact ak (List.mem_of_getElem? ad) _) (fun k=>by rw [pA,bE];rfl) h.uW.2
 unfold yO k8 za
 rw [Bj h.name,l1,cj,jp]
 have ai:=PO (F:=F) (k:=(⟨m.Returns.Kind,m.Returns.al⟩:Kind)) h.ret
 simp only [Option.bind_some,ai,ac3 (F:=F),ac4]
 cases gJ m.Name with
 | false=>rfl
 | true=>
   simp only [Bool.not_true,cond_false,if_true]
   by_cases hm:4 <m.cr.length\/ 200 <m.Code.length\/ 4 <m.cw.length
   · rw [if_pos hm]
     have:((decide (4 <(m.cr.length:Int))) || (decide (200 <(m.Code.length:Int))) || (decide (4 <(m.cw.length:Int))))=true:=by
      simp;omega
     rw [this];rfl
   · rw [if_neg hm]
     have:((decide (4 <(m.cr.length:Int))) || (decide (200 <(m.Code.length:Int))) || (decide (4 <(m.cw.length:Int))))=false:=by
      simp;omega
     rw [this]
     show cond (!hj m.g4 0 10) _ (cond (!hj m.g2 0 10) _ _)=_
     cases hj m.g4 0 10 <;> cases hj m.g2 0 10 <;> try rfl
     simp only [Bool.not_true,cond_false,Bool.and_self,if_true]
     cases m.cr.findSome? sM with
     | some e=>rfl
     | none=>
       simp only
       by_cases ay:m.Returns=⟨0,[]⟩
       · rw [if_pos (.inl ay),show (decide ((⟨m.Returns.Kind,m.Returns.al⟩:Kind)=⟨0,[]⟩))=true from decide_eq_true ay]
         rfl
       · rw [show (decide ((⟨m.Returns.Kind,m.Returns.al⟩:Kind)=⟨0,[]⟩))=false from decide_eq_false ay]
         simp only [Bool.not_false,cond_true]
         show cond (!kindOk m.Returns) _ _=_
         cases apD:kindOk m.Returns with
         | true=>rw [if_pos (.inr rfl)];rfl
         | false=>rw [if_neg (by simp [ay])];rfl
theorem akP {F:Nat} {m:Method} (h:m.Fits F):xx F m=some (za m):=by
 have l1:xy F m F 0 =some (cn (m.cr.findSome? sM)):=each sM h.args.1 (fun k i x ad=>by
  rw [xy,bF (List.getElem?_eq_some_iff.1 ad).1,cond_true,bm ad,Option.bind_some,L2 (h.arg x (List.mem_of_getElem? ad)),Option.bind_some]
  unfold sM
  cases kindOk x <;> rfl) (fun k=>by rw [xy,bE];rfl) h.args.2
 have cj:xz F m F 0 =some (cn (m.cw.findSome? qF)):=each qF h.uW.1 (fun k i x ad=>by
  rw [xz,bF (List.getElem?_eq_some_iff.1 ad).1,cond_true,bm ad,Option.bind_some,xI (h.hand x (List.mem_of_getElem? ad))]
  unfold qF fv
  simp only [Option.bind_some]
  show cond (!gJ x.al) _ (cond (!hj x.From 0 200) _ (cond (!hj x.To 0 200) _ (cond (!hj x.hS 0 200) _ _)))=_
  cases gJ x.al <;> cases hj x.From 0 200 <;> cases hj x.To 0 200 <;> cases hj x.hS 0 200 <;> rfl) (fun k=>by rw [xz,bE];rfl) h.uW.2
 unfold xx fv za
 rw [xI h.name,l1,cj]
 have ai:=L2 (F:=F) (k:=(⟨m.Returns.Kind,m.Returns.al⟩:Kind)) h.ret
 simp only [Option.bind_some,ai,ac3 (F:=F),ac4]
 cases gJ m.Name with
 | false=>rfl
 | true=>
   simp only [Bool.not_true,cond_false,if_true]
   by_cases hm:4 <m.cr.length\/ 200 <m.Code.length\/ 4 <m.cw.length
   · rw [if_pos hm]
     have:((decide (4 <(m.cr.length:Int))) || (decide (200 <(m.Code.length:Int))) || (decide (4 <(m.cw.length:Int))))=true:=by
      simp;omega
     rw [this];rfl
   · rw [if_neg hm]
     have:((decide (4 <(m.cr.length:Int))) || (decide (200 <(m.Code.length:Int))) || (decide (4 <(m.cw.length:Int))))=false:=by
      simp;omega
     rw [this]
     show cond (!hj m.g4 0 10) _ (cond (!hj m.g2 0 10) _ _)=_
     cases hj m.g4 0 10 <;> cases hj m.g2 0 10 <;> try rfl
     simp only [Bool.not_true,cond_false,Bool.and_self,if_true]
     cases m.cr.findSome? sM with
     | some e=>rfl
     | none=>
       simp only
       show cond ((!kindOk m.Returns) && _) _ _=_
       by_cases ay:m.Returns=⟨0,[]⟩
       · rw [if_pos (.inl ay),ay]
         simp
       · have b2:((!decide (m.Returns.Kind= 0)) || (!decide (m.Returns.al= [])))=true:=by
          rcases bu:m.Returns with ⟨a,b⟩
          rw [bu] at ay
          by_cases aK:a= 0
          · by_cases ah:b= []
            · subst aK;subst ah;exact absurd rfl ay
            · simp [ah]
          · simp [aK]
         rw [b2]
         cases apD:kindOk m.Returns with
         | true=>rw [if_pos (.inr rfl)];rfl
         | false=>rw [if_neg (by simp [ay])];rfl
end J
