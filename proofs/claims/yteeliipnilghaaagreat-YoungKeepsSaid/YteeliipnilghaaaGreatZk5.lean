/- Part 5 of the proof that is ended in the last text: small logic, what the functions compute, walks, plain laws. -/
import Derived.Test.YteeliipnilghaaaGreatZk4
namespace Go.Proofs.YteeliipnilghaaaGreat
open Go Go.RowKit ax J bB
set_option maxRecDepth 100000
@[reducible] def CI {α:Type} (x:List UInt8 × List UInt8 × List J.Field × List J.Method × α):J.aq:=⟨x.1,x.2.1,x.2.2.1,x.2.2.2.1⟩
@[reducible] def dM {α:Type} (x:List Int × Int × Int × Int × Int × List Int × Int × α):J.aW:=⟨x.1,x.2.1,x.2.2.1,x.2.2.2.1,x.2.2.2.2.1,x.2.2.2.2.2.1,x.2.2.2.2.2.2.1⟩
@[reducible] def Gq {α:Type} (x:Int × List UInt8 × α):J.Kind:=⟨x.1,x.2.1⟩
@[reducible] def eX {α:Type} (x:List J.aq × List Int × List (List J.Field) × List (List (List UInt8)) × List (List J.Target) × α):J.aQ:=⟨x.1,x.2.1,x.2.2.1,x.2.2.2.1,x.2.2.2.2.1⟩
@[reducible] def rN {α:Type} (x:List UInt8 × Bool × List J.Kind × Int × List UInt8 × Int × Int × List UInt8 × List J.Handler × α):J.Method:=⟨x.1,x.2.1,x.2.2.1,⟨x.2.2.2.1,x.2.2.2.2.1⟩,x.2.2.2.2.2.1,x.2.2.2.2.2.2.1,x.2.2.2.2.2.2.2.1,x.2.2.2.2.2.2.2.2.1⟩
@[reducible] def gz {α:Type} (x:List J.aq × List Int × List (List J.Field) × List (List (List UInt8)) × List (List J.Target) × α):J.ch:=⟨⟨x.1,x.2.1,x.2.2.1,x.2.2.2.1,x.2.2.2.2.1⟩⟩
@[reducible] def fh:bN:=.c 72 [.l 3,.i .i64,.i .i64,.i .i64,.i .i64,.l 3,.i .i64,.l 134,.l 3,.l 124,.l 120,.l 121,.l 3,.l 3,.M 1]
@[reducible] def hF:bN:=.c 72 [.l 3,.i .i64,.i .i64,.i .i64,.i .i64,.l 3,.i .i64,.l 134,.l 3,.l 124,.l 120,.l 121,.l 3,.l 3,.M 2]
@[reducible] def kG:bN:=.c 131 [.s,.b,.l 128,.i .i64,.s,.i .i64,.i .i64,.s,.l 157]
@[reducible] def abF:bN:=.c 24 [.R 1,.i .i64,.i .i64,.i .i64,.i .i64,.l 3,.i .i64]
@[reducible] def h3:bN:=.c 24 [.l 3,.i .i64,.i .i64,.i .i64,.i .i64,.l 3,.i .i64]
@[reducible] def J3:dg:=.a [.s,.b,.l 128,.i .i64,.s,.i .i64,.i .i64,.s,.l 157]
@[reducible] def iu:dg:=.a [.l 3,.i .i64,.i .i64,.i .i64,.i .i64,.l 3,.i .i64]
@[reducible] def dL:bN:=.c 30 [.l 134,.l 3,.l 124,.l 120,.l 121]
@[reducible] def gW:dg:=.a [.l 134,.l 3,.l 124,.l 120,.l 121]
@[reducible] def abG:bN:=.c 30 [.l 134,.l 3,.R 4,.R 5,.R 6]
@[reducible] def abC:bN:=.c 30 [.l 134,.R 2,.R 3,.R 4,.R 5]
@[reducible] def hG:bN:=.c 134 [.s,.s,.l 136,.l 131]
@[reducible] def abD:bN:=.c 134 [.s,.s,.R 2,.R 3]
@[reducible] def jK:bN:=.c 117 [.l 134,.M 1,.R 2]
@[reducible] def eu:bN:=.c 117 [.l 134,.M 1,.l 3]
@[reducible] def abE:bN:=.c 117 [.l 134,.M 2,.l 3]
noncomputable def alF (F:Nat):aX aU:=⟨Hg F,fun _=>ami F,rfl⟩
noncomputable def Od (k:Nat) (om:List UInt8) (wh:Int) (al:Int):=c9 ((om.length:Int)=al/\True) (ba (y9 om k wh))
theorem R7 (k:Nat) (om:List UInt8) (wh:Int):ba (y9 om k wh)=Od k om wh (om.length:Int):=(dy ⟨rfl,trivial⟩).symm
noncomputable def ah_ (F:Nat):aX aU:=(alF F).bX 140 0 F ⟨[0,6,7,8],[.p (.s),.p (.l 5),.p (.i .i64),.p (.i .i64)],[],
 [⟨⟨.nm,[0],[.p (.s)],[]⟩,Unit,fun d r=>((d.1.1,()),())⟩,
  ⟨⟨.rt,[2],[.p (.b)],[]⟩,Bool,fun d r=>((r,()),())⟩],
 fun k d=>Od k d.1.2.1 d.1.2.2.2.1 d.1.2.2.1⟩ (bJ.bW (fun d=>dx) fun k aA aG q h=>by
 obtain ⟨(a0:List UInt8),(v1:List UInt8),(v2:Int),(bs:Int),_⟩:=aA
 obtain ⟨ay,_⟩:=dZ h
 dsimp only at ay
 obtain ⟨rfl,_⟩:=ay
 conv=>rhs;change Option.map (α:=Unit ⊕ Bool) _ (Od (k+ 1) v1 bs (v1.length:Int));rw [<-R7 (k+ 1) v1 bs];simp only [y9,a6,R7];simp only [bR]
 kernel_rfl)
noncomputable def VB (F:Nat):aX aU:=(ah_ F).rt 140 ⟨[.p (.s)],[],[.p (.b)],[],Bool,fun d=>mf F d.1.1,fun d r=>((r,()),())⟩ fun aA aG=>by
 obtain ⟨(a0:List UInt8),_⟩:=aA
 conv=>rhs;simp only [mf,a6,R7]
 kernel_rfl
noncomputable def akl (F:Nat):aX aU:=(VB F).rt 162 ⟨[.p (.i .i64)],[],[.p (.b)],[],Bool,fun d=>I4 d.1.1,fun d r=>((r,()),())⟩ fun aA aG=>by
 conv=>rhs;simp only [I4,a6]
 kernel_rfl
noncomputable def akw (F:Nat):aX aU:=(akl F).rt 141 ⟨[.a [.i .i64,.s]],[],[.p (.b)],[],Bool,fun d=>s4 F (Gq d.1.1),fun d r=>((r,()),())⟩ fun aA aG=>by
 conv=>rhs;simp only [s4,a6]
 kernel_rfl
noncomputable def akH (F:Nat):aX aU:=(akw F).rt 163 ⟨[.p (.i .i64),.p (.i .i64),.p (.i .i64)],[],[.p (.b)],[],Bool,fun d=>lc d.1.1 d.1.2.1 d.1.2.2.1,fun d r=>((r,()),())⟩ fun aA aG=>by
 conv=>rhs;simp only [lc,a6]
 kernel_rfl
noncomputable def Of (F:Nat) (k:Nat) (m_:J.Method) (wq:Int) (ak:Int) (dn:List J.Kind):=c9 ((m_.cy.length:Int)=ak/\(m_.cy:List J.Kind)=dn/\True) (ba (vM F m_ k wq))
theorem R8 (F:Nat) (k:Nat) (m_:J.Method) (wq:Int):ba (vM F m_ k wq)=Of F k m_ wq (m_.cy.length:Int) m_.cy:=(dy ⟨rfl,rfl,trivial⟩).symm
noncomputable def akS (F:Nat):aX aU:=(akH F).bX 142 1 F ⟨[1,41,42,43],[.p (.B 0),.p (.l 128),.p (.i .i64),.p (.i .i64)],[kG],
 [⟨⟨.nm,[1],[.p (.B 0)],[kG]⟩,Unit,fun d r=>(((),()),(d.2.1,()))⟩,
  ⟨⟨.rt,[2],[.p (.i .i64)],[.d]⟩,Int,fun d r=>((r,()),((),()))⟩],
 fun k d=>Of F k (⟨d.2.1.1,d.2.1.2.1,d.1.2.1,(Gq d.2.1.2.2.2),d.2.1.2.2.2.2.2.1,d.2.1.2.2.2.2.2.2.1,d.2.1.2.2.2.2.2.2.2.1,d.2.1.2.2.2.2.2.2.2.2.1⟩:J.Method) d.1.2.2.2.1 d.1.2.2.1 d.2.1.2.2.1⟩ (bJ.bW (fun d=>dx) fun k aA aG q h=>by
 obtain ⟨_,(a0:List J.Kind),(v1:Int),(v2:Int),_⟩:=aA
 obtain ⟨⟨(bs:List UInt8),(v4:Bool),(bY:List J.Kind),(v6:Int),(cu:List UInt8),(cB:Int),(cG:Int),(v10:List UInt8),(v11:List J.Handler),_⟩,_⟩:=aG
 obtain ⟨ay,_⟩:=dZ h
 dsimp only at ay
 obtain ⟨rfl,rfl,_⟩:=ay
 conv=>rhs;change Option.map (α:=Unit ⊕ Int) _ (Of F (k+ 1) (⟨bs,v4,a0,(⟨v6,cu⟩:J.Kind),cB,cG,v10,v11⟩:J.Method) v2 (a0.length:Int) (a0));rw [<-R8 F (k+ 1) (⟨bs,v4,a0,(⟨v6,cu⟩:J.Kind),cB,cG,v10,v11⟩:J.Method) v2];simp only [vM,a6,R8];simp only [bR]
 kernel_rfl)
noncomputable def Iu (F:Nat) (k:Nat) (m_:J.Method) (kD:Int) (ak:Int):=c9 ((m_.cC.length:Int)=ak/\True) (ba (pG F m_ k kD))
theorem Kj (F:Nat) (k:Nat) (m_:J.Method) (kD:Int):ba (pG F m_ k kD)=Iu F k (⟨[],false,[],(⟨0,[]⟩:J.Kind),0,0,[],m_.cC⟩:J.Method) kD (m_.cC.length:Int):=(show ba (pG F m_ k kD)=ba (pG F (⟨[],false,[],(⟨0,[]⟩:J.Kind),0,0,[],m_.cC⟩:J.Method) k kD) by kernel_rfl).trans (dy ⟨rfl,trivial⟩).symm
theorem av3 (F:Nat) (k:Nat) (m_:J.Method) (kD:Int):ba (zb F m_ k kD)=Iu F k (⟨[],false,[],(⟨0,[]⟩:J.Kind),0,0,[],m_.cC⟩:J.Method) kD (m_.cC.length:Int):=(show ba (zb F m_ k kD)=ba (pG F m_ k kD) by kernel_rfl).trans (Kj F k m_ kD)
noncomputable def ak3 (F:Nat):aX aU:=(akS F).bX 142 3 F ⟨[62,63,64],[.p (.l 157),.p (.i .i64),.p (.i .i64)],[],
 [⟨⟨.nm,[],[],[]⟩,Unit,fun d r=>((),())⟩,
  ⟨⟨.rt,[2],[.p (.i .i64)],[]⟩,Int,fun d r=>((r,()),())⟩],
 fun k d=>Iu F k (⟨[],false,[],(⟨0,[]⟩:J.Kind),0,0,[],d.1.1⟩:J.Method) d.1.2.2.1 d.1.2.1⟩ (bJ.bW (fun d=>dx) fun k aA aG q h=>by
 obtain ⟨(a0:List J.Handler),(v1:Int),(v2:Int),_⟩:=aA
 obtain ⟨ay,_⟩:=dZ h
 dsimp only at ay
 obtain ⟨rfl,_⟩:=ay
 conv=>rhs;change Option.map (α:=Unit ⊕ Int) _ (Iu F (k+ 1) (⟨[],false,[],(⟨0,[]⟩:J.Kind),0,0,[],a0⟩:J.Method) v2 (a0.length:Int));rw [<-Kj F (k+ 1) (⟨[],false,[],(⟨0,[]⟩:J.Kind),0,0,[],a0⟩:J.Method) v2];simp only [pG,a6,Kj];simp only [bR]
 kernel_rfl)
noncomputable def alc (F:Nat):aX aU:=(ak3 F).rt 142 ⟨[J3],[],[.p (.i .i64)],[],Int,fun d=>za F (rN d.1.1),fun d r=>((r,()),())⟩ fun aA aG=>by
 obtain ⟨⟨(a0:List UInt8),(v1:Bool),(v2:List J.Kind),(bs:Int),(v4:List UInt8),(bY:Int),(v6:Int),(cu:List UInt8),(cB:List J.Handler),_⟩,_⟩:=aA
 conv=>rhs;simp only [za,a6,R8,Kj,av3]
 kernel_rfl
noncomputable def Ir (F:Nat) (k:Nat) (c_:J.aq) (mo:Int) (ak:Int) (dn:List J.Field):=c9 ((c_.Fields.length:Int)=ak/\(c_.Fields:List J.Field)=dn/\True) (ba (s3 F c_ k mo))
theorem Kh (F:Nat) (k:Nat) (c_:J.aq) (mo:Int):ba (s3 F c_ k mo)=Ir F k c_ mo (c_.Fields.length:Int) c_.Fields:=(dy ⟨rfl,rfl,trivial⟩).symm
theorem av1 (F:Nat) (k:Nat) (c_:J.aq) (mo:Int):ba (y_ F c_ k mo)=Ir F k c_ mo (c_.Fields.length:Int) c_.Fields:=(show ba (y_ F c_ k mo)=ba (s3 F c_ k mo) by kernel_rfl).trans (Kh F k c_ mo)
noncomputable def alo (F:Nat):aX aU:=(alc F).bX 107 1 F ⟨[1,36,37,38],[.p (.B 0),.p (.l 136),.p (.i .i64),.p (.i .i64)],[hG],
 [⟨⟨.nm,[1],[.p (.B 0)],[hG]⟩,Unit,fun d r=>(((),()),(d.2.1,()))⟩,
  ⟨⟨.rt,[2],[.p (.i .i64)],[.d]⟩,Int,fun d r=>((r,()),((),()))⟩],
 fun k d=>Ir F k (⟨d.2.1.1,d.2.1.2.1,d.1.2.1,d.2.1.2.2.2.1⟩:J.aq) d.1.2.2.2.1 d.1.2.2.1 d.2.1.2.2.1⟩ (bJ.bW (fun d=>dx) fun k aA aG q h=>by
 obtain ⟨_,(a0:List J.Field),(v1:Int),(v2:Int),_⟩:=aA
 obtain ⟨⟨(bs:List UInt8),(v4:List UInt8),(bY:List J.Field),(v6:List J.Method),_⟩,_⟩:=aG
 obtain ⟨ay,_⟩:=dZ h
 dsimp only at ay
 obtain ⟨rfl,rfl,_⟩:=ay
 conv=>rhs;change Option.map (α:=Unit ⊕ Int) _ (Ir F (k+ 1) (⟨bs,v4,a0,v6⟩:J.aq) v2 (a0.length:Int) (a0));rw [<-Kh F (k+ 1) (⟨bs,v4,a0,v6⟩:J.aq) v2];simp only [s3,a6,Kh];simp only [bR]
 kernel_rfl)
noncomputable def Is (F:Nat) (k:Nat) (c_:J.aq) (kE:Int) (ak:Int):=c9 ((c_.bd.length:Int)=ak/\True) (ba (pF F c_ k kE))
theorem Ki (F:Nat) (k:Nat) (c_:J.aq) (kE:Int):ba (pF F c_ k kE)=Is F k (⟨[],[],[],c_.bd⟩:J.aq) kE (c_.bd.length:Int):=(show ba (pF F c_ k kE)=ba (pF F (⟨[],[],[],c_.bd⟩:J.aq) k kE) by kernel_rfl).trans (dy ⟨rfl,trivial⟩).symm
theorem av2 (F:Nat) (k:Nat) (c_:J.aq) (kE:Int):ba (y' F c_ k kE)=Is F k (⟨[],[],[],c_.bd⟩:J.aq) kE (c_.bd.length:Int):=(show ba (y' F c_ k kE)=ba (pF F c_ k kE) by kernel_rfl).trans (Ki F k c_ kE)
noncomputable def ah' (F:Nat):aX aU:=(alo F).bX 107 4 F ⟨[54,55,56],[.p (.l 131),.p (.i .i64),.p (.i .i64)],[],
 [⟨⟨.nm,[],[],[]⟩,Unit,fun d r=>((),())⟩,
  ⟨⟨.rt,[2],[.p (.i .i64)],[]⟩,Int,fun d r=>((r,()),())⟩],
 fun k d=>Is F k (⟨[],[],[],d.1.1⟩:J.aq) d.1.2.2.1 d.1.2.1⟩ (bJ.bW (fun d=>dx) fun k aA aG q h=>by
 obtain ⟨(a0:List J.Method),(v1:Int),(v2:Int),_⟩:=aA
 obtain ⟨ay,_⟩:=dZ h
 dsimp only at ay
 obtain ⟨rfl,_⟩:=ay
 conv=>rhs;change Option.map (α:=Unit ⊕ Int) _ (Is F (k+ 1) (⟨[],[],[],a0⟩:J.aq) v2 (a0.length:Int));rw [<-Ki F (k+ 1) (⟨[],[],[],a0⟩:J.aq) v2];simp only [pF,a6,Ki];simp only [bR]
 kernel_rfl)
noncomputable def ail (F:Nat):aX aU:=(ah' F).rt 107 ⟨[.a [.s,.s,.l 136,.l 131]],[],[.p (.i .i64)],[],Int,fun d=>E1 F (CI d.1.1),fun d r=>((r,()),())⟩ fun aA aG=>by
 obtain ⟨⟨(a0:List UInt8),(v1:List UInt8),(v2:List J.Field),(bs:List J.Method),_⟩,_⟩:=aA
 conv=>rhs;simp only [E1,a6,Kh,av1,Ki,av2]
 kernel_rfl
noncomputable def Oc (F:Nat) (k:Nat) (a':List J.aq) (ww:Int) (ak:Int):=c9 ((a'.length:Int)=ak/\True) (ba (vL F a' k ww))
theorem R6 (F:Nat) (k:Nat) (a':List J.aq) (ww:Int):ba (vL F a' k ww)=Oc F k a' ww (a'.length:Int):=(dy ⟨rfl,trivial⟩).symm
noncomputable def aiw (F:Nat):aX aU:=(ail F).bX 74 0 F ⟨[9,10,11],[.p (.l 134),.p (.i .i64),.p (.i .i64)],[],
 [⟨⟨.nm,[],[],[]⟩,Unit,fun d r=>((),())⟩,
  ⟨⟨.rt,[2],[.p (.i .i64)],[]⟩,Int,fun d r=>((r,()),())⟩],
 fun k d=>Oc F k d.1.1 d.1.2.2.1 d.1.2.1⟩ (bJ.bW (fun d=>dx) fun k aA aG q h=>by
 obtain ⟨(a0:List J.aq),(v1:Int),(v2:Int),_⟩:=aA
 obtain ⟨ay,_⟩:=dZ h
 dsimp only at ay
 obtain ⟨rfl,_⟩:=ay
 conv=>rhs;change Option.map (α:=Unit ⊕ Int) _ (Oc F (k+ 1) a0 v2 (a0.length:Int));rw [<-R6 F (k+ 1) a0 v2];simp only [vL,a6,R6];simp only [bR]
 kernel_rfl)
noncomputable def aiH (F:Nat):aX aU:=(aiw F).rt 74 ⟨[.p (.l 134)],[],[.p (.i .i64)],[],Int,fun d=>E0 F d.1.1,fun d r=>((r,()),())⟩ fun aA aG=>by
 obtain ⟨(a0:List J.aq),_⟩:=aA
 conv=>rhs;simp only [E0,a6,R6]
 kernel_rfl
noncomputable def aiS (F:Nat):aX aU:=(aiH F).bX 75 2 F ⟨[3,5,8,9,10,23,24,25],[.p (.R 0),.p (.B 1),.p (.l 134),.p (.i .i64),.p (.i .i64),.p (.R 3),.p (.i .i64),.p (.i .i64)],[.r 134 false,abD,.r 136 true,.r 131 true],
 [⟨⟨.nm,[3,5,8,9,10],[.p (.R 0),.p (.B 1),.p (.l 134),.p (.i .i64),.p (.i .i64)],[.r 134 false,abD,.r 136 true,.r 131 true]⟩,List J.Method,fun d r=>(((),(),d.1.2.2.1,d.1.2.2.2.1,d.1.2.2.2.2.1,()),(d.2.1,(d.2.2.1.1,d.2.2.1.2.1,(),(),()),d.2.2.2.1,r,()))⟩],
 fun k d=>rf k d.2.2.2.2.1 d.1.2.2.2.2.2.2.1 d.1.2.2.2.2.2.2.2.1⟩ (bJ.bW (fun d=>rfl) fun k aA aG q h=>by
 obtain ⟨_,_,(a0:List J.aq),(v1:Int),(v2:Int),_,(bs:Int),(v4:Int),_⟩:=aA
 obtain ⟨(bY:List J.aq),⟨(v6:List UInt8),(cu:List UInt8),_,_,_⟩,(cB:List J.Field),(cG:List J.Method),_⟩:=aG
 conv=>rhs;simp only [rf,a6,Tu,Tv];simp only [bR]
 kernel_rfl)
noncomputable def OC (F:Nat) (k:Nat) (a':List J.aq) (zt:List J.aq) (wu:Int) (ak:Int):=c9 ((a'.length:Int)=ak/\True) (pQ F a' k zt wu)
theorem Sr (F:Nat) (k:Nat) (a':List J.aq) (zt:List J.aq) (wu:Int):pQ F a' k zt wu=OC F k a' zt wu (a'.length:Int):=(dy ⟨rfl,trivial⟩).symm
noncomputable def ai3 (F:Nat):aX aU:=(aiS F).bX 75 0 F ⟨[3,8,9,10],[.p (.R 0),.p (.l 134),.p (.i .i64),.p (.i .i64)],[.r 134 false],
 [⟨⟨.nm,[3],[.p (.R 0)],[.r 134 false]⟩,List J.aq,fun d r=>(((),()),(r,()))⟩],
 fun k d=>OC F k d.1.2.1 d.2.1 d.1.2.2.2.1 d.1.2.2.1⟩ (bJ.bW (fun d=>dx) fun k aA aG q h=>by
 obtain ⟨_,(a0:List J.aq),(v1:Int),(v2:Int),_⟩:=aA
 obtain ⟨(bs:List J.aq),_⟩:=aG
 obtain ⟨ay,_⟩:=dZ h
 dsimp only at ay
 obtain ⟨rfl,_⟩:=ay
 conv=>rhs;change Option.map (α:=List J.aq) _ (OC F (k+ 1) a0 bs v2 (a0.length:Int));rw [<-Sr F (k+ 1) a0 bs v2];simp only [pQ,a6,Sr,Tt,Tw];simp only [bR]
 kernel_rfl)
noncomputable def ajc (F:Nat):aX aU:=(ai3 F).rt 75 ⟨[.p (.l 134)],[],[.p (.l 134)],[],List J.aq,fun d=>Ff F d.1.1,fun d r=>((r,()),())⟩ fun aA aG=>by
 obtain ⟨(a0:List J.aq),_⟩:=aA
 conv=>rhs;simp only [Ff,a6,Sr]
 kernel_rfl
noncomputable def Oq (k:Nat) (aO:J.bn) (ni:List ((List UInt8) × Int)) (pU:Int) (ak:Int) (aT:List J.aq):=c9 ((aO.l.length:Int)=ak/\(aO.l:List J.aq)=aT/\True) (ba (ng aO k ni pU))
theorem Sh (k:Nat) (aO:J.bn) (ni:List ((List UInt8) × Int)) (pU:Int):ba (ng aO k ni pU)=Oq k (⟨aO.l,[],aO.dl⟩:J.bn) ni pU (aO.l.length:Int) aO.l:=(show ba (ng aO k ni pU)=ba (ng (⟨aO.l,[],aO.dl⟩:J.bn) k ni pU) by kernel_rfl).trans (dy ⟨rfl,rfl,trivial⟩).symm
noncomputable def ajn (F:Nat):aX aU:=(ajc F).bX 76 0 F ⟨[0,14,15,16],[.p (.B 0),.p (.l 134),.p (.i .i64),.p (.i .i64)],[jK,.m 9 3,.r 3 true],
 [⟨⟨.nm,[0],[.p (.B 0)],[jK,.m 9 3,.r 3 true]⟩,List ((List UInt8) × Int),fun d r=>(((),()),((d.2.1.1,(),(),()),r,d.2.2.2.1,()))⟩,
  ⟨⟨.rt,[2],[.p (.i .i64)],[jK,.m 9 3,.r 3 true]⟩,Int × J.bn,fun d r=>((r.1,()),((d.2.1.1,(),(),()),r.2.b1,d.2.2.2.1,()))⟩],
 fun k d=>Oq k (⟨d.1.2.1,[],d.2.2.2.1⟩:J.bn) d.2.2.1 d.1.2.2.2.1 d.1.2.2.1 d.2.1.1⟩ (bJ.bW (fun d=>dx) fun k aA aG q h=>by
 obtain ⟨_,(a0:List J.aq),(v1:Int),(v2:Int),_⟩:=aA
 obtain ⟨⟨(bs:List J.aq),_,_,_⟩,(v4:List ((List UInt8) × Int)),(bY:List Int),_⟩:=aG
 obtain ⟨ay,_⟩:=dZ h
 dsimp only at ay
 obtain ⟨rfl,rfl,_⟩:=ay
 conv=>rhs;change Option.map (α:=(List ((List UInt8) × Int)) ⊕ (Int × J.bn)) _ (Oq (k+ 1) (⟨a0,[],bY⟩:J.bn) v4 v2 (a0.length:Int) (a0));rw [<-Sh (k+ 1) (⟨a0,[],bY⟩:J.bn) v4 v2];simp only [ng,a6,Sh];simp only [bR]
 kernel_rfl)
noncomputable def ajy (F:Nat):aX aU:=(ajn F).rt 76 ⟨[.p (.B 0)],[jK,.m 9 3,.r 3 true],[.p (.i .i64)],[jK,.m 9 3,.r 3 true],Int × J.bn,fun d=>BX F (⟨d.2.1.1,d.2.2.1,d.2.2.2.1⟩:J.bn),fun d r=>((r.1,()),((d.2.1.1,(),(),()),r.2.b1,d.2.2.2.1,()))⟩ fun aA aG=>by
 obtain ⟨_,_⟩:=aA
 obtain ⟨⟨(a0:List J.aq),_,_,_⟩,(v1:List ((List UInt8) × Int)),(v2:List Int),_⟩:=aG
 conv=>rhs;simp only [BX,a6,Sh]
 kernel_rfl
noncomputable def Oh (k:Nat) (aO:J.bn) (wv:Int) (ak:Int) (aT:List J.aq):=c9 ((aO.l.length:Int)=ak/\(aO.l:List J.aq)=aT/\True) (ba (tu aO k wv))
theorem R_ (k:Nat) (aO:J.bn) (wv:Int):ba (tu aO k wv)=Oh k aO wv (aO.l.length:Int) aO.l:=(dy ⟨rfl,rfl,trivial⟩).symm
noncomputable def ajJ (F:Nat):aX aU:=(ajy F).bX 77 0 F ⟨[0,14,15,16],[.p (.B 0),.p (.l 134),.p (.i .i64),.p (.i .i64)],[jK,.m 9 3,.r 3 true],
 [⟨⟨.nm,[0],[.p (.B 0)],[jK,.m 9 3,.r 3 true]⟩,Unit,fun d r=>(((),()),((d.2.1.1,(),(),()),d.2.2.1,d.2.2.2.1,()))⟩,
  ⟨⟨.rt,[2],[.p (.i .i64)],[jK,.m 9 3,.r 3 true]⟩,Int × J.bn,fun d r=>((r.1,()),((d.2.1.1,(),(),()),d.2.2.1,r.2.dl,()))⟩],
 fun k d=>Oh k (⟨d.1.2.1,d.2.2.1,d.2.2.2.1⟩:J.bn) d.1.2.2.2.1 d.1.2.2.1 d.2.1.1⟩ (bJ.bW (fun d=>dx) fun k aA aG q h=>by
 obtain ⟨_,(a0:List J.aq),(v1:Int),(v2:Int),_⟩:=aA
 obtain ⟨⟨(bs:List J.aq),_,_,_⟩,(v4:List ((List UInt8) × Int)),(bY:List Int),_⟩:=aG
 obtain ⟨ay,_⟩:=dZ h
 dsimp only at ay
 obtain ⟨rfl,rfl,_⟩:=ay
 conv=>rhs;change Option.map (α:=Unit ⊕ (Int × J.bn)) _ (Oh (k+ 1) (⟨a0,v4,bY⟩:J.bn) v2 (a0.length:Int) (a0));rw [<-R_ (k+ 1) (⟨a0,v4,bY⟩:J.bn) v2];simp only [tu,a6,R_];simp only [bR]
 kernel_rfl)
noncomputable def Oi (k:Nat) (aO:J.bn) (q_:List Int) (rp:Int) (ak:Int) (aT:List J.aq):=c9 ((aO.l.length:Int)=ak/\(aO.l:List J.aq)=aT/\True) (ba (lk aO k q_ rp))
theorem R' (k:Nat) (aO:J.bn) (q_:List Int) (rp:Int):ba (lk aO k q_ rp)=Oi k (⟨aO.l,aO.b1,[]⟩:J.bn) q_ rp (aO.l.length:Int) aO.l:=(show ba (lk aO k q_ rp)=ba (lk (⟨aO.l,aO.b1,[]⟩:J.bn) k q_ rp) by kernel_rfl).trans (dy ⟨rfl,rfl,trivial⟩).symm
noncomputable def ajU (F:Nat):aX aU:=(ajJ F).bX 77 2 F ⟨[0,31,32,33],[.p (.B 0),.p (.l 134),.p (.i .i64),.p (.i .i64)],[jK,.m 9 3,.r 3 false],
 [⟨⟨.nm,[0],[.p (.B 0)],[jK,.m 9 3,.r 3 false]⟩,List Int,fun d r=>(((),()),((d.2.1.1,(),(),()),d.2.2.1,r,()))⟩,
  ⟨⟨.rt,[2],[.p (.i .i64)],[jK,.m 9 3,.r 3 false]⟩,Int × J.bn,fun d r=>((r.1,()),((d.2.1.1,(),(),()),d.2.2.1,r.2.dl,()))⟩],
 fun k d=>Oi k (⟨d.1.2.1,d.2.2.1,[]⟩:J.bn) d.2.2.2.1 d.1.2.2.2.1 d.1.2.2.1 d.2.1.1⟩ (bJ.bW (fun d=>dx) fun k aA aG q h=>by
 obtain ⟨_,(a0:List J.aq),(v1:Int),(v2:Int),_⟩:=aA
 obtain ⟨⟨(bs:List J.aq),_,_,_⟩,(v4:List ((List UInt8) × Int)),(bY:List Int),_⟩:=aG
 obtain ⟨ay,_⟩:=dZ h
 dsimp only at ay
 obtain ⟨rfl,rfl,_⟩:=ay
 conv=>rhs;change Option.map (α:=(List Int) ⊕ (Int × J.bn)) _ (Oi (k+ 1) (⟨a0,v4,[]⟩:J.bn) bY v2 (a0.length:Int) (a0));rw [<-R' (k+ 1) (⟨a0,v4,[]⟩:J.bn) bY v2];simp only [lk,a6,R'];simp only [bR]
 kernel_rfl)
noncomputable def Ok (k:Nat) (aO:J.bn) (gT:List Int) (tE:Int) (tF:Int) (ak:Int) (aT:Int):=c9 ((aO.l.length:Int)=ak/\(aO.l.length:Int)=aT/\True) (rb aO gT k tE tF)
theorem Sb (k:Nat) (aO:J.bn) (gT:List Int) (tE:Int) (tF:Int):rb aO gT k tE tF=Ok k (⟨aO.l,aO.b1,[]⟩:J.bn) gT tE tF (aO.l.length:Int) (aO.l.length:Int):=(show rb aO gT k tE tF=rb (⟨aO.l,aO.b1,[]⟩:J.bn) gT k tE tF by kernel_rfl).trans (dy ⟨rfl,rfl,trivial⟩).symm
noncomputable def aj4 (F:Nat):aX aU:=(ajU F).bX 77 7 F ⟨[0,10,69,70,78,79],[.p (.B 0),.p (.i .i64),.p (.i .i64),.p (.i .i64),.p (.i .i64),.p (.i .i64)],[jK,.m 9 3,.r 3 true],
 [⟨⟨.nm,[0,10,69,70],[.p (.B 0),.p (.i .i64),.p (.i .i64),.p (.i .i64)],[jK,.m 9 3,.r 3 true]⟩,Int,fun d r=>(((),r,d.1.2.2.1,d.1.2.2.2.1,()),((d.2.1.1,(),(),()),d.2.2.1,d.2.2.2.1,()))⟩],
 fun k d=>Ok k (⟨d.2.1.1,d.2.2.1,[]⟩:J.bn) d.2.2.2.1 d.1.2.1 d.1.2.2.2.2.2.1 d.1.2.2.1 d.1.2.2.2.2.1⟩ (bJ.bW (fun d=>dx) fun k aA aG q h=>by
 obtain ⟨_,(a0:Int),(v1:Int),(v2:Int),(bs:Int),(v4:Int),_⟩:=aA
 obtain ⟨⟨(bY:List J.aq),_,_,_⟩,(v6:List ((List UInt8) × Int)),(cu:List Int),_⟩:=aG
 obtain ⟨ay,_⟩:=dZ h
 dsimp only at ay
 obtain ⟨rfl,rfl,_⟩:=ay
 conv=>rhs;change Option.map (α:=Int) _ (Ok (k+ 1) (⟨bY,v6,[]⟩:J.bn) cu a0 v4 (bY.length:Int) (bY.length:Int));rw [<-Sb (k+ 1) (⟨bY,v6,[]⟩:J.bn) cu a0 v4];simp only [rb,a6,Sb];simp only [bR]
 kernel_rfl)
noncomputable def Oj (F:Nat) (k:Nat) (aO:J.bn) (gT:List Int) (rk:Int) (cF:Int):=c9 ((aO.l.length:Int)=cF/\True) (ba (pJ F aO gT k rk))
theorem Sa (F:Nat) (k:Nat) (aO:J.bn) (gT:List Int) (rk:Int):ba (pJ F aO gT k rk)=Oj F k (⟨aO.l,aO.b1,[]⟩:J.bn) gT rk (aO.l.length:Int):=(show ba (pJ F aO gT k rk)=ba (pJ F (⟨aO.l,aO.b1,[]⟩:J.bn) gT k rk) by kernel_rfl).trans (dy ⟨rfl,trivial⟩).symm
noncomputable def akd (F:Nat):aX aU:=(aj4 F).bX 77 5 F ⟨[0,69,70],[.p (.B 0),.p (.i .i64),.p (.i .i64)],[jK,.m 9 3,.r 3 true],
 [⟨⟨.nm,[],[],[jK,.m 9 3,.r 3 true]⟩,Unit,fun d r=>((),((d.2.1.1,(),(),()),d.2.2.1,d.2.2.2.1,()))⟩,
  ⟨⟨.rt,[2],[.p (.i .i64)],[jK,.m 9 3,.r 3 true]⟩,Int × J.bn,fun d r=>((r.1,()),((d.2.1.1,(),(),()),d.2.2.1,r.2.dl,()))⟩],
 fun k d=>Oj F k (⟨d.2.1.1,d.2.2.1,[]⟩:J.bn) d.2.2.2.1 d.1.2.2.1 d.1.2.1⟩ (bJ.bW (fun d=>dx) fun k aA aG q h=>by
 obtain ⟨_,(a0:Int),(v1:Int),_⟩:=aA
 obtain ⟨⟨(v2:List J.aq),_,_,_⟩,(bs:List ((List UInt8) × Int)),(v4:List Int),_⟩:=aG
 obtain ⟨ay,_⟩:=dZ h
 dsimp only at ay
 obtain ⟨rfl,_⟩:=ay
 conv=>rhs;change Option.map (α:=Unit ⊕ (Int × J.bn)) _ (Oj F (k+ 1) (⟨v2,bs,[]⟩:J.bn) v4 v1 (v2.length:Int));rw [<-Sa F (k+ 1) (⟨v2,bs,[]⟩:J.bn) v4 v1];simp only [pJ,a6,Sb,Sa];simp only [bR]
 kernel_rfl)
noncomputable def ake (F:Nat):aX aU:=(akd F).rt 77 ⟨[.p (.B 0)],[jK,.m 9 3,.r 3 false],[.p (.i .i64)],[jK,.m 9 3,.r 3 false],Int × J.bn,fun d=>Jn F (⟨d.2.1.1,d.2.2.1,d.2.2.2.1⟩:J.bn),fun d r=>((r.1,()),((d.2.1.1,(),(),()),d.2.2.1,r.2.dl,()))⟩ fun aA aG=>by
 obtain ⟨_,_⟩:=aA
 obtain ⟨⟨(a0:List J.aq),_,_,_⟩,(v1:List ((List UInt8) × Int)),(v2:List Int),_⟩:=aG
 conv=>rhs;simp only [Jn,a6,R_,R',Sa]
 kernel_rfl
noncomputable def akf (F:Nat):aX aU:=(ake F).rt 78 ⟨[.p (.B 0)],[eu,.m 9 3],[.p (.i .i64)],[eu,.m 9 3],Int,fun d=>Jo F (⟨d.2.1.1,d.2.2.1,d.2.1.2.2.1⟩:J.bn),fun d r=>((r,()),((d.2.1.1,(),d.2.1.2.2.1,()),d.2.2.1,()))⟩ fun aA aG=>by
 conv=>rhs;simp only [Jo,a6]
 kernel_rfl
noncomputable def akg (F:Nat):aX aU:=(akf F).rt 112 ⟨[.a [.i .i64,.s],.p (.B 0)],[.c 120 [.R 1],.r 9 false],[],[.c 120 [.R 1],.r 9 false],List (List UInt8),fun d=>zw (Gq d.1.1) d.2.2.1,fun d r=>((),(((),()),r,()))⟩ fun aA aG=>by
 conv=>rhs;simp only [zw,a6]
 kernel_rfl
noncomputable def Ox (k:Nat) (gn:J.aq) (zr:List (List UInt8)) (wl:Int) (bU:Int) (anf:List J.Field):=c9 ((gn.Fields.length:Int)=bU/\(gn.Fields:List J.Field)=anf/\True) (tx gn k zr wl)
theorem Sm (k:Nat) (gn:J.aq) (zr:List (List UInt8)) (wl:Int):tx gn k zr wl=Ox k gn zr wl (gn.Fields.length:Int) gn.Fields:=(dy ⟨rfl,rfl,trivial⟩).symm
noncomputable def akh (F:Nat):aX aU:=(akg F).bX 79 2 F ⟨[0,3,4,6,23,24,25,30,31,32],[.p (.B 0),.p (.B 2),.f 112 [.B 2],.p (.B 4),.p (.l 134),.p (.i .i64),.p (.i .i64),.p (.l 136),.p (.i .i64),.p (.i .i64)],[eu,.m 9 3,.c 120 [.R 3],.r 9 false,hG],
 [⟨⟨.nm,[0,3,4,6,23,24,25],[.p (.B 0),.p (.B 2),.f 112 [.B 2],.p (.B 4),.p (.l 134),.p (.i .i64),.p (.i .i64)],[eu,.m 9 3,.c 120 [.R 3],.r 9 false,hG]⟩,List (List UInt8),fun d r=>(((),(),((),()),(),d.1.2.2.2.2.1,d.1.2.2.2.2.2.1,d.1.2.2.2.2.2.2.1,()),((d.2.1.1,(),d.2.1.2.2.1,()),d.2.2.1,((),()),r,d.2.2.2.2.2.1,()))⟩],
 fun k d=>Ox k (⟨d.2.2.2.2.2.1.1,d.2.2.2.2.2.1.2.1,d.1.2.2.2.2.2.2.2.1,d.2.2.2.2.2.1.2.2.2.1⟩:J.aq) d.2.2.2.2.1 d.1.2.2.2.2.2.2.2.2.2.1 d.1.2.2.2.2.2.2.2.2.1 d.2.2.2.2.2.1.2.2.1⟩ (bJ.bW (fun d=>dx) fun k aA aG q h=>by
 obtain ⟨_,_,⟨_,_⟩,_,(a0:List J.aq),(v1:Int),(v2:Int),(bs:List J.Field),(v4:Int),(bY:Int),_⟩:=aA
 obtain ⟨⟨(v6:List J.aq),_,(cu:List Int),_⟩,(cB:List ((List UInt8) × Int)),⟨_,_⟩,(cG:List (List UInt8)),⟨(v10:List UInt8),(v11:List UInt8),(df:List J.Field),(dN:List J.Method),_⟩,_⟩:=aG
 obtain ⟨ay,_⟩:=dZ h
 dsimp only at ay
 obtain ⟨rfl,rfl,_⟩:=ay
 conv=>rhs;change Option.map (α:=List (List UInt8)) _ (Ox (k+ 1) (⟨v10,v11,bs,dN⟩:J.aq) cG bY (bs.length:Int) (bs));rw [<-Sm (k+ 1) (⟨v10,v11,bs,dN⟩:J.aq) cG bY];simp only [tx,a6,Sm];simp only [bR]
 kernel_rfl)
noncomputable def Oz (k:Nat) (fT:J.Method) (zs:List (List UInt8)) (wm:Int) (kp:Int) (anr:List J.Kind):=c9 ((fT.cy.length:Int)=kp/\(fT.cy:List J.Kind)=anr/\True) (tz fT k zs wm)
theorem So (k:Nat) (fT:J.Method) (zs:List (List UInt8)) (wm:Int):tz fT k zs wm=Oz k fT zs wm (fT.cy.length:Int) fT.cy:=(dy ⟨rfl,rfl,trivial⟩).symm
noncomputable def aki (F:Nat):aX aU:=(akh F).bX 79 6 F ⟨[0,3,4,10,23,24,25,42,43,44,49,50,51],[.p (.B 0),.p (.B 2),.f 112 [.B 2],.p (.B 4),.p (.l 134),.p (.i .i64),.p (.i .i64),.p (.l 131),.p (.i .i64),.p (.i .i64),.p (.l 128),.p (.i .i64),.p (.i .i64)],[eu,.m 9 3,.c 120 [.R 3],.r 9 false,kG],
 [⟨⟨.nm,[0,3,4,10,23,24,25,42,43,44],[.p (.B 0),.p (.B 2),.f 112 [.B 2],.p (.B 4),.p (.l 134),.p (.i .i64),.p (.i .i64),.p (.l 131),.p (.i .i64),.p (.i .i64)],[eu,.m 9 3,.c 120 [.R 3],.r 9 false,kG]⟩,List (List UInt8),fun d r=>(((),(),((),()),(),d.1.2.2.2.2.1,d.1.2.2.2.2.2.1,d.1.2.2.2.2.2.2.1,d.1.2.2.2.2.2.2.2.1,d.1.2.2.2.2.2.2.2.2.1,d.1.2.2.2.2.2.2.2.2.2.1,()),((d.2.1.1,(),d.2.1.2.2.1,()),d.2.2.1,((),()),r,d.2.2.2.2.2.1,()))⟩],
 fun k d=>Oz k (⟨d.2.2.2.2.2.1.1,d.2.2.2.2.2.1.2.1,d.1.2.2.2.2.2.2.2.2.2.2.1,(Gq d.2.2.2.2.2.1.2.2.2),d.2.2.2.2.2.1.2.2.2.2.2.1,d.2.2.2.2.2.1.2.2.2.2.2.2.1,d.2.2.2.2.2.1.2.2.2.2.2.2.2.1,d.2.2.2.2.2.1.2.2.2.2.2.2.2.2.1⟩:J.Method) d.2.2.2.2.1 d.1.2.2.2.2.2.2.2.2.2.2.2.2.1 d.1.2.2.2.2.2.2.2.2.2.2.2.1 d.2.2.2.2.2.1.2.2.1⟩ (bJ.bW (fun d=>dx) fun k aA aG q h=>by
 obtain ⟨_,_,⟨_,_⟩,_,(a0:List J.aq),(v1:Int),(v2:Int),(bs:List J.Method),(v4:Int),(bY:Int),(v6:List J.Kind),(cu:Int),(cB:Int),_⟩:=aA
 obtain ⟨⟨(cG:List J.aq),_,(v10:List Int),_⟩,(v11:List ((List UInt8) × Int)),⟨_,_⟩,(df:List (List UInt8)),⟨(dN:List UInt8),(eh:Bool),(fr:List J.Kind),(fS:Int),(g0:List UInt8),(lz:Int),(CM:Int),(v20:List UInt8),(Gs:List J.Handler),_⟩,_⟩:=aG
 obtain ⟨ay,_⟩:=dZ h
 dsimp only at ay
 obtain ⟨rfl,rfl,_⟩:=ay
 conv=>rhs;change Option.map (α:=List (List UInt8)) _ (Oz (k+ 1) (⟨dN,eh,v6,(⟨fS,g0⟩:J.Kind),lz,CM,v20,Gs⟩:J.Method) df cB (v6.length:Int) (v6));rw [<-So (k+ 1) (⟨dN,eh,v6,(⟨fS,g0⟩:J.Kind),lz,CM,v20,Gs⟩:J.Method) df cB];simp only [tz,a6,So];simp only [bR]
 kernel_rfl)
noncomputable def OA (k:Nat) (fT:J.Method) (tj:List (List UInt8)) (ry:Int) (kp:Int):=c9 ((fT.cC.length:Int)=kp/\True) (pP fT k tj ry)
theorem Sp (k:Nat) (fT:J.Method) (tj:List (List UInt8)) (ry:Int):pP fT k tj ry=OA k (⟨[],false,[],(⟨0,[]⟩:J.Kind),0,0,[],fT.cC⟩:J.Method) tj ry (fT.cC.length:Int):=(show pP fT k tj ry=pP (⟨[],false,[],(⟨0,[]⟩:J.Kind),0,0,[],fT.cC⟩:J.Method) k tj ry by kernel_rfl).trans (dy ⟨rfl,trivial⟩).symm
noncomputable def akj (F:Nat):aX aU:=(aki F).bX 79 8 F ⟨[0,3,4,23,24,25,42,43,44,64,65,66],[.p (.B 0),.p (.B 2),.f 112 [.B 2],.p (.l 134),.p (.i .i64),.p (.i .i64),.p (.l 131),.p (.i .i64),.p (.i .i64),.p (.l 157),.p (.i .i64),.p (.i .i64)],[eu,.m 9 3,.c 120 [.R 3],.r 9 false],
 [⟨⟨.nm,[0,3,4,23,24,25,42,43,44],[.p (.B 0),.p (.B 2),.f 112 [.B 2],.p (.l 134),.p (.i .i64),.p (.i .i64),.p (.l 131),.p (.i .i64),.p (.i .i64)],[eu,.m 9 3,.c 120 [.R 3],.r 9 false]⟩,List (List UInt8),fun d r=>(((),(),((),()),d.1.2.2.2.1,d.1.2.2.2.2.1,d.1.2.2.2.2.2.1,d.1.2.2.2.2.2.2.1,d.1.2.2.2.2.2.2.2.1,d.1.2.2.2.2.2.2.2.2.1,()),((d.2.1.1,(),d.2.1.2.2.1,()),d.2.2.1,((),()),r,()))⟩],
 fun k d=>OA k (⟨[],false,[],(⟨0,[]⟩:J.Kind),0,0,[],d.1.2.2.2.2.2.2.2.2.2.1⟩:J.Method) d.2.2.2.2.1 d.1.2.2.2.2.2.2.2.2.2.2.2.1 d.1.2.2.2.2.2.2.2.2.2.2.1⟩ (bJ.bW (fun d=>dx) fun k aA aG q h=>by
 obtain ⟨_,_,⟨_,_⟩,(a0:List J.aq),(v1:Int),(v2:Int),(bs:List J.Method),(v4:Int),(bY:Int),(v6:List J.Handler),(cu:Int),(cB:Int),_⟩:=aA
 obtain ⟨⟨(cG:List J.aq),_,(v10:List Int),_⟩,(v11:List ((List UInt8) × Int)),⟨_,_⟩,(df:List (List UInt8)),_⟩:=aG
 obtain ⟨ay,_⟩:=dZ h
 dsimp only at ay
 obtain ⟨rfl,_⟩:=ay
 conv=>rhs;change Option.map (α:=List (List UInt8)) _ (OA (k+ 1) (⟨[],false,[],(⟨0,[]⟩:J.Kind),0,0,[],v6⟩:J.Method) df cB (v6.length:Int));rw [<-Sp (k+ 1) (⟨[],false,[],(⟨0,[]⟩:J.Kind),0,0,[],v6⟩:J.Method) df cB];simp only [pP,a6,Sp];simp only [bR]
 kernel_rfl)
noncomputable def Oy (F:Nat) (k:Nat) (gn:J.aq) (ti:List (List UInt8)) (ru:Int) (bU:Int):=c9 ((gn.bd.length:Int)=bU/\True) (pO F gn k ti ru)
theorem Sn (F:Nat) (k:Nat) (gn:J.aq) (ti:List (List UInt8)) (ru:Int):pO F gn k ti ru=Oy F k (⟨[],[],[],gn.bd⟩:J.aq) ti ru (gn.bd.length:Int):=(show pO F gn k ti ru=pO F (⟨[],[],[],gn.bd⟩:J.aq) k ti ru by kernel_rfl).trans (dy ⟨rfl,trivial⟩).symm
noncomputable def akk (F:Nat):aX aU:=(akj F).bX 79 4 F ⟨[0,3,4,23,24,25,42,43,44],[.p (.B 0),.p (.B 2),.f 112 [.B 2],.p (.l 134),.p (.i .i64),.p (.i .i64),.p (.l 131),.p (.i .i64),.p (.i .i64)],[eu,.m 9 3,.c 120 [.R 3],.r 9 false],
 [⟨⟨.nm,[0,3,4,23,24,25],[.p (.B 0),.p (.B 2),.f 112 [.B 2],.p (.l 134),.p (.i .i64),.p (.i .i64)],[eu,.m 9 3,.c 120 [.R 3],.r 9 false]⟩,List (List UInt8),fun d r=>(((),(),((),()),d.1.2.2.2.1,d.1.2.2.2.2.1,d.1.2.2.2.2.2.1,()),((d.2.1.1,(),d.2.1.2.2.1,()),d.2.2.1,((),()),r,()))⟩],
 fun k d=>Oy F k (⟨[],[],[],d.1.2.2.2.2.2.2.1⟩:J.aq) d.2.2.2.2.1 d.1.2.2.2.2.2.2.2.2.1 d.1.2.2.2.2.2.2.2.1⟩ (bJ.bW (fun d=>dx) fun k aA aG q h=>by
 obtain ⟨_,_,⟨_,_⟩,(a0:List J.aq),(v1:Int),(v2:Int),(bs:List J.Method),(v4:Int),(bY:Int),_⟩:=aA
 obtain ⟨⟨(v6:List J.aq),_,(cu:List Int),_⟩,(cB:List ((List UInt8) × Int)),⟨_,_⟩,(cG:List (List UInt8)),_⟩:=aG
 obtain ⟨ay,_⟩:=dZ h
 dsimp only at ay
 obtain ⟨rfl,_⟩:=ay
 conv=>rhs;change Option.map (α:=List (List UInt8)) _ (Oy F (k+ 1) (⟨[],[],[],bs⟩:J.aq) cG bY (bs.length:Int));rw [<-Sn F (k+ 1) (⟨[],[],[],bs⟩:J.aq) cG bY];simp only [pO,a6,So,Sp,Sn];simp only [bR]
 kernel_rfl)
noncomputable def Ow (F:Nat) (k:Nat) (aO:J.bn) (zq:List (List UInt8)) (wj:Int) (ak:Int) (aT:List J.aq):=c9 ((aO.l.length:Int)=ak/\(aO.l:List J.aq)=aT/\True) (tw F aO k zq wj)
theorem Sl (F:Nat) (k:Nat) (aO:J.bn) (zq:List (List UInt8)) (wj:Int):tw F aO k zq wj=Ow F k aO zq wj (aO.l.length:Int) aO.l:=(dy ⟨rfl,rfl,trivial⟩).symm
noncomputable def akm (F:Nat):aX aU:=(akk F).bX 79 0 F ⟨[0,3,4,23,24,25],[.p (.B 0),.p (.B 2),.f 112 [.B 2],.p (.l 134),.p (.i .i64),.p (.i .i64)],[eu,.m 9 3,.c 120 [.R 3],.r 9 false],
 [⟨⟨.nm,[0,3],[.p (.B 0),.p (.B 2)],[eu,.m 9 3,.c 120 [.R 3],.r 9 false]⟩,List (List UInt8),fun d r=>(((),(),()),((d.2.1.1,(),d.2.1.2.2.1,()),d.2.2.1,((),()),r,()))⟩],
 fun k d=>Ow F k (⟨d.1.2.2.2.1,d.2.2.1,d.2.1.2.2.1⟩:J.bn) d.2.2.2.2.1 d.1.2.2.2.2.2.1 d.1.2.2.2.2.1 d.2.1.1⟩ (bJ.bW (fun d=>dx) fun k aA aG q h=>by
 obtain ⟨_,_,⟨_,_⟩,(a0:List J.aq),(v1:Int),(v2:Int),_⟩:=aA
 obtain ⟨⟨(bs:List J.aq),_,(v4:List Int),_⟩,(bY:List ((List UInt8) × Int)),⟨_,_⟩,(v6:List (List UInt8)),_⟩:=aG
 obtain ⟨ay,_⟩:=dZ h
 dsimp only at ay
 obtain ⟨rfl,rfl,_⟩:=ay
 conv=>rhs;change Option.map (α:=List (List UInt8)) _ (Ow F (k+ 1) (⟨a0,bY,v4⟩:J.bn) v6 v2 (a0.length:Int) (a0));rw [<-Sl F (k+ 1) (⟨a0,bY,v4⟩:J.bn) v6 v2];simp only [tw,a6,Sm,Sn,Sl];simp only [bR]
 kernel_rfl)
noncomputable def OB (k:Nat) (aO:J.bn) (oq:List (List UInt8)) (wo:Int) (cF:Int):=c9 ((oq.length:Int)=cF/\True) (ba (v5 aO oq k wo))
theorem Sq (k:Nat) (aO:J.bn) (oq:List (List UInt8)) (wo:Int):ba (v5 aO oq k wo)=OB k aO oq wo (oq.length:Int):=(dy ⟨rfl,trivial⟩).symm
noncomputable def akn (F:Nat):aX aU:=(akm F).bX 79 10 F ⟨[0,78,79,80],[.p (.B 0),.p (.R 2),.p (.i .i64),.p (.i .i64)],[eu,.m 9 3,.r 9 true],
 [⟨⟨.nm,[],[],[eu,.m 9 3,.d]⟩,Unit,fun d r=>((),((d.2.1.1,(),d.2.1.2.2.1,()),d.2.2.1,(),()))⟩,
  ⟨⟨.rt,[2],[.p (.i .i64)],[eu,.m 9 3,.d]⟩,Int,fun d r=>((r,()),((d.2.1.1,(),d.2.1.2.2.1,()),d.2.2.1,(),()))⟩],
 fun k d=>OB k (⟨d.2.1.1,d.2.2.1,d.2.1.2.2.1⟩:J.bn) d.2.2.2.1 d.1.2.2.2.1 d.1.2.2.1⟩ (bJ.bW (fun d=>dx) fun k aA aG q h=>by
 obtain ⟨_,_,(a0:Int),(v1:Int),_⟩:=aA
 obtain ⟨⟨(v2:List J.aq),_,(bs:List Int),_⟩,(v4:List ((List UInt8) × Int)),(bY:List (List UInt8)),_⟩:=aG
 obtain ⟨ay,_⟩:=dZ h
 dsimp only at ay
 obtain ⟨rfl,_⟩:=ay
 conv=>rhs;change Option.map (α:=Unit ⊕ Int) _ (OB (k+ 1) (⟨v2,v4,bs⟩:J.bn) bY v1 (bY.length:Int));rw [<-Sq (k+ 1) (⟨v2,v4,bs⟩:J.bn) bY v1];simp only [v5,a6,Sq];simp only [bR]
 kernel_rfl)
noncomputable def ako (F:Nat):aX aU:=(akn F).rt 79 ⟨[.p (.B 0)],[eu,.m 9 3],[.p (.i .i64)],[eu,.m 9 3],Int,fun d=>Fc F (⟨d.2.1.1,d.2.2.1,d.2.1.2.2.1⟩:J.bn),fun d r=>((r,()),((d.2.1.1,(),d.2.1.2.2.1,()),d.2.2.1,()))⟩ fun aA aG=>by
 obtain ⟨_,_⟩:=aA
 obtain ⟨⟨(a0:List J.aq),_,(v1:List Int),_⟩,(v2:List ((List UInt8) × Int)),_⟩:=aG
 conv=>rhs;simp only [Fc,a6,Sl,Sq]
 kernel_rfl
noncomputable def OD (k:Nat) (a':List (List UInt8)) (zx:List ((List UInt8) × Bool)) (wg:Int) (ak:List (List UInt8)) (al:Int):=c9 ((a':List (List UInt8))=ak/\(a'.length:Int)=al/\True) (v7 a' k zx wg)
theorem Ss (k:Nat) (a':List (List UInt8)) (zx:List ((List UInt8) × Bool)) (wg:Int):v7 a' k zx wg=OD k a' zx wg a' (a'.length:Int):=(dy ⟨rfl,rfl,trivial⟩).symm
noncomputable def akp (F:Nat):aX aU:=(ako F).bX 113 0 F ⟨[0,3,7,8,9],[.p (.l 9),.p (.M 0),.p (.l 9),.p (.i .i64),.p (.i .i64)],[.m 9 4],
 [⟨⟨.nm,[0,3],[.p (.l 9),.p (.M 0)],[.m 9 4]⟩,List ((List UInt8) × Bool),fun d r=>((d.1.1,(),()),(r,()))⟩],
 fun k d=>OD k d.1.1 d.2.1 d.1.2.2.2.2.1 d.1.2.2.1 d.1.2.2.2.1⟩ (bJ.bW (fun d=>dx) fun k aA aG q h=>by
 obtain ⟨(a0:List (List UInt8)),_,(v1:List (List UInt8)),(v2:Int),(bs:Int),_⟩:=aA
 obtain ⟨(v4:List ((List UInt8) × Bool)),_⟩:=aG
 obtain ⟨ay,_⟩:=dZ h
 dsimp only at ay
 obtain ⟨rfl,rfl,_⟩:=ay
 conv=>rhs;change Option.map (α:=List ((List UInt8) × Bool)) _ (OD (k+ 1) a0 v4 bs (a0) (a0.length:Int));rw [<-Ss (k+ 1) a0 v4 bs];simp only [v7,a6,Ss];simp only [bR]
 kernel_rfl)
noncomputable def akq (F:Nat):aX aU:=(akp F).rt 113 ⟨[.p (.l 9)],[],[.p (.b)],[],Bool,fun d=>B0 F d.1.1,fun d r=>((r,()),())⟩ fun aA aG=>by
 obtain ⟨(a0:List (List UInt8)),_⟩:=aA
 conv=>rhs;simp only [B0,a6,Ss]
 kernel_rfl
noncomputable def Ou (k:Nat) (nq:List J.Field) (zp:List (List UInt8)) (wi:Int) (aT:Int) (anm:List (List UInt8)):=c9 ((nq.length:Int)=aT/\([]:List (List UInt8))=anm/\True) (tv nq k zp wi)
theorem Sj (k:Nat) (nq:List J.Field) (zp:List (List UInt8)) (wi:Int):tv nq k zp wi=Ou k nq zp wi (nq.length:Int) []:=(dy ⟨rfl,rfl,trivial⟩).symm
noncomputable def akr (F:Nat):aX aU:=(akq F).bX 80 2 F ⟨[0,4,5,6,14,15,16,23,24,25],[.p (.B 0),.p (.B 2),.p (.R 3),.p (.R 4),.p (.l 134),.p (.i .i64),.p (.i .i64),.p (.R 5),.p (.i .i64),.p (.i .i64)],[eu,.m 9 3,hG,.r 9 false,.r 9 false,.r 136 true],
 [⟨⟨.nm,[0,4,5,6,14,15,16],[.p (.B 0),.p (.B 2),.p (.R 3),.p (.R 4),.p (.l 134),.p (.i .i64),.p (.i .i64)],[eu,.m 9 3,hG,.r 9 false,.r 9 false,.d]⟩,List (List UInt8),fun d r=>(((),(),(),(),d.1.2.2.2.2.1,d.1.2.2.2.2.2.1,d.1.2.2.2.2.2.2.1,()),((d.2.1.1,(),d.2.1.2.2.1,()),d.2.2.1,d.2.2.2.1,r,d.2.2.2.2.2.1,(),()))⟩],
 fun k d=>Ou k d.2.2.2.2.2.2.1 d.2.2.2.2.1 d.1.2.2.2.2.2.2.2.2.2.1 d.1.2.2.2.2.2.2.2.2.1 d.2.2.2.2.2.1⟩ (bJ.bW (fun d=>dx) fun k aA aG q h=>by
 obtain ⟨_,_,_,_,(a0:List J.aq),(v1:Int),(v2:Int),_,(bs:Int),(v4:Int),_⟩:=aA
 obtain ⟨⟨(bY:List J.aq),_,(v6:List Int),_⟩,(cu:List ((List UInt8) × Int)),⟨(cB:List UInt8),(cG:List UInt8),(v10:List J.Field),(v11:List J.Method),_⟩,(df:List (List UInt8)),(dN:List (List UInt8)),(eh:List J.Field),_⟩:=aG
 obtain ⟨ay,_⟩:=dZ h
 dsimp only at ay
 obtain ⟨rfl,rfl,_⟩:=ay
 conv=>rhs;change Option.map (α:=List (List UInt8)) _ (Ou (k+ 1) eh df v4 (eh.length:Int) ([]));rw [<-Sj (k+ 1) eh df v4];simp only [tv,a6,Sj];simp only [bR]
 kernel_rfl)
noncomputable def Ov (k:Nat) (lF:J.aq) (th:List (List UInt8)) (rr:Int) (bU:Int):=c9 ((lF.bd.length:Int)=bU/\True) (pN lF k th rr)
theorem Sk (k:Nat) (lF:J.aq) (th:List (List UInt8)) (rr:Int):pN lF k th rr=Ov k (⟨[],[],[],lF.bd⟩:J.aq) th rr (lF.bd.length:Int):=(show pN lF k th rr=pN (⟨[],[],[],lF.bd⟩:J.aq) k th rr by kernel_rfl).trans (dy ⟨rfl,trivial⟩).symm
noncomputable def aks (F:Nat):aX aU:=(akr F).bX 80 4 F ⟨[0,5,6,14,15,16,36,37,38],[.p (.B 0),.p (.R 2),.p (.R 3),.p (.l 134),.p (.i .i64),.p (.i .i64),.p (.l 131),.p (.i .i64),.p (.i .i64)],[eu,.m 9 3,.r 9 false,.r 9 false],
 [⟨⟨.nm,[0,5,6,14,15,16],[.p (.B 0),.p (.R 2),.p (.R 3),.p (.l 134),.p (.i .i64),.p (.i .i64)],[eu,.m 9 3,.r 9 false,.r 9 false]⟩,List (List UInt8),fun d r=>(((),(),(),d.1.2.2.2.1,d.1.2.2.2.2.1,d.1.2.2.2.2.2.1,()),((d.2.1.1,(),d.2.1.2.2.1,()),d.2.2.1,d.2.2.2.1,r,()))⟩],
 fun k d=>Ov k (⟨[],[],[],d.1.2.2.2.2.2.2.1⟩:J.aq) d.2.2.2.2.1 d.1.2.2.2.2.2.2.2.2.1 d.1.2.2.2.2.2.2.2.1⟩ (bJ.bW (fun d=>dx) fun k aA aG q h=>by
 obtain ⟨_,_,_,(a0:List J.aq),(v1:Int),(v2:Int),(bs:List J.Method),(v4:Int),(bY:Int),_⟩:=aA
 obtain ⟨⟨(v6:List J.aq),_,(cu:List Int),_⟩,(cB:List ((List UInt8) × Int)),(cG:List (List UInt8)),(v10:List (List UInt8)),_⟩:=aG
 obtain ⟨ay,_⟩:=dZ h
 dsimp only at ay
 obtain ⟨rfl,_⟩:=ay
 conv=>rhs;change Option.map (α:=List (List UInt8)) _ (Ov (k+ 1) (⟨[],[],[],bs⟩:J.aq) v10 bY (bs.length:Int));rw [<-Sk (k+ 1) (⟨[],[],[],bs⟩:J.aq) v10 bY];simp only [pN,a6,Sk];simp only [bR]
 kernel_rfl)
noncomputable def Ot (F:Nat) (k:Nat) (aO:J.bn) (tH:Int) (ak:Int) (aT:List J.aq):=c9 ((aO.l.length:Int)=ak/\(aO.l:List J.aq)=aT/\True) (ba (vZ F aO k tH))
theorem Si (F:Nat) (k:Nat) (aO:J.bn) (tH:Int):ba (vZ F aO k tH)=Ot F k aO tH (aO.l.length:Int) aO.l:=(dy ⟨rfl,rfl,trivial⟩).symm
noncomputable def akt (F:Nat):aX aU:=(aks F).bX 80 0 F ⟨[0,14,15,16],[.p (.B 0),.p (.l 134),.p (.i .i64),.p (.i .i64)],[eu,.m 9 3],
 [⟨⟨.nm,[],[],[eu,.m 9 3]⟩,Unit,fun d r=>((),((d.2.1.1,(),d.2.1.2.2.1,()),d.2.2.1,()))⟩,
  ⟨⟨.rt,[2],[.p (.i .i64)],[eu,.m 9 3]⟩,Int,fun d r=>((r,()),((d.2.1.1,(),d.2.1.2.2.1,()),d.2.2.1,()))⟩],
 fun k d=>Ot F k (⟨d.1.2.1,d.2.2.1,d.2.1.2.2.1⟩:J.bn) d.1.2.2.2.1 d.1.2.2.1 d.2.1.1⟩ (bJ.bW (fun d=>dx) fun k aA aG q h=>by
 obtain ⟨_,(a0:List J.aq),(v1:Int),(v2:Int),_⟩:=aA
 obtain ⟨⟨(bs:List J.aq),_,(v4:List Int),_⟩,(bY:List ((List UInt8) × Int)),_⟩:=aG
 obtain ⟨ay,_⟩:=dZ h
 dsimp only at ay
 obtain ⟨rfl,rfl,_⟩:=ay
 conv=>rhs;change Option.map (α:=Unit ⊕ Int) _ (Ot F (k+ 1) (⟨a0,bY,v4⟩:J.bn) v2 (a0.length:Int) (a0));rw [<-Si F (k+ 1) (⟨a0,bY,v4⟩:J.bn) v2];simp only [vZ,a6,Sj,Sk,Si];simp only [bR]
 kernel_rfl)
noncomputable def aku (F:Nat):aX aU:=(akt F).rt 80 ⟨[.p (.B 0)],[eu,.m 9 3],[.p (.i .i64)],[eu,.m 9 3],Int,fun d=>Fb F (⟨d.2.1.1,d.2.2.1,d.2.1.2.2.1⟩:J.bn),fun d r=>((r,()),((d.2.1.1,(),d.2.1.2.2.1,()),d.2.2.1,()))⟩ fun aA aG=>by
 obtain ⟨_,_⟩:=aA
 obtain ⟨⟨(a0:List J.aq),_,(v1:List Int),_⟩,(v2:List ((List UInt8) × Int)),_⟩:=aG
 conv=>rhs;simp only [Fb,a6,Si]
 kernel_rfl
noncomputable def akv (F:Nat):aX aU:=(aku F).bX 114 0 F ⟨[0,1,5],[.p (.B 0),.p (.i .i64),.p (.R 2)],[eu,.m 9 3,.r 3 false],
 [⟨⟨.nm,[5],[.p (.R 2)],[eu,.m 9 3,.r 3 false]⟩,List Int,fun d r=>(((),()),((d.2.1.1,(),d.2.1.2.2.1,()),d.2.2.1,r,()))⟩],
 fun k d=>pL (⟨d.2.1.1,d.2.2.1,d.2.1.2.2.1⟩:J.bn) k d.2.2.2.1 d.1.2.1⟩ (bJ.bW (fun d=>rfl) fun k aA aG q h=>by
 conv=>rhs;simp only [pL,a6];simp only [bR]
 kernel_rfl)
noncomputable def akx (F:Nat):aX aU:=(akv F).rt 114 ⟨[.p (.B 0),.p (.i .i64)],[eu,.m 9 3],[.p (.l 3)],[eu,.m 9 3],List Int,fun d=>pK F (⟨d.2.1.1,d.2.2.1,d.2.1.2.2.1⟩:J.bn) d.1.2.1,fun d r=>((r,()),((d.2.1.1,(),d.2.1.2.2.1,()),d.2.2.1,()))⟩ fun aA aG=>by
 conv=>rhs;simp only [pK,a6]
 kernel_rfl
noncomputable def OO (k:Nat) (bP:List J.Kind) (cc:List J.Kind) (cX:Int) (al:Int):=c9 ((bP.length:Int)=al/\True) (ba (zT bP cc k cX))
theorem SA (k:Nat) (bP:List J.Kind) (cc:List J.Kind) (cX:Int):ba (zT bP cc k cX)=OO k bP cc cX (bP.length:Int):=(dy ⟨rfl,trivial⟩).symm
noncomputable def aky (F:Nat):aX aU:=(akx F).bX 143 0 F ⟨[0,1,12,13],[.p (.l 128),.p (.l 128),.p (.i .i64),.p (.i .i64)],[],
 [⟨⟨.nm,[],[],[]⟩,Unit,fun d r=>((),())⟩,
  ⟨⟨.rt,[4],[.p (.b)],[]⟩,Bool,fun d r=>((r,()),())⟩],
 fun k d=>OO k d.1.1 d.1.2.1 d.1.2.2.2.1 d.1.2.2.1⟩ (bJ.bW (fun d=>dx) fun k aA aG q h=>by
 obtain ⟨(a0:List J.Kind),(v1:List J.Kind),(v2:Int),(bs:Int),_⟩:=aA
 obtain ⟨ay,_⟩:=dZ h
 dsimp only at ay
 obtain ⟨rfl,_⟩:=ay
 conv=>rhs;change Option.map (α:=Unit ⊕ Bool) _ (OO (k+ 1) a0 v1 bs (a0.length:Int));rw [<-SA (k+ 1) a0 v1 bs];simp only [zT,a6,SA];simp only [bR]
 kernel_rfl)
noncomputable def akz (F:Nat):aX aU:=(aky F).rt 143 ⟨[.p (.l 128),.p (.l 128)],[],[.p (.b)],[],Bool,fun d=>Gg F d.1.1 d.1.2.1,fun d r=>((r,()),())⟩ fun aA aG=>by
 obtain ⟨(a0:List J.Kind),(v1:List J.Kind),_⟩:=aA
 conv=>rhs;simp only [Gg,a6,SA]
 kernel_rfl
noncomputable def akA (F:Nat):aX aU:=(akz F).rt 115 ⟨[J3,J3],[],[.p (.b)],[],Bool,fun d=>Jm F (rN d.1.1) (rN d.1.2.1),fun d r=>((r,()),())⟩ fun aA aG=>by
 obtain ⟨⟨(a0:List UInt8),(v1:Bool),(v2:List J.Kind),(bs:Int),(v4:List UInt8),(bY:Int),(v6:Int),(cu:List UInt8),(cB:List J.Handler),_⟩,⟨(cG:List UInt8),(v10:Bool),(v11:List J.Kind),(df:Int),(dN:List UInt8),(eh:Int),(fr:Int),(fS:List UInt8),(g0:List J.Handler),_⟩,_⟩:=aA
 conv=>rhs;simp only [Jm,a6,auD]
 kernel_rfl
noncomputable def Oo (F:Nat) (k:Nat) (iH:J.Method) (kP:J.aq) (pS:Int) (Bi:Int):=c9 ((kP.bd.length:Int)=Bi/\True) (ba (pM F iH kP k pS))
theorem Sg (F:Nat) (k:Nat) (iH:J.Method) (kP:J.aq) (pS:Int):ba (pM F iH kP k pS)=Oo F k iH (⟨[],[],[],kP.bd⟩:J.aq) pS (kP.bd.length:Int):=(show ba (pM F iH kP k pS)=ba (pM F iH (⟨[],[],[],kP.bd⟩:J.aq) k pS) by kernel_rfl).trans (dy ⟨rfl,trivial⟩).symm
noncomputable def akB (F:Nat):aX aU:=(akA F).bX 81 6 F ⟨[0,4,6,8,14,15,16,24,25,26,31,32,33,44,45,46],[.p (.B 0),.p (.B 2),.p (.i .i64),.p (.B 3),.p (.l 134),.p (.i .i64),.p (.i .i64),.p (.l 3),.p (.i .i64),.p (.i .i64),.p (.l 131),.p (.i .i64),.p (.i .i64),.p (.l 131),.p (.i .i64),.p (.i .i64)],[eu,.m 9 3,hG,kG],
 [⟨⟨.nm,[0,4,6,14,15,16,24,25,26,31,32,33],[.p (.B 0),.p (.B 2),.p (.i .i64),.p (.l 134),.p (.i .i64),.p (.i .i64),.p (.l 3),.p (.i .i64),.p (.i .i64),.p (.l 131),.p (.i .i64),.p (.i .i64)],[eu,.m 9 3,hG,kG]⟩,Unit,fun d r=>(((),(),d.1.2.2.1,d.1.2.2.2.2.1,d.1.2.2.2.2.2.1,d.1.2.2.2.2.2.2.1,d.1.2.2.2.2.2.2.2.1,d.1.2.2.2.2.2.2.2.2.1,d.1.2.2.2.2.2.2.2.2.2.1,d.1.2.2.2.2.2.2.2.2.2.2.1,d.1.2.2.2.2.2.2.2.2.2.2.2.1,d.1.2.2.2.2.2.2.2.2.2.2.2.2.1,()),((d.2.1.1,(),d.2.1.2.2.1,()),d.2.2.1,d.2.2.2.1,d.2.2.2.2.1,()))⟩,
  ⟨⟨.rt,[2],[.p (.i .i64)],[eu,.m 9 3,.d,.d]⟩,Int,fun d r=>((r,()),((d.2.1.1,(),d.2.1.2.2.1,()),d.2.2.1,(),(),()))⟩],
 fun k d=>Oo F k (rN d.2.2.2.2.1) (⟨[],[],[],d.1.2.2.2.2.2.2.2.2.2.2.2.2.2.1⟩:J.aq) d.1.2.2.2.2.2.2.2.2.2.2.2.2.2.2.2.1 d.1.2.2.2.2.2.2.2.2.2.2.2.2.2.2.1⟩ (bJ.bW (fun d=>dx) fun k aA aG q h=>by
 obtain ⟨_,_,(a0:Int),_,(v1:List J.aq),(v2:Int),(bs:Int),(v4:List Int),(bY:Int),(v6:Int),(cu:List J.Method),(cB:Int),(cG:Int),(v10:List J.Method),(v11:Int),(df:Int),_⟩:=aA
 obtain ⟨⟨(dN:List J.aq),_,(eh:List Int),_⟩,(fr:List ((List UInt8) × Int)),⟨(fS:List UInt8),(g0:List UInt8),(lz:List J.Field),(CM:List J.Method),_⟩,⟨(v20:List UInt8),(Gs:Bool),(adT:List J.Kind),(adU:Int),(adV:List UInt8),(adW:Int),(adX:Int),(adY:List UInt8),(adZ:List J.Handler),_⟩,_⟩:=aG
 obtain ⟨ay,_⟩:=dZ h
 dsimp only at ay
 obtain ⟨rfl,_⟩:=ay
 conv=>rhs;change Option.map (α:=Unit ⊕ Int) _ (Oo F (k+ 1) (⟨v20,Gs,adT,(⟨adU,adV⟩:J.Kind),adW,adX,adY,adZ⟩:J.Method) (⟨[],[],[],v10⟩:J.aq) df (v10.length:Int));rw [<-Sg F (k+ 1) (⟨v20,Gs,adT,(⟨adU,adV⟩:J.Kind),adW,adX,adY,adZ⟩:J.Method) (⟨[],[],[],v10⟩:J.aq) df];simp only [pM,a6,Sg];simp only [bR]
 kernel_rfl)
noncomputable def On (F:Nat) (k:Nat) (aO:J.bn) (hQ:J.aq) (uj:Int) (wb:Int) (al:Int) (anV:Int) (Bh:List J.aq) (ant:List J.Method):=c9 ((aO.l.length:Int)=al/\(hQ.bd.length:Int)=anV/\(aO.l:List J.aq)=Bh/\(hQ.bd:List J.Method)=ant/\True) (ba (vY F aO hQ uj k wb))
theorem Sf (F:Nat) (k:Nat) (aO:J.bn) (hQ:J.aq) (uj:Int) (wb:Int):ba (vY F aO hQ uj k wb)=On F k aO hQ uj wb (aO.l.length:Int) (hQ.bd.length:Int) aO.l hQ.bd:=(dy ⟨rfl,rfl,rfl,rfl,trivial⟩).symm
noncomputable def akC (F:Nat):aX aU:=(akB F).bX 81 4 F ⟨[0,4,6,14,15,16,24,25,26,31,32,33],[.p (.B 0),.p (.B 2),.p (.i .i64),.p (.l 134),.p (.i .i64),.p (.i .i64),.p (.l 3),.p (.i .i64),.p (.i .i64),.p (.l 131),.p (.i .i64),.p (.i .i64)],[eu,.m 9 3,hG],
 [⟨⟨.nm,[0,4,14,15,16,24,25,26],[.p (.B 0),.p (.B 2),.p (.l 134),.p (.i .i64),.p (.i .i64),.p (.l 3),.p (.i .i64),.p (.i .i64)],[eu,.m 9 3,hG]⟩,Unit,fun d r=>(((),(),d.1.2.2.2.1,d.1.2.2.2.2.1,d.1.2.2.2.2.2.1,d.1.2.2.2.2.2.2.1,d.1.2.2.2.2.2.2.2.1,d.1.2.2.2.2.2.2.2.2.1,()),((d.2.1.1,(),d.2.1.2.2.1,()),d.2.2.1,d.2.2.2.1,()))⟩,
  ⟨⟨.rt,[2],[.p (.i .i64)],[eu,.m 9 3,.d]⟩,Int,fun d r=>((r,()),((d.2.1.1,(),d.2.1.2.2.1,()),d.2.2.1,(),()))⟩],
 fun k d=>On F k (⟨d.1.2.2.2.1,d.2.2.1,d.2.1.2.2.1⟩:J.bn) (⟨d.2.2.2.1.1,d.2.2.2.1.2.1,d.2.2.2.1.2.2.1,d.1.2.2.2.2.2.2.2.2.2.1⟩:J.aq) d.1.2.2.1 d.1.2.2.2.2.2.2.2.2.2.2.2.1 d.1.2.2.2.2.1 d.1.2.2.2.2.2.2.2.2.2.2.1 d.2.1.1 d.2.2.2.1.2.2.2.1⟩ (bJ.bW (fun d=>dx) fun k aA aG q h=>by
 obtain ⟨_,_,(a0:Int),(v1:List J.aq),(v2:Int),(bs:Int),(v4:List Int),(bY:Int),(v6:Int),(cu:List J.Method),(cB:Int),(cG:Int),_⟩:=aA
 obtain ⟨⟨(v10:List J.aq),_,(v11:List Int),_⟩,(df:List ((List UInt8) × Int)),⟨(dN:List UInt8),(eh:List UInt8),(fr:List J.Field),(fS:List J.Method),_⟩,_⟩:=aG
 obtain ⟨ay,_⟩:=dZ h
 dsimp only at ay
 obtain ⟨rfl,rfl,rfl,rfl,_⟩:=ay
 conv=>rhs;change Option.map (α:=Unit ⊕ Int) _ (On F (k+ 1) (⟨v1,df,v11⟩:J.bn) (⟨dN,eh,fr,cu⟩:J.aq) a0 cG (v1.length:Int) (cu.length:Int) (v1) (cu));rw [<-Sf F (k+ 1) (⟨v1,df,v11⟩:J.bn) (⟨dN,eh,fr,cu⟩:J.aq) a0 cG];simp only [vY,a6,Sg,Sf];simp only [bR]
 kernel_rfl)
noncomputable def Om (F:Nat) (k:Nat) (aO:J.bn) (hQ:J.aq) (oo:List Int) (wa:Int) (ak:Int) (bU:Int) (gM:List J.aq):=c9 ((aO.l.length:Int)=ak/\(oo.length:Int)=bU/\(aO.l:List J.aq)=gM/\True) (ba (vX F aO hQ oo k wa))
theorem Sd (F:Nat) (k:Nat) (aO:J.bn) (hQ:J.aq) (oo:List Int) (wa:Int):ba (vX F aO hQ oo k wa)=Om F k aO hQ oo wa (aO.l.length:Int) (oo.length:Int) aO.l:=(dy ⟨rfl,rfl,rfl,trivial⟩).symm
noncomputable def akD (F:Nat):aX aU:=(akC F).bX 81 2 F ⟨[0,4,14,15,16,24,25,26],[.p (.B 0),.p (.B 2),.p (.l 134),.p (.i .i64),.p (.i .i64),.p (.l 3),.p (.i .i64),.p (.i .i64)],[eu,.m 9 3,hG],
 [⟨⟨.nm,[0,14,15,16],[.p (.B 0),.p (.l 134),.p (.i .i64),.p (.i .i64)],[eu,.m 9 3,hG]⟩,Unit,fun d r=>(((),d.1.2.2.1,d.1.2.2.2.1,d.1.2.2.2.2.1,()),((d.2.1.1,(),d.2.1.2.2.1,()),d.2.2.1,d.2.2.2.1,()))⟩,
  ⟨⟨.rt,[2],[.p (.i .i64)],[eu,.m 9 3,.d]⟩,Int,fun d r=>((r,()),((d.2.1.1,(),d.2.1.2.2.1,()),d.2.2.1,(),()))⟩],
 fun k d=>Om F k (⟨d.1.2.2.1,d.2.2.1,d.2.1.2.2.1⟩:J.bn) (CI d.2.2.2.1) d.1.2.2.2.2.2.1 d.1.2.2.2.2.2.2.2.1 d.1.2.2.2.1 d.1.2.2.2.2.2.2.1 d.2.1.1⟩ (bJ.bW (fun d=>dx) fun k aA aG q h=>by
 obtain ⟨_,_,(a0:List J.aq),(v1:Int),(v2:Int),(bs:List Int),(v4:Int),(bY:Int),_⟩:=aA
 obtain ⟨⟨(v6:List J.aq),_,(cu:List Int),_⟩,(cB:List ((List UInt8) × Int)),⟨(cG:List UInt8),(v10:List UInt8),(v11:List J.Field),(df:List J.Method),_⟩,_⟩:=aG
 obtain ⟨ay,_⟩:=dZ h
 dsimp only at ay
 obtain ⟨rfl,rfl,rfl,_⟩:=ay
 conv=>rhs;change Option.map (α:=Unit ⊕ Int) _ (Om F (k+ 1) (⟨a0,cB,cu⟩:J.bn) (⟨cG,v10,v11,df⟩:J.aq) bs bY (a0.length:Int) (bs.length:Int) (a0));rw [<-Sd F (k+ 1) (⟨a0,cB,cu⟩:J.bn) (⟨cG,v10,v11,df⟩:J.aq) bs bY];simp only [vX,a6,Sf,Sd];simp only [bR]
 kernel_rfl)
noncomputable def Ol (F:Nat) (k:Nat) (aO:J.bn) (tD:Int) (ak:Int) (aT:List J.aq):=c9 ((aO.l.length:Int)=ak/\(aO.l:List J.aq)=aT/\True) (ba (vW F aO k tD))
theorem Sc (F:Nat) (k:Nat) (aO:J.bn) (tD:Int):ba (vW F aO k tD)=Ol F k aO tD (aO.l.length:Int) aO.l:=(dy ⟨rfl,rfl,trivial⟩).symm
noncomputable def akE (F:Nat):aX aU:=(akD F).bX 81 0 F ⟨[0,14,15,16],[.p (.B 0),.p (.l 134),.p (.i .i64),.p (.i .i64)],[eu,.m 9 3],
 [⟨⟨.nm,[],[],[eu,.m 9 3]⟩,Unit,fun d r=>((),((d.2.1.1,(),d.2.1.2.2.1,()),d.2.2.1,()))⟩,
  ⟨⟨.rt,[2],[.p (.i .i64)],[eu,.m 9 3]⟩,Int,fun d r=>((r,()),((d.2.1.1,(),d.2.1.2.2.1,()),d.2.2.1,()))⟩],
 fun k d=>Ol F k (⟨d.1.2.1,d.2.2.1,d.2.1.2.2.1⟩:J.bn) d.1.2.2.2.1 d.1.2.2.1 d.2.1.1⟩ (bJ.bW (fun d=>dx) fun k aA aG q h=>by
 obtain ⟨_,(a0:List J.aq),(v1:Int),(v2:Int),_⟩:=aA
 obtain ⟨⟨(bs:List J.aq),_,(v4:List Int),_⟩,(bY:List ((List UInt8) × Int)),_⟩:=aG
 obtain ⟨ay,_⟩:=dZ h
 dsimp only at ay
 obtain ⟨rfl,rfl,_⟩:=ay
 conv=>rhs;change Option.map (α:=Unit ⊕ Int) _ (Ol F (k+ 1) (⟨a0,bY,v4⟩:J.bn) v2 (a0.length:Int) (a0));rw [<-Sc F (k+ 1) (⟨a0,bY,v4⟩:J.bn) v2];simp only [vW,a6,Sd,Sc];simp only [bR]
 kernel_rfl)
noncomputable def akF (F:Nat):aX aU:=(akE F).rt 81 ⟨[.p (.B 0)],[eu,.m 9 3],[.p (.i .i64)],[eu,.m 9 3],Int,fun d=>Fa F (⟨d.2.1.1,d.2.2.1,d.2.1.2.2.1⟩:J.bn),fun d r=>((r,()),((d.2.1.1,(),d.2.1.2.2.1,()),d.2.2.1,()))⟩ fun aA aG=>by
 obtain ⟨_,_⟩:=aA
 obtain ⟨⟨(a0:List J.aq),_,(v1:List Int),_⟩,(v2:List ((List UInt8) × Int)),_⟩:=aG
 conv=>rhs;simp only [Fa,a6,Sc]
 kernel_rfl
noncomputable def Og (F:Nat) (k:Nat) (fB:List J.aq) (hh:Int × J.bn) (hj:Int × J.bn) (s9:List (List J.Target)) (ta:List (List (List UInt8))) (tc:List (List J.Field)) (oA:Int) (cF:Int) (al:List J.aq) (aT:List Int) (bU:List (List J.Field)) (dn:List (List (List UInt8))) (gM:List (List J.Target)) (Bh:List J.aq) (Bi:List Int):=c9 ((fB.length:Int)=cF/\([]:List J.aq)=al/\([]:List Int)=aT/\([]:List (List J.Field))=bU/\([]:List (List (List UInt8)))=dn/\([]:List (List J.Target))=gM/\(fB:List J.aq)=Bh/\(hj.2.dl:List Int)=Bi/\True) (ba (mj F fB hh hj k s9 ta tc oA))
theorem R9 (F:Nat) (k:Nat) (fB:List J.aq) (hh:Int × J.bn) (hj:Int × J.bn) (s9:List (List J.Target)) (ta:List (List (List UInt8))) (tc:List (List J.Field)) (oA:Int):ba (mj F fB hh hj k s9 ta tc oA)=Og F k fB (0,(⟨[],hh.2.b1,[]⟩:J.bn)) (0,(⟨[],[],hj.2.dl⟩:J.bn)) s9 ta tc oA (fB.length:Int) [] [] [] [] [] fB hj.2.dl:=(show ba (mj F fB hh hj k s9 ta tc oA)=ba (mj F fB (0,(⟨[],hh.2.b1,[]⟩:J.bn)) (0,(⟨[],[],hj.2.dl⟩:J.bn)) k s9 ta tc oA) by kernel_rfl).trans (dy ⟨rfl,rfl,rfl,rfl,rfl,rfl,rfl,rfl,trivial⟩).symm
noncomputable def akG (F:Nat):aX aU:=(akF F).bX 46 2 F ⟨[2,5,9,62,63],[.p (.B 0),.p (.B 1),.p (.B 3),.p (.i .i64),.p (.i .i64)],[dL,abE,.m 9 3,abG,.r 124 false,.r 120 false,.r 121 false],
 [⟨⟨.nm,[2,9],[.p (.B 0),.p (.B 3)],[dL,abE,.m 9 3,abG,.r 124 false,.r 120 false,.r 121 false]⟩,(List (List J.Target)) × (List (List (List UInt8))) × (List (List J.Field)),fun d r=>(((),(),()),(d.2.1,(d.2.2.1.1,(),d.2.2.1.2.2.1,()),d.2.2.2.1,(d.2.2.2.2.1.1,d.2.2.2.2.1.2.1,(),(),(),()),r.2.2,r.2.1,r.1,()))⟩,
  ⟨⟨.rt,[2,3],[.p (.B 0),.p (.i .i64)],[dL,.d,.d,.d,.d,.d,.d]⟩,J.aQ × Int,fun d r=>(((),r.2,()),((r.1.bc,r.1.a8,r.1.Fields,r.1.Names,r.1.a9,()),(),(),(),(),(),(),()))⟩],
 fun k d=>Og F k d.2.2.1.1 (0,(⟨[],d.2.2.2.1,[]⟩:J.bn)) (0,(⟨[],[],d.2.2.1.2.2.1⟩:J.bn)) d.2.2.2.2.2.2.2.1 d.2.2.2.2.2.2.1 d.2.2.2.2.2.1 d.1.2.2.2.2.1 d.1.2.2.2.1 d.2.1.1 d.2.1.2.1 d.2.1.2.2.1 d.2.1.2.2.2.1 d.2.1.2.2.2.2.1 d.2.2.2.2.1.1 d.2.2.2.2.1.2.1⟩ (bJ.bW (fun d=>dx) fun k aA aG q h=>by
 obtain ⟨_,_,_,(a0:Int),(v1:Int),_⟩:=aA
 obtain ⟨⟨(v2:List J.aq),(bs:List Int),(v4:List (List J.Field)),(bY:List (List (List UInt8))),(v6:List (List J.Target)),_⟩,⟨(cu:List J.aq),_,(cB:List Int),_⟩,(cG:List ((List UInt8) × Int)),⟨(v10:List J.aq),(v11:List Int),_,_,_,_⟩,(df:List (List J.Field)),(dN:List (List (List UInt8))),(eh:List (List J.Target)),_⟩:=aG
 obtain ⟨ay,_⟩:=dZ h
 dsimp only at ay
 obtain ⟨rfl,rfl,rfl,rfl,rfl,rfl,rfl,rfl,_⟩:=ay
 conv=>rhs;change Option.map (α:=((List (List J.Target)) × (List (List (List UInt8))) × (List (List J.Field))) ⊕ (J.aQ × Int)) _ (Og F (k+ 1) cu (0,(⟨[],cG,[]⟩:J.bn)) (0,(⟨[],[],cB⟩:J.bn)) eh dN df v1 (cu.length:Int) ([]) ([]) ([]) ([]) ([]) (cu) ((0,(⟨[],[],cB⟩:J.bn)).2.dl));rw [<-R9 F (k+ 1) cu (0,(⟨[],cG,[]⟩:J.bn)) (0,(⟨[],[],cB⟩:J.bn)) eh dN df v1];simp only [mj,a6,R9];simp only [bR]
 kernel_rfl)
noncomputable def akI (F:Nat):aX aU:=(akG F).rt 46 ⟨[.p (.l 134)],[],[gW,.p (.i .i64)],[],J.aQ × Int,fun d=>zu F d.1.1,fun d r=>(((r.1.bc,r.1.a8,r.1.Fields,r.1.Names,r.1.a9,()),r.2,()),())⟩ fun aA aG=>by
 obtain ⟨(a0:List J.aq),_⟩:=aA
 conv=>rhs;simp only [zu,a6,R9]
 kernel_rfl
noncomputable def OQ (k:Nat) (bP:List Int) (cc:List Int) (cX:Int) (al:Int):=c9 ((bP.length:Int)=al/\True) (ba (wU bP cc k cX))
theorem SC (k:Nat) (bP:List Int) (cc:List Int) (cX:Int):ba (wU bP cc k cX)=OQ k bP cc cX (bP.length:Int):=(dy ⟨rfl,trivial⟩).symm
noncomputable def akJ (F:Nat):aX aU:=(akI F).bX 126 0 F ⟨[0,1,12,13],[.p (.l 3),.p (.l 3),.p (.i .i64),.p (.i .i64)],[],
 [⟨⟨.nm,[],[],[]⟩,Unit,fun d r=>((),())⟩,
  ⟨⟨.rt,[4],[.p (.b)],[]⟩,Bool,fun d r=>((r,()),())⟩],
 fun k d=>OQ k d.1.1 d.1.2.1 d.1.2.2.2.1 d.1.2.2.1⟩ (bJ.bW (fun d=>dx) fun k aA aG q h=>by
 obtain ⟨(a0:List Int),(v1:List Int),(v2:Int),(bs:Int),_⟩:=aA
 obtain ⟨ay,_⟩:=dZ h
 dsimp only at ay
 obtain ⟨rfl,_⟩:=ay
 conv=>rhs;change Option.map (α:=Unit ⊕ Bool) _ (OQ (k+ 1) a0 v1 bs (a0.length:Int));rw [<-SC (k+ 1) a0 v1 bs];simp only [wU,a6,SC];simp only [bR]
 kernel_rfl)
noncomputable def akK (F:Nat):aX aU:=(akJ F).rt 126 ⟨[.p (.l 3),.p (.l 3)],[],[.p (.b)],[],Bool,fun d=>Gi F d.1.1 d.1.2.1,fun d r=>((r,()),())⟩ fun aA aG=>by
 obtain ⟨(a0:List Int),(v1:List Int),_⟩:=aA
 conv=>rhs;simp only [Gi,a6,SC]
 kernel_rfl
noncomputable def OM (k:Nat) (bP:List J.Field) (cc:List J.Field) (cX:Int) (al:Int):=c9 ((bP.length:Int)=al/\True) (ba (wS bP cc k cX))
theorem Sz (k:Nat) (bP:List J.Field) (cc:List J.Field) (cX:Int):ba (wS bP cc k cX)=OM k bP cc cX (bP.length:Int):=(dy ⟨rfl,trivial⟩).symm
noncomputable def akL (F:Nat):aX aU:=(akK F).bX 128 0 F ⟨[0,1,12,13],[.p (.l 136),.p (.l 136),.p (.i .i64),.p (.i .i64)],[],
 [⟨⟨.nm,[],[],[]⟩,Unit,fun d r=>((),())⟩,
  ⟨⟨.rt,[4],[.p (.b)],[]⟩,Bool,fun d r=>((r,()),())⟩],
 fun k d=>OM k d.1.1 d.1.2.1 d.1.2.2.2.1 d.1.2.2.1⟩ (bJ.bW (fun d=>dx) fun k aA aG q h=>by
 obtain ⟨(a0:List J.Field),(v1:List J.Field),(v2:Int),(bs:Int),_⟩:=aA
 obtain ⟨ay,_⟩:=dZ h
 dsimp only at ay
 obtain ⟨rfl,_⟩:=ay
 conv=>rhs;change Option.map (α:=Unit ⊕ Bool) _ (OM (k+ 1) a0 v1 bs (a0.length:Int));rw [<-Sz (k+ 1) a0 v1 bs];simp only [wS,a6,Sz];simp only [bR]
 kernel_rfl)
noncomputable def akM (F:Nat):aX aU:=(akL F).rt 128 ⟨[.p (.l 136),.p (.l 136)],[],[.p (.b)],[],Bool,fun d=>Gf F d.1.1 d.1.2.1,fun d r=>((r,()),())⟩ fun aA aG=>by
 obtain ⟨(a0:List J.Field),(v1:List J.Field),_⟩:=aA
 conv=>rhs;simp only [Gf,a6,Sz]
 kernel_rfl
noncomputable def OI (F:Nat) (k:Nat) (bP:List (List J.Field)) (cc:List (List J.Field)) (gd:Int) (al:Int):=c9 ((bP.length:Int)=al/\True) (ba (wP F bP cc k gd))
theorem Sw (F:Nat) (k:Nat) (bP:List (List J.Field)) (cc:List (List J.Field)) (gd:Int):ba (wP F bP cc k gd)=OI F k bP cc gd (bP.length:Int):=(dy ⟨rfl,trivial⟩).symm
noncomputable def akN (F:Nat):aX aU:=(akM F).bX 127 0 F ⟨[1,2,15,16,17],[.p (.l 124),.f 128 [],.p (.l 124),.p (.i .i64),.p (.i .i64)],[],
 [⟨⟨.nm,[],[],[]⟩,Unit,fun d r=>((),())⟩,
  ⟨⟨.rt,[6],[.p (.b)],[]⟩,Bool,fun d r=>((r,()),())⟩],
 fun k d=>OI F k d.1.2.2.1 d.1.1 d.1.2.2.2.2.1 d.1.2.2.2.1⟩ (bJ.bW (fun d=>dx) fun k aA aG q h=>by
 obtain ⟨(a0:List (List J.Field)),_,(v1:List (List J.Field)),(v2:Int),(bs:Int),_⟩:=aA
 obtain ⟨ay,_⟩:=dZ h
 dsimp only at ay
 obtain ⟨rfl,_⟩:=ay
 conv=>rhs;change Option.map (α:=Unit ⊕ Bool) _ (OI F (k+ 1) v1 a0 bs (v1.length:Int));rw [<-Sw F (k+ 1) v1 a0 bs];simp only [wP,a6,Sw];simp only [bR]
 kernel_rfl)
noncomputable def akO (F:Nat):aX aU:=(akN F).rt 127 ⟨[.p (.l 124),.p (.l 124),.f 128 []],[],[.p (.b)],[],Bool,fun d=>Gb F d.1.1 d.1.2.1,fun d r=>((r,()),())⟩ fun aA aG=>by
 obtain ⟨(a0:List (List J.Field)),(v1:List (List J.Field)),_,_⟩:=aA
 conv=>rhs;simp only [Gb,a6,Sw]
 kernel_rfl
noncomputable def OS (k:Nat) (bP:List (List UInt8)) (cc:List (List UInt8)) (cX:Int) (al:Int):=c9 ((bP.length:Int)=al/\True) (ba (wV bP cc k cX))
theorem SD (k:Nat) (bP:List (List UInt8)) (cc:List (List UInt8)) (cX:Int):ba (wV bP cc k cX)=OS k bP cc cX (bP.length:Int):=(dy ⟨rfl,trivial⟩).symm
noncomputable def akP (F:Nat):aX aU:=(akO F).bX 130 0 F ⟨[0,1,12,13],[.p (.l 9),.p (.l 9),.p (.i .i64),.p (.i .i64)],[],
 [⟨⟨.nm,[],[],[]⟩,Unit,fun d r=>((),())⟩,
  ⟨⟨.rt,[4],[.p (.b)],[]⟩,Bool,fun d r=>((r,()),())⟩],
 fun k d=>OS k d.1.1 d.1.2.1 d.1.2.2.2.1 d.1.2.2.1⟩ (bJ.bW (fun d=>dx) fun k aA aG q h=>by
 obtain ⟨(a0:List (List UInt8)),(v1:List (List UInt8)),(v2:Int),(bs:Int),_⟩:=aA
 obtain ⟨ay,_⟩:=dZ h
 dsimp only at ay
 obtain ⟨rfl,_⟩:=ay
 conv=>rhs;change Option.map (α:=Unit ⊕ Bool) _ (OS (k+ 1) a0 v1 bs (a0.length:Int));rw [<-SD (k+ 1) a0 v1 bs];simp only [wV,a6,SD];simp only [bR]
 kernel_rfl)
noncomputable def akQ (F:Nat):aX aU:=(akP F).rt 130 ⟨[.p (.l 9),.p (.l 9)],[],[.p (.b)],[],Bool,fun d=>Gj F d.1.1 d.1.2.1,fun d r=>((r,()),())⟩ fun aA aG=>by
 obtain ⟨(a0:List (List UInt8)),(v1:List (List UInt8)),_⟩:=aA
 conv=>rhs;simp only [Gj,a6,SD]
 kernel_rfl
noncomputable def OL (F:Nat) (k:Nat) (bP:List (List (List UInt8))) (cc:List (List (List UInt8))) (gd:Int) (al:Int):=c9 ((bP.length:Int)=al/\True) (ba (wR F bP cc k gd))
theorem Sy (F:Nat) (k:Nat) (bP:List (List (List UInt8))) (cc:List (List (List UInt8))) (gd:Int):ba (wR F bP cc k gd)=OL F k bP cc gd (bP.length:Int):=(dy ⟨rfl,trivial⟩).symm
noncomputable def akR (F:Nat):aX aU:=(akQ F).bX 129 0 F ⟨[1,2,15,16,17],[.p (.l 120),.f 130 [],.p (.l 120),.p (.i .i64),.p (.i .i64)],[],
 [⟨⟨.nm,[],[],[]⟩,Unit,fun d r=>((),())⟩,
  ⟨⟨.rt,[6],[.p (.b)],[]⟩,Bool,fun d r=>((r,()),())⟩],
 fun k d=>OL F k d.1.2.2.1 d.1.1 d.1.2.2.2.2.1 d.1.2.2.2.1⟩ (bJ.bW (fun d=>dx) fun k aA aG q h=>by
 obtain ⟨(a0:List (List (List UInt8))),_,(v1:List (List (List UInt8))),(v2:Int),(bs:Int),_⟩:=aA
 obtain ⟨ay,_⟩:=dZ h
 dsimp only at ay
 obtain ⟨rfl,_⟩:=ay
 conv=>rhs;change Option.map (α:=Unit ⊕ Bool) _ (OL F (k+ 1) v1 a0 bs (v1.length:Int));rw [<-Sy F (k+ 1) v1 a0 bs];simp only [wR,a6,Sy];simp only [bR]
 kernel_rfl)
noncomputable def akT (F:Nat):aX aU:=(akR F).rt 129 ⟨[.p (.l 120),.p (.l 120),.f 130 []],[],[.p (.b)],[],Bool,fun d=>Gd F d.1.1 d.1.2.1,fun d r=>((r,()),())⟩ fun aA aG=>by
 obtain ⟨(a0:List (List (List UInt8))),(v1:List (List (List UInt8))),_,_⟩:=aA
 conv=>rhs;simp only [Gd,a6,Sy]
 kernel_rfl
noncomputable def OP (k:Nat) (bP:List J.Target) (cc:List J.Target) (cX:Int) (al:Int):=c9 ((bP.length:Int)=al/\True) (ba (wT bP cc k cX))
theorem SB (k:Nat) (bP:List J.Target) (cc:List J.Target) (cX:Int):ba (wT bP cc k cX)=OP k bP cc cX (bP.length:Int):=(dy ⟨rfl,trivial⟩).symm
noncomputable def akU (F:Nat):aX aU:=(akT F).bX 132 0 F ⟨[0,1,12,13],[.p (.l 166),.p (.l 166),.p (.i .i64),.p (.i .i64)],[],
 [⟨⟨.nm,[],[],[]⟩,Unit,fun d r=>((),())⟩,
  ⟨⟨.rt,[4],[.p (.b)],[]⟩,Bool,fun d r=>((r,()),())⟩],
 fun k d=>OP k d.1.1 d.1.2.1 d.1.2.2.2.1 d.1.2.2.1⟩ (bJ.bW (fun d=>dx) fun k aA aG q h=>by
 obtain ⟨(a0:List J.Target),(v1:List J.Target),(v2:Int),(bs:Int),_⟩:=aA
 obtain ⟨ay,_⟩:=dZ h
 dsimp only at ay
 obtain ⟨rfl,_⟩:=ay
 conv=>rhs;change Option.map (α:=Unit ⊕ Bool) _ (OP (k+ 1) a0 v1 bs (a0.length:Int));rw [<-SB (k+ 1) a0 v1 bs];simp only [wT,a6,SB];simp only [bR]
 kernel_rfl)
noncomputable def akV (F:Nat):aX aU:=(akU F).rt 132 ⟨[.p (.l 166),.p (.l 166)],[],[.p (.b)],[],Bool,fun d=>Gh F d.1.1 d.1.2.1,fun d r=>((r,()),())⟩ fun aA aG=>by
 obtain ⟨(a0:List J.Target),(v1:List J.Target),_⟩:=aA
 conv=>rhs;simp only [Gh,a6,SB]
 kernel_rfl
noncomputable def OJ (F:Nat) (k:Nat) (bP:List (List J.Target)) (cc:List (List J.Target)) (gd:Int) (al:Int):=c9 ((bP.length:Int)=al/\True) (ba (wQ F bP cc k gd))
theorem Sx (F:Nat) (k:Nat) (bP:List (List J.Target)) (cc:List (List J.Target)) (gd:Int):ba (wQ F bP cc k gd)=OJ F k bP cc gd (bP.length:Int):=(dy ⟨rfl,trivial⟩).symm
noncomputable def akW (F:Nat):aX aU:=(akV F).bX 131 0 F ⟨[1,2,15,16,17],[.p (.l 121),.f 132 [],.p (.l 121),.p (.i .i64),.p (.i .i64)],[],
 [⟨⟨.nm,[],[],[]⟩,Unit,fun d r=>((),())⟩,
  ⟨⟨.rt,[6],[.p (.b)],[]⟩,Bool,fun d r=>((r,()),())⟩],
 fun k d=>OJ F k d.1.2.2.1 d.1.1 d.1.2.2.2.2.1 d.1.2.2.2.1⟩ (bJ.bW (fun d=>dx) fun k aA aG q h=>by
 obtain ⟨(a0:List (List J.Target)),_,(v1:List (List J.Target)),(v2:Int),(bs:Int),_⟩:=aA
 obtain ⟨ay,_⟩:=dZ h
 dsimp only at ay
 obtain ⟨rfl,_⟩:=ay
 conv=>rhs;change Option.map (α:=Unit ⊕ Bool) _ (OJ F (k+ 1) v1 a0 bs (v1.length:Int));rw [<-Sx F (k+ 1) v1 a0 bs];simp only [wQ,a6,Sx];simp only [bR]
 kernel_rfl)
noncomputable def akX (F:Nat):aX aU:=(akW F).rt 131 ⟨[.p (.l 121),.p (.l 121),.f 132 []],[],[.p (.b)],[],Bool,fun d=>Gc F d.1.1 d.1.2.1,fun d r=>((r,()),())⟩ fun aA aG=>by
 obtain ⟨(a0:List (List J.Target)),(v1:List (List J.Target)),_,_⟩:=aA
 conv=>rhs;simp only [Gc,a6,Sx]
 kernel_rfl
noncomputable def akY (F:Nat):aX aU:=(akX F).rt 100 ⟨[gW,gW],[],[.p (.b)],[],Bool,fun d=>BZ F (eX d.1.1) (eX d.1.2.1),fun d r=>((r,()),())⟩ fun aA aG=>by
 conv=>rhs;simp only [BZ,a6]
 kernel_rfl
noncomputable def akZ (F:Nat):aX aU:=(akY F).rt 64 ⟨[gW],[],[.p (.i .i64)],[],Int,fun d=>mi F (eX d.1.1),fun d r=>((r,()),())⟩ fun aA aG=>by
 conv=>rhs;simp only [mi,a6]
 kernel_rfl
noncomputable def ak0 (F:Nat):aX aU:=(akZ F).rt 84 ⟨[.p (.i .i64),.p (.i .i64),.p (.i .i64)],[],[.p (.b)],[],Bool,fun d=>m2 d.1.1 d.1.2.1 d.1.2.2.1,fun d r=>((r,()),())⟩ fun aA aG=>by
 conv=>rhs;simp only [m2,a6]
 kernel_rfl
noncomputable def ak1 (F:Nat):aX aU:=(ak0 F).rt 101 ⟨[iu],[],[.p (.i .i64)],[],Int,fun d=>BE (dM d.1.1),fun d r=>((r,()),())⟩ fun aA aG=>by
 conv=>rhs;simp only [BE,a6]
 kernel_rfl
noncomputable def ak2 (F:Nat):aX aU:=(ak1 F).rt 92 ⟨[gW,.p (.i .i64)],[],[.p (.b)],[],Bool,fun d=>sJ (gz d.1.1) d.1.2.1,fun d r=>((r,()),())⟩ fun aA aG=>by
 conv=>rhs;simp only [sJ,a6]
 kernel_rfl
noncomputable def ak4 (F:Nat):aX aU:=(ak2 F).rt 93 ⟨[gW,.p (.i .i64),.p (.i .i64)],[],[.p (.b)],[],Bool,fun d=>sK (gz d.1.1) d.1.2.1 d.1.2.2.1,fun d r=>((r,()),())⟩ fun aA aG=>by
 conv=>rhs;simp only [sK,a6]
 kernel_rfl
noncomputable def N_ (k:Nat) (jc:Int) (aK:J.bf) (tf:List Int) (ow:List (Int × Bool)) (ln:Int):=c9 (True) (ba (m1 jc aK k tf ow ln))
theorem R3 (k:Nat) (jc:Int) (aK:J.bf) (tf:List Int) (ow:List (Int × Bool)) (ln:Int):ba (m1 jc aK k tf ow ln)=N_ k jc (⟨(⟨aK.H.Words,aK.H.ar,aK.H.aV,aK.H.a3,aK.H.a1,aK.H.aY,aK.H.Next⟩:J.aW),(⟨(⟨aK.S.K.bc,aK.S.K.a8,aK.S.K.Fields,aK.S.K.Names,aK.S.K.a9⟩:J.aQ)⟩:J.ch),aK.ar,aK.aV,[]⟩:J.bf) tf ow ln:=(show ba (m1 jc aK k tf ow ln)=ba (m1 jc (⟨(⟨aK.H.Words,aK.H.ar,aK.H.aV,aK.H.a3,aK.H.a1,aK.H.aY,aK.H.Next⟩:J.aW),(⟨(⟨aK.S.K.bc,aK.S.K.a8,aK.S.K.Fields,aK.S.K.Names,aK.S.K.a9⟩:J.aQ)⟩:J.ch),aK.ar,aK.aV,[]⟩:J.bf) k tf ow ln) by kernel_rfl).trans (dy trivial).symm
noncomputable def ak5 (F:Nat):aX aU:=(ak4 F).bX 102 0 F ⟨[0,2,8,9],[.p (.B 0),.p (.i .i64),.p (.R 2),.p (.i .i64)],[fh,.m 3 4,.r 3 false],
 [⟨⟨.nm,[8],[.p (.R 2)],[fh,.m 3 4,.r 3 false]⟩,(List Int) × (List (Int × Bool)),fun d r=>(((),()),((d.2.1.1,d.2.1.2.1,d.2.1.2.2.1,d.2.1.2.2.2.1,d.2.1.2.2.2.2.1,d.2.1.2.2.2.2.2.1,d.2.1.2.2.2.2.2.2.1,d.2.1.2.2.2.2.2.2.2.1,d.2.1.2.2.2.2.2.2.2.2.1,d.2.1.2.2.2.2.2.2.2.2.2.1,d.2.1.2.2.2.2.2.2.2.2.2.2.1,d.2.1.2.2.2.2.2.2.2.2.2.2.2.1,d.2.1.2.2.2.2.2.2.2.2.2.2.2.2.1,d.2.1.2.2.2.2.2.2.2.2.2.2.2.2.2.1,(),()),r.2,r.1,()))⟩,
  ⟨⟨.rt,[6,7],[.p (.l 3),.p (.b)],[fh,.m 3 4,.d]⟩,(List Int) × Bool × J.bf,fun d r=>((r.1,r.2.1,()),((d.2.1.1,d.2.1.2.1,d.2.1.2.2.1,d.2.1.2.2.2.1,d.2.1.2.2.2.2.1,d.2.1.2.2.2.2.2.1,d.2.1.2.2.2.2.2.2.1,d.2.1.2.2.2.2.2.2.2.1,d.2.1.2.2.2.2.2.2.2.2.1,d.2.1.2.2.2.2.2.2.2.2.2.1,d.2.1.2.2.2.2.2.2.2.2.2.2.1,d.2.1.2.2.2.2.2.2.2.2.2.2.2.1,d.2.1.2.2.2.2.2.2.2.2.2.2.2.2.1,d.2.1.2.2.2.2.2.2.2.2.2.2.2.2.2.1,(),()),r.2.2.dS,(),()))⟩],
 fun k d=>N_ k d.1.2.1 (⟨(dM d.2.1),(gz d.2.1.2.2.2.2.2.2.2),d.2.1.2.2.2.2.2.2.2.2.2.2.2.2.1,d.2.1.2.2.2.2.2.2.2.2.2.2.2.2.2.1,[]⟩:J.bf) d.2.2.2.1 d.2.2.1 d.1.2.2.2.1⟩ (bJ.bW (fun d=>dx) fun k aA aG q h=>by
 obtain ⟨_,(a0:Int),_,(v1:Int),_⟩:=aA
 obtain ⟨⟨(v2:List Int),(bs:Int),(v4:Int),(bY:Int),(v6:Int),(cu:List Int),(cB:Int),(cG:List J.aq),(v10:List Int),(v11:List (List J.Field)),(df:List (List (List UInt8))),(dN:List (List J.Target)),(eh:List Int),(fr:List Int),_,_⟩,(fS:List (Int × Bool)),(g0:List Int),_⟩:=aG
 conv=>rhs;change Option.map (α:=((List Int) × (List (Int × Bool))) ⊕ ((List Int) × Bool × J.bf)) _ (N_ (k+ 1) a0 (⟨(⟨v2,bs,v4,bY,v6,cu,cB⟩:J.aW),(⟨(⟨cG,v10,v11,df,dN⟩:J.aQ)⟩:J.ch),eh,fr,[]⟩:J.bf) g0 fS v1);rw [<-R3 (k+ 1) a0 (⟨(⟨v2,bs,v4,bY,v6,cu,cB⟩:J.aW),(⟨(⟨cG,v10,v11,df,dN⟩:J.aQ)⟩:J.ch),eh,fr,[]⟩:J.bf) g0 fS v1];simp only [m1,a6,R3];simp only [bR]
 kernel_rfl)
noncomputable def ak6 (F:Nat):aX aU:=(ak5 F).rt 102 ⟨[.p (.B 0),.p (.i .i64),.p (.i .i64)],[fh,.m 3 4],[.p (.l 3),.p (.b)],[fh,.m 3 4],(List Int) × Bool × J.bf,fun d=>k7 F (⟨(dM d.2.1),(gz d.2.1.2.2.2.2.2.2.2),d.2.1.2.2.2.2.2.2.2.2.2.2.2.2.1,d.2.1.2.2.2.2.2.2.2.2.2.2.2.2.2.1,d.2.2.1⟩:J.bf) d.1.2.1 d.1.2.2.1,fun d r=>((r.1,r.2.1,()),((d.2.1.1,d.2.1.2.1,d.2.1.2.2.1,d.2.1.2.2.2.1,d.2.1.2.2.2.2.1,d.2.1.2.2.2.2.2.1,d.2.1.2.2.2.2.2.2.1,d.2.1.2.2.2.2.2.2.2.1,d.2.1.2.2.2.2.2.2.2.2.1,d.2.1.2.2.2.2.2.2.2.2.2.1,d.2.1.2.2.2.2.2.2.2.2.2.2.1,d.2.1.2.2.2.2.2.2.2.2.2.2.2.1,d.2.1.2.2.2.2.2.2.2.2.2.2.2.2.1,d.2.1.2.2.2.2.2.2.2.2.2.2.2.2.2.1,(),()),r.2.2.dS,()))⟩ fun aA aG=>by
 obtain ⟨_,(a0:Int),(v1:Int),_⟩:=aA
 obtain ⟨⟨(v2:List Int),(bs:Int),(v4:Int),(bY:Int),(v6:Int),(cu:List Int),(cB:Int),(cG:List J.aq),(v10:List Int),(v11:List (List J.Field)),(df:List (List (List UInt8))),(dN:List (List J.Target)),(eh:List Int),(fr:List Int),_,_⟩,(fS:List (Int × Bool)),_⟩:=aG
 conv=>rhs;simp only [k7,a6,R3]
 kernel_rfl
noncomputable def OG (k:Nat) (gY:List (List Int)) (v_:Int) (v':Int) (al:List (List Int)) (aT:Int):=c9 ((gY:List (List Int))=al/\(gY.length:Int)=aT/\True) (tT gY k v_ v')
theorem Su (k:Nat) (gY:List (List Int)) (v_:Int) (v':Int):tT gY k v_ v'=OG k gY v_ v' gY (gY.length:Int):=(dy ⟨rfl,rfl,trivial⟩).symm
noncomputable def ak7 (F:Nat):aX aU:=(ak6 F).bX 135 0 F ⟨[0,3,9,10,11],[.p (.l 22),.p (.i .i64),.p (.l 22),.p (.i .i64),.p (.i .i64)],[],
 [⟨⟨.nm,[0,3],[.p (.l 22),.p (.i .i64)],[]⟩,Int,fun d r=>((d.1.1,r,()),())⟩],
 fun k d=>OG k d.1.1 d.1.2.1 d.1.2.2.2.2.1 d.1.2.2.1 d.1.2.2.2.1⟩ (bJ.bW (fun d=>dx) fun k aA aG q h=>by
 obtain ⟨(a0:List (List Int)),(v1:Int),(v2:List (List Int)),(bs:Int),(v4:Int),_⟩:=aA
 obtain ⟨ay,_⟩:=dZ h
 dsimp only at ay
 obtain ⟨rfl,rfl,_⟩:=ay
 conv=>rhs;change Option.map (α:=Int) _ (OG (k+ 1) a0 v1 v4 (a0) (a0.length:Int));rw [<-Su (k+ 1) a0 v1 v4];simp only [tT,a6,Su];simp only [bR]
 kernel_rfl)
noncomputable def OH (k:Nat) (gY:List (List Int)) (zn:List Int) (wc:Int) (ak:Int):=c9 ((gY.length:Int)=ak/\True) (tU gY k zn wc)
theorem Sv (k:Nat) (gY:List (List Int)) (zn:List Int) (wc:Int):tU gY k zn wc=OH k gY zn wc (gY.length:Int):=(dy ⟨rfl,trivial⟩).symm
noncomputable def ak8 (F:Nat):aX aU:=(ak7 F).bX 135 2 F ⟨[6,25,26,27],[.p (.R 0),.p (.l 22),.p (.i .i64),.p (.i .i64)],[.r 3 false],
 [⟨⟨.nm,[6],[.p (.R 0)],[.r 3 false]⟩,List Int,fun d r=>(((),()),(r,()))⟩],
 fun k d=>OH k d.1.2.1 d.2.1 d.1.2.2.2.1 d.1.2.2.1⟩ (bJ.bW (fun d=>dx) fun k aA aG q h=>by
 obtain ⟨_,(a0:List (List Int)),(v1:Int),(v2:Int),_⟩:=aA
 obtain ⟨(bs:List Int),_⟩:=aG
 obtain ⟨ay,_⟩:=dZ h
 dsimp only at ay
 obtain ⟨rfl,_⟩:=ay
 conv=>rhs;change Option.map (α:=List Int) _ (OH (k+ 1) a0 bs v2 (a0.length:Int));rw [<-Sv (k+ 1) a0 bs v2];simp only [tU,a6,Sv];simp only [bR]
 kernel_rfl)
noncomputable def ak9 (F:Nat):aX aU:=(ak8 F).rt 135 ⟨[.p (.l 22)],[],[.p (.l 3)],[],List Int,fun d=>CD F d.1.1,fun d r=>((r,()),())⟩ fun aA aG=>by
 obtain ⟨(a0:List (List Int)),_⟩:=aA
 conv=>rhs;simp only [CD,a6,Su,Sv,KJ]
 kernel_rfl
noncomputable def ak_ (F:Nat):aX aU:=(ak9 F).rt 133 ⟨[.p (.B 0)],[fh,.m 3 4],[.p (.l 3)],[fh,.m 3 4],List Int,fun d=>vA F (⟨(dM d.2.1),(gz d.2.1.2.2.2.2.2.2.2),d.2.1.2.2.2.2.2.2.2.2.2.2.2.2.1,d.2.1.2.2.2.2.2.2.2.2.2.2.2.2.2.1,d.2.2.1⟩:J.bf),fun d r=>((r,()),((d.2.1.1,d.2.1.2.1,d.2.1.2.2.1,d.2.1.2.2.2.1,d.2.1.2.2.2.2.1,d.2.1.2.2.2.2.2.1,d.2.1.2.2.2.2.2.2.1,d.2.1.2.2.2.2.2.2.2.1,d.2.1.2.2.2.2.2.2.2.2.1,d.2.1.2.2.2.2.2.2.2.2.2.1,d.2.1.2.2.2.2.2.2.2.2.2.2.1,d.2.1.2.2.2.2.2.2.2.2.2.2.2.1,d.2.1.2.2.2.2.2.2.2.2.2.2.2.2.1,d.2.1.2.2.2.2.2.2.2.2.2.2.2.2.2.1,(),()),d.2.2.1,()))⟩ fun aA aG=>by
 conv=>rhs;simp only [vA,a6]
 kernel_rfl
noncomputable def N7 (k:Nat) (aK:J.bf) (gX:List Int) (zy:List (Int × Bool)) (wy:Int) (ak:Int):=c9 ((gX.length:Int)=ak/\True) (ba (sM aK gX k zy wy))
theorem R0 (k:Nat) (aK:J.bf) (gX:List Int) (zy:List (Int × Bool)) (wy:Int):ba (sM aK gX k zy wy)=N7 k aK gX zy wy (gX.length:Int):=(dy ⟨rfl,trivial⟩).symm
noncomputable def ak' (F:Nat):aX aU:=(ak_ F).bX 103 0 F ⟨[0,3,9,10,11],[.p (.B 0),.p (.M 2),.p (.l 3),.p (.i .i64),.p (.i .i64)],[fh,.m 3 4,.m 3 4],
 [⟨⟨.nm,[0,3],[.p (.B 0),.p (.M 2)],[fh,.m 3 4,.m 3 4]⟩,List (Int × Bool),fun d r=>(((),(),()),((d.2.1.1,d.2.1.2.1,d.2.1.2.2.1,d.2.1.2.2.2.1,d.2.1.2.2.2.2.1,d.2.1.2.2.2.2.2.1,d.2.1.2.2.2.2.2.2.1,d.2.1.2.2.2.2.2.2.2.1,d.2.1.2.2.2.2.2.2.2.2.1,d.2.1.2.2.2.2.2.2.2.2.2.1,d.2.1.2.2.2.2.2.2.2.2.2.2.1,d.2.1.2.2.2.2.2.2.2.2.2.2.2.1,d.2.1.2.2.2.2.2.2.2.2.2.2.2.2.1,d.2.1.2.2.2.2.2.2.2.2.2.2.2.2.2.1,(),()),d.2.2.1,r,()))⟩,
  ⟨⟨.rt,[2],[.p (.i .i64)],[fh,.m 3 4,.d]⟩,Int,fun d r=>((r,()),((d.2.1.1,d.2.1.2.1,d.2.1.2.2.1,d.2.1.2.2.2.1,d.2.1.2.2.2.2.1,d.2.1.2.2.2.2.2.1,d.2.1.2.2.2.2.2.2.1,d.2.1.2.2.2.2.2.2.2.1,d.2.1.2.2.2.2.2.2.2.2.1,d.2.1.2.2.2.2.2.2.2.2.2.1,d.2.1.2.2.2.2.2.2.2.2.2.2.1,d.2.1.2.2.2.2.2.2.2.2.2.2.2.1,d.2.1.2.2.2.2.2.2.2.2.2.2.2.2.1,d.2.1.2.2.2.2.2.2.2.2.2.2.2.2.2.1,(),()),d.2.2.1,(),()))⟩],
 fun k d=>N7 k (⟨(dM d.2.1),(gz d.2.1.2.2.2.2.2.2.2),d.2.1.2.2.2.2.2.2.2.2.2.2.2.2.1,d.2.1.2.2.2.2.2.2.2.2.2.2.2.2.2.1,d.2.2.1⟩:J.bf) d.1.2.2.1 d.2.2.2.1 d.1.2.2.2.2.1 d.1.2.2.2.1⟩ (bJ.bW (fun d=>dx) fun k aA aG q h=>by
 obtain ⟨_,_,(a0:List Int),(v1:Int),(v2:Int),_⟩:=aA
 obtain ⟨⟨(bs:List Int),(v4:Int),(bY:Int),(v6:Int),(cu:Int),(cB:List Int),(cG:Int),(v10:List J.aq),(v11:List Int),(df:List (List J.Field)),(dN:List (List (List UInt8))),(eh:List (List J.Target)),(fr:List Int),(fS:List Int),_,_⟩,(g0:List (Int × Bool)),(lz:List (Int × Bool)),_⟩:=aG
 obtain ⟨ay,_⟩:=dZ h
 dsimp only at ay
 obtain ⟨rfl,_⟩:=ay
 conv=>rhs;change Option.map (α:=(List (Int × Bool)) ⊕ Int) _ (N7 (k+ 1) (⟨(⟨bs,v4,bY,v6,cu,cB,cG⟩:J.aW),(⟨(⟨v10,v11,df,dN,eh⟩:J.aQ)⟩:J.ch),fr,fS,g0⟩:J.bf) a0 lz v2 (a0.length:Int));rw [<-R0 (k+ 1) (⟨(⟨bs,v4,bY,v6,cu,cB,cG⟩:J.aW),(⟨(⟨v10,v11,df,dN,eh⟩:J.aQ)⟩:J.ch),fr,fS,g0⟩:J.bf) a0 lz v2];simp only [sM,a6,R0];simp only [bR]
 kernel_rfl)
noncomputable def ala (F:Nat):aX aU:=(ak' F).rt 103 ⟨[.p (.B 0)],[fh,.m 3 4],[.p (.i .i64)],[fh,.m 3 4],Int,fun d=>BB F (⟨(dM d.2.1),(gz d.2.1.2.2.2.2.2.2.2),d.2.1.2.2.2.2.2.2.2.2.2.2.2.2.1,d.2.1.2.2.2.2.2.2.2.2.2.2.2.2.2.1,d.2.2.1⟩:J.bf),fun d r=>((r,()),((d.2.1.1,d.2.1.2.1,d.2.1.2.2.1,d.2.1.2.2.2.1,d.2.1.2.2.2.2.1,d.2.1.2.2.2.2.2.1,d.2.1.2.2.2.2.2.2.1,d.2.1.2.2.2.2.2.2.2.1,d.2.1.2.2.2.2.2.2.2.2.1,d.2.1.2.2.2.2.2.2.2.2.2.1,d.2.1.2.2.2.2.2.2.2.2.2.2.1,d.2.1.2.2.2.2.2.2.2.2.2.2.2.1,d.2.1.2.2.2.2.2.2.2.2.2.2.2.2.1,d.2.1.2.2.2.2.2.2.2.2.2.2.2.2.2.1,(),()),d.2.2.1,()))⟩ fun aA aG=>by
 obtain ⟨_,_⟩:=aA
 obtain ⟨⟨(a0:List Int),(v1:Int),(v2:Int),(bs:Int),(v4:Int),(bY:List Int),(v6:Int),(cu:List J.aq),(cB:List Int),(cG:List (List J.Field)),(v10:List (List (List UInt8))),(v11:List (List J.Target)),(df:List Int),(dN:List Int),_,_⟩,(eh:List (Int × Bool)),_⟩:=aG
 conv=>rhs;simp only [BB,a6,R0]
 kernel_rfl
noncomputable def alb (F:Nat):aX aU:=(ala F).rt 99 ⟨[gW,.p (.i .i64),.p (.i .i64)],[],[.p (.b)],[],Bool,fun d=>vz (gz d.1.1) d.1.2.1 d.1.2.2.1,fun d r=>((r,()),())⟩ fun aA aG=>by
 conv=>rhs;simp only [vz,a6]
 kernel_rfl
noncomputable def ald (F:Nat):aX aU:=(alb F).bX 134 0 F ⟨[0,1,5,15,16],[.p (.B 0),.p (.i .i64),.p (.R 2),.p (.i .i64),.p (.i .i64)],[fh,.m 3 4,.r 3 false],
 [⟨⟨.nm,[5],[.p (.R 2)],[fh,.m 3 4,.r 3 false]⟩,List Int,fun d r=>(((),()),((d.2.1.1,d.2.1.2.1,d.2.1.2.2.1,d.2.1.2.2.2.1,d.2.1.2.2.2.2.1,d.2.1.2.2.2.2.2.1,d.2.1.2.2.2.2.2.2.1,d.2.1.2.2.2.2.2.2.2.1,d.2.1.2.2.2.2.2.2.2.2.1,d.2.1.2.2.2.2.2.2.2.2.2.1,d.2.1.2.2.2.2.2.2.2.2.2.2.1,d.2.1.2.2.2.2.2.2.2.2.2.2.2.1,d.2.1.2.2.2.2.2.2.2.2.2.2.2.2.1,d.2.1.2.2.2.2.2.2.2.2.2.2.2.2.2.1,(),()),d.2.2.1,r,()))⟩],
 fun k d=>sL d.1.2.1 (⟨(dM d.2.1),(gz d.2.1.2.2.2.2.2.2.2),d.2.1.2.2.2.2.2.2.2.2.2.2.2.2.1,d.2.1.2.2.2.2.2.2.2.2.2.2.2.2.2.1,d.2.2.1⟩:J.bf) d.1.2.2.2.1 k d.2.2.2.1 d.1.2.2.2.2.1⟩ (bJ.bW (fun d=>rfl) fun k aA aG q h=>by
 conv=>rhs;simp only [sL,a6];simp only [bR]
 kernel_rfl)
noncomputable def ale (F:Nat):aX aU:=(ald F).rt 134 ⟨[.p (.B 0),.p (.i .i64)],[fh,.m 3 4],[.p (.l 3)],[fh,.m 3 4],List Int,fun d=>ob F (⟨(dM d.2.1),(gz d.2.1.2.2.2.2.2.2.2),d.2.1.2.2.2.2.2.2.2.2.2.2.2.2.1,d.2.1.2.2.2.2.2.2.2.2.2.2.2.2.2.1,d.2.2.1⟩:J.bf) d.1.2.1,fun d r=>((r,()),((d.2.1.1,d.2.1.2.1,d.2.1.2.2.1,d.2.1.2.2.2.1,d.2.1.2.2.2.2.1,d.2.1.2.2.2.2.2.1,d.2.1.2.2.2.2.2.2.1,d.2.1.2.2.2.2.2.2.2.1,d.2.1.2.2.2.2.2.2.2.2.1,d.2.1.2.2.2.2.2.2.2.2.2.1,d.2.1.2.2.2.2.2.2.2.2.2.2.1,d.2.1.2.2.2.2.2.2.2.2.2.2.2.1,d.2.1.2.2.2.2.2.2.2.2.2.2.2.2.1,d.2.1.2.2.2.2.2.2.2.2.2.2.2.2.2.1,(),()),d.2.2.1,()))⟩ fun aA aG=>by
 conv=>rhs;simp only [ob,a6]
 kernel_rfl
noncomputable def alf (F:Nat):aX aU:=(ale F).rt 136 ⟨[.p (.i .i64)],[],[.p (.b)],[],Bool,fun d=>Pj d.1.1,fun d r=>((r,()),())⟩ fun aA aG=>by
 conv=>rhs;simp only [Pj,a6]
 kernel_rfl
noncomputable def alg (F:Nat):aX aU:=(alf F).rt 137 ⟨[.p (.B 0),.p (.i .i64)],[fh,.m 3 4],[.p (.b)],[fh,.m 3 4],Bool,fun d=>BA (⟨(dM d.2.1),(gz d.2.1.2.2.2.2.2.2.2),d.2.1.2.2.2.2.2.2.2.2.2.2.2.2.1,d.2.1.2.2.2.2.2.2.2.2.2.2.2.2.2.1,d.2.2.1⟩:J.bf) d.1.2.1,fun d r=>((r,()),((d.2.1.1,d.2.1.2.1,d.2.1.2.2.1,d.2.1.2.2.2.1,d.2.1.2.2.2.2.1,d.2.1.2.2.2.2.2.1,d.2.1.2.2.2.2.2.2.1,d.2.1.2.2.2.2.2.2.2.1,d.2.1.2.2.2.2.2.2.2.2.1,d.2.1.2.2.2.2.2.2.2.2.2.1,d.2.1.2.2.2.2.2.2.2.2.2.2.1,d.2.1.2.2.2.2.2.2.2.2.2.2.2.1,d.2.1.2.2.2.2.2.2.2.2.2.2.2.2.1,d.2.1.2.2.2.2.2.2.2.2.2.2.2.2.2.1,(),()),d.2.2.1,()))⟩ fun aA aG=>by
 conv=>rhs;simp only [BA,a6]
 kernel_rfl
noncomputable def alh (F:Nat):aX aU:=(alg F).rt 139 ⟨[.p (.i .i64),.p (.B 0)],[.c 60 [.B 1],hF,.m 3 4],[.p (.b)],[.c 60 [.B 1],hF,.m 3 4],Bool,fun d=>IH d.1.1 (⟨(dM d.2.2.1),(gz d.2.2.1.2.2.2.2.2.2.2),d.2.2.1.2.2.2.2.2.2.2.2.2.2.2.2.1,d.2.2.1.2.2.2.2.2.2.2.2.2.2.2.2.2.1,d.2.2.2.1⟩:J.bf),fun d r=>((r,()),(((),()),(d.2.2.1.1,d.2.2.1.2.1,d.2.2.1.2.2.1,d.2.2.1.2.2.2.1,d.2.2.1.2.2.2.2.1,d.2.2.1.2.2.2.2.2.1,d.2.2.1.2.2.2.2.2.2.1,d.2.2.1.2.2.2.2.2.2.2.1,d.2.2.1.2.2.2.2.2.2.2.2.1,d.2.2.1.2.2.2.2.2.2.2.2.2.1,d.2.2.1.2.2.2.2.2.2.2.2.2.2.1,d.2.2.1.2.2.2.2.2.2.2.2.2.2.2.1,d.2.2.1.2.2.2.2.2.2.2.2.2.2.2.2.1,d.2.2.1.2.2.2.2.2.2.2.2.2.2.2.2.2.1,(),()),d.2.2.2.1,()))⟩ fun aA aG=>by
 conv=>rhs;simp only [IH,a6]
 kernel_rfl
noncomputable def ali (F:Nat):aX aU:=(alh F).rt 68 ⟨[.p (.B 0),.p (.i .i64)],[fh,.m 3 4],[.p (.b)],[fh,.m 3 4],Bool,fun d=>Bz (⟨(dM d.2.1),(gz d.2.1.2.2.2.2.2.2.2),d.2.1.2.2.2.2.2.2.2.2.2.2.2.2.1,d.2.1.2.2.2.2.2.2.2.2.2.2.2.2.2.1,d.2.2.1⟩:J.bf) d.1.2.1,fun d r=>((r,()),((d.2.1.1,d.2.1.2.1,d.2.1.2.2.1,d.2.1.2.2.2.1,d.2.1.2.2.2.2.1,d.2.1.2.2.2.2.2.1,d.2.1.2.2.2.2.2.2.1,d.2.1.2.2.2.2.2.2.2.1,d.2.1.2.2.2.2.2.2.2.2.1,d.2.1.2.2.2.2.2.2.2.2.2.1,d.2.1.2.2.2.2.2.2.2.2.2.2.1,d.2.1.2.2.2.2.2.2.2.2.2.2.2.1,d.2.1.2.2.2.2.2.2.2.2.2.2.2.2.1,d.2.1.2.2.2.2.2.2.2.2.2.2.2.2.2.1,(),()),d.2.2.1,()))⟩ fun aA aG=>by
 conv=>rhs;simp only [Bz,a6]
 kernel_rfl
noncomputable def alj (F:Nat):aX aU:=(ali F).rt 67 ⟨[.p (.i .i64),.p (.B 0)],[.c 60 [.B 1],hF,.m 3 4],[.p (.b)],[.c 60 [.B 1],hF,.m 3 4],Bool,fun d=>L7 d.1.1 (⟨(dM d.2.2.1),(gz d.2.2.1.2.2.2.2.2.2.2),d.2.2.1.2.2.2.2.2.2.2.2.2.2.2.2.1,d.2.2.1.2.2.2.2.2.2.2.2.2.2.2.2.2.1,d.2.2.2.1⟩:J.bf),fun d r=>((r,()),(((),()),(d.2.2.1.1,d.2.2.1.2.1,d.2.2.1.2.2.1,d.2.2.1.2.2.2.1,d.2.2.1.2.2.2.2.1,d.2.2.1.2.2.2.2.2.1,d.2.2.1.2.2.2.2.2.2.1,d.2.2.1.2.2.2.2.2.2.2.1,d.2.2.1.2.2.2.2.2.2.2.2.1,d.2.2.1.2.2.2.2.2.2.2.2.2.1,d.2.2.1.2.2.2.2.2.2.2.2.2.2.1,d.2.2.1.2.2.2.2.2.2.2.2.2.2.2.1,d.2.2.1.2.2.2.2.2.2.2.2.2.2.2.2.1,d.2.2.1.2.2.2.2.2.2.2.2.2.2.2.2.2.1,(),()),d.2.2.2.1,()))⟩ fun aA aG=>by
 conv=>rhs;simp only [L7,a6]
 kernel_rfl
noncomputable def OU (k:Nat) (s_:List Int) (tJ:Int) (ak:Int):=c9 ((s_.length:Int)=ak/\True) (ba (wX s_ k tJ))
theorem SF (k:Nat) (s_:List Int) (tJ:Int):ba (wX s_ k tJ)=OU k s_ tJ (s_.length:Int):=(dy ⟨rfl,trivial⟩).symm
noncomputable def alk (F:Nat):aX aU:=(alj F).bX 106 0 F ⟨[0,1,7,8],[.p (.l 3),.f 136 [],.p (.i .i64),.p (.i .i64)],[],
 [⟨⟨.nm,[],[],[]⟩,Unit,fun d r=>((),())⟩,
  ⟨⟨.rt,[4],[.p (.i .i64)],[]⟩,Int,fun d r=>((r,()),())⟩],
 fun k d=>OU k d.1.1 d.1.2.2.2.1 d.1.2.2.1⟩ (bJ.bW (fun d=>dx) fun k aA aG q h=>by
 obtain ⟨(a0:List Int),_,(v1:Int),(v2:Int),_⟩:=aA
 obtain ⟨ay,_⟩:=dZ h
 dsimp only at ay
 obtain ⟨rfl,_⟩:=ay
 conv=>rhs;change Option.map (α:=Unit ⊕ Int) _ (OU (k+ 1) a0 v2 (a0.length:Int));rw [<-SF (k+ 1) a0 v2];simp only [wX,a6,SF];simp only [bR]
 kernel_rfl)
noncomputable def alm (F:Nat):aX aU:=(alk F).rt 106 ⟨[.p (.l 3),.f 136 []],[],[.p (.i .i64)],[],Int,fun d=>KL F d.1.1,fun d r=>((r,()),())⟩ fun aA aG=>by
 obtain ⟨(a0:List Int),_,_⟩:=aA
 conv=>rhs;simp only [KL,a6,SF]
 kernel_rfl
noncomputable def OT (k:Nat) (s_:List Int) (ct:J.bf) (jr:Int) (ak:Int):=c9 ((s_.length:Int)=ak/\True) (ba (wW s_ ct k jr))
theorem SE (k:Nat) (s_:List Int) (ct:J.bf) (jr:Int):ba (wW s_ ct k jr)=OT k s_ ct jr (s_.length:Int):=(dy ⟨rfl,trivial⟩).symm
noncomputable def aln (F:Nat):aX aU:=(alm F).Fj 106 0 F ⟨[0,1,7,8],[.p (.l 3),.f 139 [.B 0],.p (.i .i64),.p (.i .i64)],[.c 60 [.B 1],hF,.m 3 4],
 [⟨⟨.nm,[],[],[.c 60 [.B 1],hF,.m 3 4]⟩,Unit,fun d r=>((),(((),()),(d.2.2.1.1,d.2.2.1.2.1,d.2.2.1.2.2.1,d.2.2.1.2.2.2.1,d.2.2.1.2.2.2.2.1,d.2.2.1.2.2.2.2.2.1,d.2.2.1.2.2.2.2.2.2.1,d.2.2.1.2.2.2.2.2.2.2.1,d.2.2.1.2.2.2.2.2.2.2.2.1,d.2.2.1.2.2.2.2.2.2.2.2.2.1,d.2.2.1.2.2.2.2.2.2.2.2.2.2.1,d.2.2.1.2.2.2.2.2.2.2.2.2.2.2.1,d.2.2.1.2.2.2.2.2.2.2.2.2.2.2.2.1,d.2.2.1.2.2.2.2.2.2.2.2.2.2.2.2.2.1,(),()),d.2.2.2.1,()))⟩,
  ⟨⟨.rt,[4],[.p (.i .i64)],[.c 60 [.B 1],hF,.m 3 4]⟩,Int,fun d r=>((r,()),(((),()),(d.2.2.1.1,d.2.2.1.2.1,d.2.2.1.2.2.1,d.2.2.1.2.2.2.1,d.2.2.1.2.2.2.2.1,d.2.2.1.2.2.2.2.2.1,d.2.2.1.2.2.2.2.2.2.1,d.2.2.1.2.2.2.2.2.2.2.1,d.2.2.1.2.2.2.2.2.2.2.2.1,d.2.2.1.2.2.2.2.2.2.2.2.2.1,d.2.2.1.2.2.2.2.2.2.2.2.2.2.1,d.2.2.1.2.2.2.2.2.2.2.2.2.2.2.1,d.2.2.1.2.2.2.2.2.2.2.2.2.2.2.2.1,d.2.2.1.2.2.2.2.2.2.2.2.2.2.2.2.2.1,(),()),d.2.2.2.1,()))⟩],
 fun k d=>OT k d.1.1 (⟨(dM d.2.2.1),(gz d.2.2.1.2.2.2.2.2.2.2),d.2.2.1.2.2.2.2.2.2.2.2.2.2.2.2.1,d.2.2.1.2.2.2.2.2.2.2.2.2.2.2.2.2.1,d.2.2.2.1⟩:J.bf) d.1.2.2.2.1 d.1.2.2.1⟩ (bJ.bW (fun d=>dx) fun k aA aG q h=>by
 obtain ⟨(a0:List Int),⟨_,_⟩,(v1:Int),(v2:Int),_⟩:=aA
 obtain ⟨⟨_,_⟩,⟨(bs:List Int),(v4:Int),(bY:Int),(v6:Int),(cu:Int),(cB:List Int),(cG:Int),(v10:List J.aq),(v11:List Int),(df:List (List J.Field)),(dN:List (List (List UInt8))),(eh:List (List J.Target)),(fr:List Int),(fS:List Int),_,_⟩,(g0:List (Int × Bool)),_⟩:=aG
 obtain ⟨ay,_⟩:=dZ h
 dsimp only at ay
 obtain ⟨rfl,_⟩:=ay
 conv=>rhs;change Option.map (α:=Unit ⊕ Int) _ (OT (k+ 1) a0 (⟨(⟨bs,v4,bY,v6,cu,cB,cG⟩:J.aW),(⟨(⟨v10,v11,df,dN,eh⟩:J.aQ)⟩:J.ch),fr,fS,g0⟩:J.bf) v2 (a0.length:Int));rw [<-SE (k+ 1) a0 (⟨(⟨bs,v4,bY,v6,cu,cB,cG⟩:J.aW),(⟨(⟨v10,v11,df,dN,eh⟩:J.aQ)⟩:J.ch),fr,fS,g0⟩:J.bf) v2];simp only [wW,a6,SE];simp only [bR]
 kernel_rfl)
noncomputable def alp (F:Nat):aX aU:=(aln F).yB 106 ⟨[.p (.l 3),.f 139 [.B 0]],[.c 60 [.B 1],hF,.m 3 4],[.p (.i .i64)],[.c 60 [.B 1],hF,.m 3 4],Int,fun d=>KK F d.1.1 (⟨(dM d.2.2.1),(gz d.2.2.1.2.2.2.2.2.2.2),d.2.2.1.2.2.2.2.2.2.2.2.2.2.2.2.1,d.2.2.1.2.2.2.2.2.2.2.2.2.2.2.2.2.1,d.2.2.2.1⟩:J.bf),fun d r=>((r,()),(((),()),(d.2.2.1.1,d.2.2.1.2.1,d.2.2.1.2.2.1,d.2.2.1.2.2.2.1,d.2.2.1.2.2.2.2.1,d.2.2.1.2.2.2.2.2.1,d.2.2.1.2.2.2.2.2.2.1,d.2.2.1.2.2.2.2.2.2.2.1,d.2.2.1.2.2.2.2.2.2.2.2.1,d.2.2.1.2.2.2.2.2.2.2.2.2.1,d.2.2.1.2.2.2.2.2.2.2.2.2.2.1,d.2.2.1.2.2.2.2.2.2.2.2.2.2.2.1,d.2.2.1.2.2.2.2.2.2.2.2.2.2.2.2.1,d.2.2.1.2.2.2.2.2.2.2.2.2.2.2.2.2.1,(),()),d.2.2.2.1,()))⟩ fun aA aG=>by
 obtain ⟨(a0:List Int),⟨_,_⟩,_⟩:=aA
 obtain ⟨⟨_,_⟩,⟨(v1:List Int),(v2:Int),(bs:Int),(v4:Int),(bY:Int),(v6:List Int),(cu:Int),(cB:List J.aq),(cG:List Int),(v10:List (List J.Field)),(v11:List (List (List UInt8))),(df:List (List J.Target)),(dN:List Int),(eh:List Int),_,_⟩,(fr:List (Int × Bool)),_⟩:=aG
 conv=>rhs;simp only [KK,a6,SE]
 kernel_rfl
noncomputable def OV (k:Nat) (s_:List Int) (ct:J.bf) (jr:Int) (ak:Int):=c9 ((s_.length:Int)=ak/\True) (ba (wY s_ ct k jr))
theorem SG (k:Nat) (s_:List Int) (ct:J.bf) (jr:Int):ba (wY s_ ct k jr)=OV k s_ ct jr (s_.length:Int):=(dy ⟨rfl,trivial⟩).symm
noncomputable def alq (F:Nat):aX aU:=(alp F).Fj 106 0 F ⟨[0,1,7,8],[.p (.l 3),.f 67 [.B 0],.p (.i .i64),.p (.i .i64)],[.c 60 [.B 1],hF,.m 3 4],
 [⟨⟨.nm,[],[],[.c 60 [.B 1],hF,.m 3 4]⟩,Unit,fun d r=>((),(((),()),(d.2.2.1.1,d.2.2.1.2.1,d.2.2.1.2.2.1,d.2.2.1.2.2.2.1,d.2.2.1.2.2.2.2.1,d.2.2.1.2.2.2.2.2.1,d.2.2.1.2.2.2.2.2.2.1,d.2.2.1.2.2.2.2.2.2.2.1,d.2.2.1.2.2.2.2.2.2.2.2.1,d.2.2.1.2.2.2.2.2.2.2.2.2.1,d.2.2.1.2.2.2.2.2.2.2.2.2.2.1,d.2.2.1.2.2.2.2.2.2.2.2.2.2.2.1,d.2.2.1.2.2.2.2.2.2.2.2.2.2.2.2.1,d.2.2.1.2.2.2.2.2.2.2.2.2.2.2.2.2.1,(),()),d.2.2.2.1,()))⟩,
  ⟨⟨.rt,[4],[.p (.i .i64)],[.c 60 [.B 1],hF,.m 3 4]⟩,Int,fun d r=>((r,()),(((),()),(d.2.2.1.1,d.2.2.1.2.1,d.2.2.1.2.2.1,d.2.2.1.2.2.2.1,d.2.2.1.2.2.2.2.1,d.2.2.1.2.2.2.2.2.1,d.2.2.1.2.2.2.2.2.2.1,d.2.2.1.2.2.2.2.2.2.2.1,d.2.2.1.2.2.2.2.2.2.2.2.1,d.2.2.1.2.2.2.2.2.2.2.2.2.1,d.2.2.1.2.2.2.2.2.2.2.2.2.2.1,d.2.2.1.2.2.2.2.2.2.2.2.2.2.2.1,d.2.2.1.2.2.2.2.2.2.2.2.2.2.2.2.1,d.2.2.1.2.2.2.2.2.2.2.2.2.2.2.2.2.1,(),()),d.2.2.2.1,()))⟩],
 fun k d=>OV k d.1.1 (⟨(dM d.2.2.1),(gz d.2.2.1.2.2.2.2.2.2.2),d.2.2.1.2.2.2.2.2.2.2.2.2.2.2.2.1,d.2.2.1.2.2.2.2.2.2.2.2.2.2.2.2.2.1,d.2.2.2.1⟩:J.bf) d.1.2.2.2.1 d.1.2.2.1⟩ (bJ.bW (fun d=>dx) fun k aA aG q h=>by
 obtain ⟨(a0:List Int),⟨_,_⟩,(v1:Int),(v2:Int),_⟩:=aA
 obtain ⟨⟨_,_⟩,⟨(bs:List Int),(v4:Int),(bY:Int),(v6:Int),(cu:Int),(cB:List Int),(cG:Int),(v10:List J.aq),(v11:List Int),(df:List (List J.Field)),(dN:List (List (List UInt8))),(eh:List (List J.Target)),(fr:List Int),(fS:List Int),_,_⟩,(g0:List (Int × Bool)),_⟩:=aG
 obtain ⟨ay,_⟩:=dZ h
 dsimp only at ay
 obtain ⟨rfl,_⟩:=ay
 conv=>rhs;change Option.map (α:=Unit ⊕ Int) _ (OV (k+ 1) a0 (⟨(⟨bs,v4,bY,v6,cu,cB,cG⟩:J.aW),(⟨(⟨v10,v11,df,dN,eh⟩:J.aQ)⟩:J.ch),fr,fS,g0⟩:J.bf) v2 (a0.length:Int));rw [<-SG (k+ 1) a0 (⟨(⟨bs,v4,bY,v6,cu,cB,cG⟩:J.aW),(⟨(⟨v10,v11,df,dN,eh⟩:J.aQ)⟩:J.ch),fr,fS,g0⟩:J.bf) v2];simp only [wY,a6,SG];simp only [bR]
 kernel_rfl)
noncomputable def alr (F:Nat):aX aU:=(alq F).yB 106 ⟨[.p (.l 3),.f 67 [.B 0]],[.c 60 [.B 1],hF,.m 3 4],[.p (.i .i64)],[.c 60 [.B 1],hF,.m 3 4],Int,fun d=>KM F d.1.1 (⟨(dM d.2.2.1),(gz d.2.2.1.2.2.2.2.2.2.2),d.2.2.1.2.2.2.2.2.2.2.2.2.2.2.2.1,d.2.2.1.2.2.2.2.2.2.2.2.2.2.2.2.2.1,d.2.2.2.1⟩:J.bf),fun d r=>((r,()),(((),()),(d.2.2.1.1,d.2.2.1.2.1,d.2.2.1.2.2.1,d.2.2.1.2.2.2.1,d.2.2.1.2.2.2.2.1,d.2.2.1.2.2.2.2.2.1,d.2.2.1.2.2.2.2.2.2.1,d.2.2.1.2.2.2.2.2.2.2.1,d.2.2.1.2.2.2.2.2.2.2.2.1,d.2.2.1.2.2.2.2.2.2.2.2.2.1,d.2.2.1.2.2.2.2.2.2.2.2.2.2.1,d.2.2.1.2.2.2.2.2.2.2.2.2.2.2.1,d.2.2.1.2.2.2.2.2.2.2.2.2.2.2.2.1,d.2.2.1.2.2.2.2.2.2.2.2.2.2.2.2.2.1,(),()),d.2.2.2.1,()))⟩ fun aA aG=>by
 obtain ⟨(a0:List Int),⟨_,_⟩,_⟩:=aA
 obtain ⟨⟨_,_⟩,⟨(v1:List Int),(v2:Int),(bs:Int),(v4:Int),(bY:Int),(v6:List Int),(cu:Int),(cB:List J.aq),(cG:List Int),(v10:List (List J.Field)),(v11:List (List (List UInt8))),(df:List (List J.Target)),(dN:List Int),(eh:List Int),_,_⟩,(fr:List (Int × Bool)),_⟩:=aG
 conv=>rhs;simp only [KM,a6,SG]
 kernel_rfl
noncomputable def als (F:Nat):aX aU:=(alr F).rt 66 ⟨[.p (.l 3),.f 136 []],[],[.p (.b)],[],Bool,fun d=>KH F d.1.1,fun d r=>((r,()),())⟩ fun aA aG=>by
 conv=>rhs;simp only [KH,a6]
 kernel_rfl
noncomputable def alu (F:Nat):aX aU:=(als F).yB 66 ⟨[.p (.l 3),.f 139 [.B 0]],[.c 60 [.B 1],hF,.m 3 4],[.p (.b)],[.c 60 [.B 1],hF,.m 3 4],Bool,fun d=>KG F d.1.1 (⟨(dM d.2.2.1),(gz d.2.2.1.2.2.2.2.2.2.2),d.2.2.1.2.2.2.2.2.2.2.2.2.2.2.2.1,d.2.2.1.2.2.2.2.2.2.2.2.2.2.2.2.2.1,d.2.2.2.1⟩:J.bf),fun d r=>((r,()),(((),()),(d.2.2.1.1,d.2.2.1.2.1,d.2.2.1.2.2.1,d.2.2.1.2.2.2.1,d.2.2.1.2.2.2.2.1,d.2.2.1.2.2.2.2.2.1,d.2.2.1.2.2.2.2.2.2.1,d.2.2.1.2.2.2.2.2.2.2.1,d.2.2.1.2.2.2.2.2.2.2.2.1,d.2.2.1.2.2.2.2.2.2.2.2.2.1,d.2.2.1.2.2.2.2.2.2.2.2.2.2.1,d.2.2.1.2.2.2.2.2.2.2.2.2.2.2.1,d.2.2.1.2.2.2.2.2.2.2.2.2.2.2.2.1,d.2.2.1.2.2.2.2.2.2.2.2.2.2.2.2.2.1,(),()),d.2.2.2.1,()))⟩ fun aA aG=>by
 conv=>rhs;simp only [KG,a6]
 kernel_rfl
noncomputable def alv (F:Nat):aX aU:=(alu F).yB 66 ⟨[.p (.l 3),.f 67 [.B 0]],[.c 60 [.B 1],hF,.m 3 4],[.p (.b)],[.c 60 [.B 1],hF,.m 3 4],Bool,fun d=>KI F d.1.1 (⟨(dM d.2.2.1),(gz d.2.2.1.2.2.2.2.2.2.2),d.2.2.1.2.2.2.2.2.2.2.2.2.2.2.2.1,d.2.2.1.2.2.2.2.2.2.2.2.2.2.2.2.2.1,d.2.2.2.1⟩:J.bf),fun d r=>((r,()),(((),()),(d.2.2.1.1,d.2.2.1.2.1,d.2.2.1.2.2.1,d.2.2.1.2.2.2.1,d.2.2.1.2.2.2.2.1,d.2.2.1.2.2.2.2.2.1,d.2.2.1.2.2.2.2.2.2.1,d.2.2.1.2.2.2.2.2.2.2.1,d.2.2.1.2.2.2.2.2.2.2.2.1,d.2.2.1.2.2.2.2.2.2.2.2.2.1,d.2.2.1.2.2.2.2.2.2.2.2.2.2.1,d.2.2.1.2.2.2.2.2.2.2.2.2.2.2.1,d.2.2.1.2.2.2.2.2.2.2.2.2.2.2.2.1,d.2.2.1.2.2.2.2.2.2.2.2.2.2.2.2.2.1,(),()),d.2.2.2.1,()))⟩ fun aA aG=>by
 conv=>rhs;simp only [KI,a6]
 kernel_rfl
noncomputable def Ob (k:Nat) (aK:J.bf) (np:List Int) (tC:Int) (bU:Int):=c9 ((np.length:Int)=bU/\True) (ba (sO aK np k tC))
theorem R5 (k:Nat) (aK:J.bf) (np:List Int) (tC:Int):ba (sO aK np k tC)=Ob k aK np tC (np.length:Int):=(dy ⟨rfl,trivial⟩).symm
noncomputable def alw (F:Nat):aX aU:=(alv F).bX 104 2 F ⟨[0,10,11,12,18,19,20],[.p (.B 0),.p (.l 3),.p (.i .i64),.p (.i .i64),.p (.l 3),.p (.i .i64),.p (.i .i64)],[fh,.m 3 4],
 [⟨⟨.nm,[0,10,11,12],[.p (.B 0),.p (.l 3),.p (.i .i64),.p (.i .i64)],[fh,.m 3 4]⟩,Unit,fun d r=>(((),d.1.2.1,d.1.2.2.1,d.1.2.2.2.1,()),((d.2.1.1,d.2.1.2.1,d.2.1.2.2.1,d.2.1.2.2.2.1,d.2.1.2.2.2.2.1,d.2.1.2.2.2.2.2.1,d.2.1.2.2.2.2.2.2.1,d.2.1.2.2.2.2.2.2.2.1,d.2.1.2.2.2.2.2.2.2.2.1,d.2.1.2.2.2.2.2.2.2.2.2.1,d.2.1.2.2.2.2.2.2.2.2.2.2.1,d.2.1.2.2.2.2.2.2.2.2.2.2.2.1,d.2.1.2.2.2.2.2.2.2.2.2.2.2.2.1,d.2.1.2.2.2.2.2.2.2.2.2.2.2.2.2.1,(),()),d.2.2.1,()))⟩,
  ⟨⟨.rt,[2],[.p (.i .i64)],[fh,.m 3 4]⟩,Int,fun d r=>((r,()),((d.2.1.1,d.2.1.2.1,d.2.1.2.2.1,d.2.1.2.2.2.1,d.2.1.2.2.2.2.1,d.2.1.2.2.2.2.2.1,d.2.1.2.2.2.2.2.2.1,d.2.1.2.2.2.2.2.2.2.1,d.2.1.2.2.2.2.2.2.2.2.1,d.2.1.2.2.2.2.2.2.2.2.2.1,d.2.1.2.2.2.2.2.2.2.2.2.2.1,d.2.1.2.2.2.2.2.2.2.2.2.2.2.1,d.2.1.2.2.2.2.2.2.2.2.2.2.2.2.1,d.2.1.2.2.2.2.2.2.2.2.2.2.2.2.2.1,(),()),d.2.2.1,()))⟩],
 fun k d=>Ob k (⟨(dM d.2.1),(gz d.2.1.2.2.2.2.2.2.2),d.2.1.2.2.2.2.2.2.2.2.2.2.2.2.1,d.2.1.2.2.2.2.2.2.2.2.2.2.2.2.2.1,d.2.2.1⟩:J.bf) d.1.2.2.2.2.1 d.1.2.2.2.2.2.2.1 d.1.2.2.2.2.2.1⟩ (bJ.bW (fun d=>dx) fun k aA aG q h=>by
 obtain ⟨_,(a0:List Int),(v1:Int),(v2:Int),(bs:List Int),(v4:Int),(bY:Int),_⟩:=aA
 obtain ⟨⟨(v6:List Int),(cu:Int),(cB:Int),(cG:Int),(v10:Int),(v11:List Int),(df:Int),(dN:List J.aq),(eh:List Int),(fr:List (List J.Field)),(fS:List (List (List UInt8))),(g0:List (List J.Target)),(lz:List Int),(CM:List Int),_,_⟩,(v20:List (Int × Bool)),_⟩:=aG
 obtain ⟨ay,_⟩:=dZ h
 dsimp only at ay
 obtain ⟨rfl,_⟩:=ay
 conv=>rhs;change Option.map (α:=Unit ⊕ Int) _ (Ob (k+ 1) (⟨(⟨v6,cu,cB,cG,v10,v11,df⟩:J.aW),(⟨(⟨dN,eh,fr,fS,g0⟩:J.aQ)⟩:J.ch),lz,CM,v20⟩:J.bf) bs bY (bs.length:Int));rw [<-R5 (k+ 1) (⟨(⟨v6,cu,cB,cG,v10,v11,df⟩:J.aW),(⟨(⟨dN,eh,fr,fS,g0⟩:J.aQ)⟩:J.ch),lz,CM,v20⟩:J.bf) bs bY];simp only [sO,a6,R5,auE];simp only [bR]
 kernel_rfl)
noncomputable def Oa (F:Nat) (k:Nat) (aK:J.bf) (oJ:List Int) (wx:Int) (ak:Int):=c9 ((oJ.length:Int)=ak/\True) (ba (vB F aK oJ k wx))
theorem R4 (F:Nat) (k:Nat) (aK:J.bf) (oJ:List Int) (wx:Int):ba (vB F aK oJ k wx)=Oa F k aK oJ wx (oJ.length:Int):=(dy ⟨rfl,trivial⟩).symm
noncomputable def alx (F:Nat):aX aU:=(alw F).bX 104 0 F ⟨[0,10,11,12],[.p (.B 0),.p (.l 3),.p (.i .i64),.p (.i .i64)],[fh,.m 3 4],
 [⟨⟨.nm,[0],[.p (.B 0)],[fh,.m 3 4]⟩,Unit,fun d r=>(((),()),((d.2.1.1,d.2.1.2.1,d.2.1.2.2.1,d.2.1.2.2.2.1,d.2.1.2.2.2.2.1,d.2.1.2.2.2.2.2.1,d.2.1.2.2.2.2.2.2.1,d.2.1.2.2.2.2.2.2.2.1,d.2.1.2.2.2.2.2.2.2.2.1,d.2.1.2.2.2.2.2.2.2.2.2.1,d.2.1.2.2.2.2.2.2.2.2.2.2.1,d.2.1.2.2.2.2.2.2.2.2.2.2.2.1,d.2.1.2.2.2.2.2.2.2.2.2.2.2.2.1,d.2.1.2.2.2.2.2.2.2.2.2.2.2.2.2.1,(),()),d.2.2.1,()))⟩,
  ⟨⟨.rt,[2],[.p (.i .i64)],[fh,.m 3 4]⟩,Int,fun d r=>((r,()),((d.2.1.1,d.2.1.2.1,d.2.1.2.2.1,d.2.1.2.2.2.1,d.2.1.2.2.2.2.1,d.2.1.2.2.2.2.2.1,d.2.1.2.2.2.2.2.2.1,d.2.1.2.2.2.2.2.2.2.1,d.2.1.2.2.2.2.2.2.2.2.1,d.2.1.2.2.2.2.2.2.2.2.2.1,d.2.1.2.2.2.2.2.2.2.2.2.2.1,d.2.1.2.2.2.2.2.2.2.2.2.2.2.1,d.2.1.2.2.2.2.2.2.2.2.2.2.2.2.1,d.2.1.2.2.2.2.2.2.2.2.2.2.2.2.2.1,(),()),d.2.2.1,()))⟩],
 fun k d=>Oa F k (⟨(dM d.2.1),(gz d.2.1.2.2.2.2.2.2.2),d.2.1.2.2.2.2.2.2.2.2.2.2.2.2.1,d.2.1.2.2.2.2.2.2.2.2.2.2.2.2.2.1,d.2.2.1⟩:J.bf) d.1.2.1 d.1.2.2.2.1 d.1.2.2.1⟩ (bJ.bW (fun d=>dx) fun k aA aG q h=>by
 obtain ⟨_,(a0:List Int),(v1:Int),(v2:Int),_⟩:=aA
 obtain ⟨⟨(bs:List Int),(v4:Int),(bY:Int),(v6:Int),(cu:Int),(cB:List Int),(cG:Int),(v10:List J.aq),(v11:List Int),(df:List (List J.Field)),(dN:List (List (List UInt8))),(eh:List (List J.Target)),(fr:List Int),(fS:List Int),_,_⟩,(g0:List (Int × Bool)),_⟩:=aG
 obtain ⟨ay,_⟩:=dZ h
 dsimp only at ay
 obtain ⟨rfl,_⟩:=ay
 conv=>rhs;change Option.map (α:=Unit ⊕ Int) _ (Oa F (k+ 1) (⟨(⟨bs,v4,bY,v6,cu,cB,cG⟩:J.aW),(⟨(⟨v10,v11,df,dN,eh⟩:J.aQ)⟩:J.ch),fr,fS,g0⟩:J.bf) a0 v2 (a0.length:Int));rw [<-R4 F (k+ 1) (⟨(⟨bs,v4,bY,v6,cu,cB,cG⟩:J.aW),(⟨(⟨v10,v11,df,dN,eh⟩:J.aQ)⟩:J.ch),fr,fS,g0⟩:J.bf) a0 v2];simp only [vB,a6,R5,R4];simp only [bR]
 kernel_rfl)
noncomputable def aly (F:Nat):aX aU:=(alx F).rt 104 ⟨[.p (.B 0)],[fh,.m 3 4],[.p (.i .i64)],[fh,.m 3 4],Int,fun d=>BD F (⟨(dM d.2.1),(gz d.2.1.2.2.2.2.2.2.2),d.2.1.2.2.2.2.2.2.2.2.2.2.2.2.1,d.2.1.2.2.2.2.2.2.2.2.2.2.2.2.2.1,d.2.2.1⟩:J.bf),fun d r=>((r,()),((d.2.1.1,d.2.1.2.1,d.2.1.2.2.1,d.2.1.2.2.2.1,d.2.1.2.2.2.2.1,d.2.1.2.2.2.2.2.1,d.2.1.2.2.2.2.2.2.1,d.2.1.2.2.2.2.2.2.2.1,d.2.1.2.2.2.2.2.2.2.2.1,d.2.1.2.2.2.2.2.2.2.2.2.1,d.2.1.2.2.2.2.2.2.2.2.2.2.1,d.2.1.2.2.2.2.2.2.2.2.2.2.2.1,d.2.1.2.2.2.2.2.2.2.2.2.2.2.2.1,d.2.1.2.2.2.2.2.2.2.2.2.2.2.2.2.1,(),()),d.2.2.1,()))⟩ fun aA aG=>by
 obtain ⟨_,_⟩:=aA
 obtain ⟨⟨(a0:List Int),(v1:Int),(v2:Int),(bs:Int),(v4:Int),(bY:List Int),(v6:Int),(cu:List J.aq),(cB:List Int),(cG:List (List J.Field)),(v10:List (List (List UInt8))),(v11:List (List J.Target)),(df:List Int),(dN:List Int),_,_⟩,(eh:List (Int × Bool)),_⟩:=aG
 conv=>rhs;simp only [BD,a6,R4]
 kernel_rfl
noncomputable def alz (F:Nat):aX aU:=(aly F).rt 172 ⟨[.p (.i .i64)],[],[.p (.b)],[],Bool,fun d=>HR d.1.1,fun d r=>((r,()),())⟩ fun aA aG=>by
 kernel_rfl
noncomputable def aia (F:Nat):aX aU:=(alz F).rt 160 ⟨[.p (.i .i64),.p (.i .i64)],[],[.p (.b)],[],Bool,fun d=>HQ d.1.1 d.1.2.1,fun d r=>((r,()),())⟩ fun aA aG=>by
 conv=>rhs;simp only [HQ,a6]
 kernel_rfl
noncomputable def aib (F:Nat):aX aU:=(aia F).rt 161 ⟨[.p (.i .i64)],[],[.p (.b)],[],Bool,fun d=>KN d.1.1,fun d r=>((r,()),())⟩ fun aA aG=>by
 kernel_rfl
noncomputable def OE (k:Nat) (p_:Int) (aO:List Int) (pW:Int) (rz:Int) (al:Int):=c9 ((aO.length:Int)=al/\True) (rK p_ aO k pW rz)
theorem St (k:Nat) (p_:Int) (aO:List Int) (pW:Int) (rz:Int):rK p_ aO k pW rz=OE k p_ aO pW rz (aO.length:Int):=(dy ⟨rfl,trivial⟩).symm
noncomputable def aic (F:Nat):aX aU:=(aib F).bX 138 0 F ⟨[0,1,6,7,8],[.p (.l 3),.p (.i .i64),.p (.i .i64),.p (.i .i64),.p (.i .i64)],[],
 [⟨⟨.nm,[0,1,6,7],[.p (.l 3),.p (.i .i64),.p (.i .i64),.p (.i .i64)],[]⟩,Int,fun d r=>((d.1.1,d.1.2.1,d.1.2.2.1,r,()),())⟩],
 fun k d=>OE k d.1.2.1 d.1.1 d.1.2.2.2.1 d.1.2.2.2.2.1 d.1.2.2.1⟩ (bJ.bW (fun d=>dx) fun k aA aG q h=>by
 obtain ⟨(a0:List Int),(v1:Int),(v2:Int),(bs:Int),(v4:Int),_⟩:=aA
 obtain ⟨ay,_⟩:=dZ h
 dsimp only at ay
 obtain ⟨rfl,_⟩:=ay
 conv=>rhs;change Option.map (α:=Int) _ (OE (k+ 1) v1 a0 bs v4 (a0.length:Int));rw [<-St (k+ 1) v1 a0 bs v4];simp only [rK,a6,St];simp only [bR]
 kernel_rfl)
noncomputable def aid (F:Nat):aX aU:=(aic F).rt 138 ⟨[.p (.l 3),.p (.i .i64)],[],[.p (.i .i64),.p (.b)],[],Int × Bool,fun d=>Ga F d.1.1 d.1.2.1,fun d r=>((r.1,r.2,()),())⟩ fun aA aG=>by
 obtain ⟨(a0:List Int),(v1:Int),_⟩:=aA
 conv=>rhs;simp only [Ga,a6,St]
 kernel_rfl
noncomputable def N8 (F:Nat) (k:Nat) (aK:J.bf) (pR:Int) (ak:List Int) (al:Int) (Bj:List Int):=c9 ((aK.H.aY:List Int)=ak/\(aK.H.aY.length:Int)=al/\(aK.H.aY:List Int)=Bj/\True) (ba (q0 F aK k pR))
theorem R1 (F:Nat) (k:Nat) (aK:J.bf) (pR:Int):ba (q0 F aK k pR)=N8 F k aK pR aK.H.aY (aK.H.aY.length:Int) aK.H.aY:=(dy ⟨rfl,rfl,rfl,trivial⟩).symm
noncomputable def aie (F:Nat):aX aU:=(aid F).bX 105 0 F ⟨[1,3,16,17,18],[.p (.B 0),.p (.l 3),.p (.l 3),.p (.i .i64),.p (.i .i64)],[.c 60 [.B 1],hF,.m 3 4],
 [⟨⟨.nm,[1,3],[.p (.B 0),.p (.l 3)],[.c 60 [.B 1],hF,.m 3 4]⟩,Unit,fun d r=>(((),d.1.2.1,()),(((),()),(d.2.2.1.1,d.2.2.1.2.1,d.2.2.1.2.2.1,d.2.2.1.2.2.2.1,d.2.2.1.2.2.2.2.1,d.2.2.1.2.2.2.2.2.1,d.2.2.1.2.2.2.2.2.2.1,d.2.2.1.2.2.2.2.2.2.2.1,d.2.2.1.2.2.2.2.2.2.2.2.1,d.2.2.1.2.2.2.2.2.2.2.2.2.1,d.2.2.1.2.2.2.2.2.2.2.2.2.2.1,d.2.2.1.2.2.2.2.2.2.2.2.2.2.2.1,d.2.2.1.2.2.2.2.2.2.2.2.2.2.2.2.1,d.2.2.1.2.2.2.2.2.2.2.2.2.2.2.2.2.1,(),()),d.2.2.2.1,()))⟩,
  ⟨⟨.rt,[2],[.p (.i .i64)],[.c 60 [.B 1],hF,.m 3 4]⟩,Int,fun d r=>((r,()),(((),()),(d.2.2.1.1,d.2.2.1.2.1,d.2.2.1.2.2.1,d.2.2.1.2.2.2.1,d.2.2.1.2.2.2.2.1,d.2.2.1.2.2.2.2.2.1,d.2.2.1.2.2.2.2.2.2.1,d.2.2.1.2.2.2.2.2.2.2.1,d.2.2.1.2.2.2.2.2.2.2.2.1,d.2.2.1.2.2.2.2.2.2.2.2.2.1,d.2.2.1.2.2.2.2.2.2.2.2.2.2.1,d.2.2.1.2.2.2.2.2.2.2.2.2.2.2.1,d.2.2.1.2.2.2.2.2.2.2.2.2.2.2.2.1,d.2.2.1.2.2.2.2.2.2.2.2.2.2.2.2.2.1,(),()),d.2.2.2.1,()))⟩],
 fun k d=>N8 F k (⟨(⟨d.2.2.1.1,d.2.2.1.2.1,d.2.2.1.2.2.1,d.2.2.1.2.2.2.1,d.2.2.1.2.2.2.2.1,d.1.2.1,d.2.2.1.2.2.2.2.2.2.1⟩:J.aW),(gz d.2.2.1.2.2.2.2.2.2.2),d.2.2.1.2.2.2.2.2.2.2.2.2.2.2.2.1,d.2.2.1.2.2.2.2.2.2.2.2.2.2.2.2.2.1,d.2.2.2.1⟩:J.bf) d.1.2.2.2.2.1 d.1.2.2.1 d.1.2.2.2.1 d.2.2.1.2.2.2.2.2.1⟩ (bJ.bW (fun d=>dx) fun k aA aG q h=>by
 obtain ⟨_,(a0:List Int),(v1:List Int),(v2:Int),(bs:Int),_⟩:=aA
 obtain ⟨⟨_,_⟩,⟨(v4:List Int),(bY:Int),(v6:Int),(cu:Int),(cB:Int),(cG:List Int),(v10:Int),(v11:List J.aq),(df:List Int),(dN:List (List J.Field)),(eh:List (List (List UInt8))),(fr:List (List J.Target)),(fS:List Int),(g0:List Int),_,_⟩,(lz:List (Int × Bool)),_⟩:=aG
 obtain ⟨ay,_⟩:=dZ h
 dsimp only at ay
 obtain ⟨rfl,rfl,rfl,_⟩:=ay
 conv=>rhs;change Option.map (α:=Unit ⊕ Int) _ (N8 F (k+ 1) (⟨(⟨v4,bY,v6,cu,cB,a0,v10⟩:J.aW),(⟨(⟨v11,df,dN,eh,fr⟩:J.aQ)⟩:J.ch),fS,g0,lz⟩:J.bf) bs (a0) (a0.length:Int) (a0));rw [<-R1 F (k+ 1) (⟨(⟨v4,bY,v6,cu,cB,a0,v10⟩:J.aW),(⟨(⟨v11,df,dN,eh,fr⟩:J.aQ)⟩:J.ch),fS,g0,lz⟩:J.bf) bs];simp only [q0,a6,R1,Rm];simp only [bR]
 kernel_rfl)
noncomputable def N9 (F:Nat) (k:Nat) (aK:J.bf) (tG:Int) (al:Int) (Bj:List Int) (anv:List Int):=c9 ((aK.aV.length:Int)=al/\(aK.H.aY:List Int)=Bj/\(aK.aV:List Int)=anv/\True) (ba (sN F aK k tG))
theorem R2 (F:Nat) (k:Nat) (aK:J.bf) (tG:Int):ba (sN F aK k tG)=N9 F k aK tG (aK.aV.length:Int) aK.H.aY aK.aV:=(dy ⟨rfl,rfl,rfl,trivial⟩).symm
noncomputable def aif (F:Nat):aX aU:=(aie F).bX 105 2 F ⟨[1,3,59,60,61],[.p (.B 0),.p (.l 3),.p (.l 3),.p (.i .i64),.p (.i .i64)],[.c 60 [.B 1],hF,.m 3 4],
 [⟨⟨.nm,[],[],[.c 60 [.B 1],hF,.m 3 4]⟩,Unit,fun d r=>((),(((),()),(d.2.2.1.1,d.2.2.1.2.1,d.2.2.1.2.2.1,d.2.2.1.2.2.2.1,d.2.2.1.2.2.2.2.1,d.2.2.1.2.2.2.2.2.1,d.2.2.1.2.2.2.2.2.2.1,d.2.2.1.2.2.2.2.2.2.2.1,d.2.2.1.2.2.2.2.2.2.2.2.1,d.2.2.1.2.2.2.2.2.2.2.2.2.1,d.2.2.1.2.2.2.2.2.2.2.2.2.2.1,d.2.2.1.2.2.2.2.2.2.2.2.2.2.2.1,d.2.2.1.2.2.2.2.2.2.2.2.2.2.2.2.1,d.2.2.1.2.2.2.2.2.2.2.2.2.2.2.2.2.1,(),()),d.2.2.2.1,()))⟩,
  ⟨⟨.rt,[2],[.p (.i .i64)],[.c 60 [.B 1],hF,.m 3 4]⟩,Int,fun d r=>((r,()),(((),()),(d.2.2.1.1,d.2.2.1.2.1,d.2.2.1.2.2.1,d.2.2.1.2.2.2.1,d.2.2.1.2.2.2.2.1,d.2.2.1.2.2.2.2.2.1,d.2.2.1.2.2.2.2.2.2.1,d.2.2.1.2.2.2.2.2.2.2.1,d.2.2.1.2.2.2.2.2.2.2.2.1,d.2.2.1.2.2.2.2.2.2.2.2.2.1,d.2.2.1.2.2.2.2.2.2.2.2.2.2.1,d.2.2.1.2.2.2.2.2.2.2.2.2.2.2.1,d.2.2.1.2.2.2.2.2.2.2.2.2.2.2.2.1,d.2.2.1.2.2.2.2.2.2.2.2.2.2.2.2.2.1,(),()),d.2.2.2.1,()))⟩],
 fun k d=>N9 F k (⟨(⟨d.2.2.1.1,d.2.2.1.2.1,d.2.2.1.2.2.1,d.2.2.1.2.2.2.1,d.2.2.1.2.2.2.2.1,d.1.2.1,d.2.2.1.2.2.2.2.2.2.1⟩:J.aW),(gz d.2.2.1.2.2.2.2.2.2.2),d.2.2.1.2.2.2.2.2.2.2.2.2.2.2.2.1,d.1.2.2.1,d.2.2.2.1⟩:J.bf) d.1.2.2.2.2.1 d.1.2.2.2.1 d.2.2.1.2.2.2.2.2.1 d.2.2.1.2.2.2.2.2.2.2.2.2.2.2.2.2.1⟩ (bJ.bW (fun d=>dx) fun k aA aG q h=>by
 obtain ⟨_,(a0:List Int),(v1:List Int),(v2:Int),(bs:Int),_⟩:=aA
 obtain ⟨⟨_,_⟩,⟨(v4:List Int),(bY:Int),(v6:Int),(cu:Int),(cB:Int),(cG:List Int),(v10:Int),(v11:List J.aq),(df:List Int),(dN:List (List J.Field)),(eh:List (List (List UInt8))),(fr:List (List J.Target)),(fS:List Int),(g0:List Int),_,_⟩,(lz:List (Int × Bool)),_⟩:=aG
 obtain ⟨ay,_⟩:=dZ h
 dsimp only at ay
 obtain ⟨rfl,rfl,rfl,_⟩:=ay
 conv=>rhs;change Option.map (α:=Unit ⊕ Int) _ (N9 F (k+ 1) (⟨(⟨v4,bY,v6,cu,cB,a0,v10⟩:J.aW),(⟨(⟨v11,df,dN,eh,fr⟩:J.aQ)⟩:J.ch),fS,v1,lz⟩:J.bf) bs (v1.length:Int) (a0) (v1));rw [<-R2 F (k+ 1) (⟨(⟨v4,bY,v6,cu,cB,a0,v10⟩:J.aW),(⟨(⟨v11,df,dN,eh,fr⟩:J.aQ)⟩:J.ch),fS,v1,lz⟩:J.bf) bs];simp only [sN,a6,R2];simp only [bR]
 kernel_rfl)
noncomputable def aih (F:Nat):aX aU:=(aif F).rt 105 ⟨[.p (.B 0)],[fh,.m 3 4],[.p (.i .i64)],[fh,.m 3 4],Int,fun d=>BC F (⟨(dM d.2.1),(gz d.2.1.2.2.2.2.2.2.2),d.2.1.2.2.2.2.2.2.2.2.2.2.2.2.1,d.2.1.2.2.2.2.2.2.2.2.2.2.2.2.2.1,d.2.2.1⟩:J.bf),fun d r=>((r,()),((d.2.1.1,d.2.1.2.1,d.2.1.2.2.1,d.2.1.2.2.2.1,d.2.1.2.2.2.2.1,d.2.1.2.2.2.2.2.1,d.2.1.2.2.2.2.2.2.1,d.2.1.2.2.2.2.2.2.2.1,d.2.1.2.2.2.2.2.2.2.2.1,d.2.1.2.2.2.2.2.2.2.2.2.1,d.2.1.2.2.2.2.2.2.2.2.2.2.1,d.2.1.2.2.2.2.2.2.2.2.2.2.2.1,d.2.1.2.2.2.2.2.2.2.2.2.2.2.2.1,d.2.1.2.2.2.2.2.2.2.2.2.2.2.2.2.1,(),()),d.2.2.1,()))⟩ fun aA aG=>by
 obtain ⟨_,_⟩:=aA
 obtain ⟨⟨(a0:List Int),(v1:Int),(v2:Int),(bs:Int),(v4:Int),(bY:List Int),(v6:Int),(cu:List J.aq),(cB:List Int),(cG:List (List J.Field)),(v10:List (List (List UInt8))),(v11:List (List J.Target)),(df:List Int),(dN:List Int),_,_⟩,(eh:List (Int × Bool)),_⟩:=aG
 conv=>rhs;simp only [BC,a6,R1,R2]
 kernel_rfl
theorem av0 (F:Nat) (aC:J.aW) (aR:J.aQ) {cw:Type} (f:(Option J.bf) × Int->Option cw):(q1 F aC aR).bind f=dD (iy (q1 F aC aR)) (fun p=>f (some p.1,p.2)) (fun e=>f (none,e)):=aba _ _
noncomputable def aii (F:Nat):aX aU:=(aih F).Kz 65 ⟨[iu,gW],[],[⟨⟨[.p (.B 0),.p (.i .i64)],[fh,.m 3 4]⟩,J.bf × Int,fun d r=>(((),r.2,()),((r.1.H.Words,r.1.H.ar,r.1.H.aV,r.1.H.a3,r.1.H.a1,r.1.H.aY,r.1.H.Next,r.1.S.K.bc,r.1.S.K.a8,r.1.S.K.Fields,r.1.S.K.Names,r.1.S.K.a9,r.1.ar,r.1.aV,(),()),r.1.dS,()))⟩,
 ⟨⟨[.p (.gx),.p (.i .i64)],[]⟩,Int,fun d r=>(((),r,()),())⟩],fun d=>iy (q1 F (dM d.1.1) (eX d.1.2.1))⟩ fun aA aG=>by
 conv=>rhs;simp only [q1,a6,abb,abd,abe,abf,abg,abh];simp only [Bg]
 kernel_rfl
theorem ab' (F:Nat) (aC:J.aW) (aR:J.aQ) {cw:Type} (f:(Option J.bf) × Int->Option cw):(jE F aC aR).bind f=dD (iy (jE F aC aR)) (fun p=>f (some p.1,p.2)) (fun e=>f (none,e)):=aba _ _
noncomputable def aij (F:Nat):aX aU:=(aii F).Kz 33 ⟨[iu,gW],[],[⟨⟨[.p (.B 0),.p (.i .i64)],[fh,.m 3 4]⟩,J.bf × Int,fun d r=>(((),r.2,()),((r.1.H.Words,r.1.H.ar,r.1.H.aV,r.1.H.a3,r.1.H.a1,r.1.H.aY,r.1.H.Next,r.1.S.K.bc,r.1.S.K.a8,r.1.S.K.Fields,r.1.S.K.Names,r.1.S.K.a9,r.1.ar,r.1.aV,(),()),r.1.dS,()))⟩,
 ⟨⟨[.p (.gx),.p (.i .i64)],[]⟩,Int,fun d r=>(((),r,()),())⟩],fun d=>iy (jE F (dM d.1.1) (eX d.1.2.1))⟩ fun aA aG=>by
 obtain ⟨⟨(a0:List Int),(v1:Int),(v2:Int),(bs:Int),(v4:Int),(bY:List Int),(v6:Int),_⟩,⟨(cu:List J.aq),(cB:List Int),(cG:List (List J.Field)),(v10:List (List (List UInt8))),(v11:List (List J.Target)),_⟩,_⟩:=aA
 conv=>rhs;simp only [jE,a6,abb,abd,abe,abf,abg,abh,av0];simp only [Bg]
 kernel_rfl
noncomputable def aik (F:Nat):aX aU:=(aij F).rt 35 ⟨[iu],[],[.p (.i .i64)],[],Int,fun d=>Vn (dM d.1.1),fun d r=>((r,()),())⟩ fun aA aG=>by
 conv=>rhs;simp only [Vn,a6]
 kernel_rfl
noncomputable def aim (F:Nat):aX aU:=(aik F).rt 19 ⟨[iu,gW],[],[.p (.i .i64),.p (.i .i64)],[],Int × Int,fun d=>ah2 F (dM d.1.1) (eX d.1.2.1),fun d r=>((r.1,r.2,()),())⟩ fun aA aG=>by
 obtain ⟨⟨(a0:List Int),(v1:Int),(v2:Int),(bs:Int),(v4:Int),(bY:List Int),(v6:Int),_⟩,⟨(cu:List J.aq),(cB:List Int),(cG:List (List J.Field)),(v10:List (List (List UInt8))),(v11:List (List J.Target)),_⟩,_⟩:=aA
 conv=>rhs;simp only [ah2,a6,ab']
 kernel_rfl
noncomputable def ain (F:Nat):aX aU:=(aim F).rt 47 ⟨[],[],[.p (.l 134)],[],List J.aq,fun d=>VM,fun d r=>((r,()),())⟩ fun aA aG=>by
 conv=>rhs;simp only [VM,a6]
 kernel_rfl
noncomputable def aio (F:Nat):aX aU:=(ain F).rt 48 ⟨[.p (.i .i64),.p (.i .i64)],[],[iu,.p (.i .i64)],[],J.aW × Int,fun d=>Zo d.1.1 d.1.2.1,fun d r=>(((r.1.Words,r.1.ar,r.1.aV,r.1.a3,r.1.a1,r.1.aY,r.1.Next,()),r.2,()),())⟩ fun aA aG=>by
 conv=>rhs;simp only [Zo,a6]
 kernel_rfl
noncomputable def aip (F:Nat):aX aU:=(aio F).rt 57 ⟨[gW,.p (.i .i64),.p (.i .i64)],[],[.p (.i .i64)],[],Int,fun d=>Ph (gz d.1.1) d.1.2.1 d.1.2.2.1,fun d r=>((r,()),())⟩ fun aA aG=>by
 conv=>rhs;simp only [Ph,a6]
 kernel_rfl
noncomputable def aiq (F:Nat):aX aU:=(aip F).rt 36 ⟨[iu],[],[.a [.R 0,.i .i64,.i .i64,.i .i64,.i .i64,.l 3,.i .i64]],[.r 3 false],J.aW,fun d=>oa (dM d.1.1),fun d r=>((((),r.ar,r.aV,r.a3,r.a1,r.aY,r.Next,()),()),(r.Words,()))⟩ fun aA aG=>by
 obtain ⟨⟨(a0:List Int),(v1:Int),(v2:Int),(bs:Int),(v4:Int),(bY:List Int),(v6:Int),_⟩,_⟩:=aA
 conv=>rhs;simp only [oa,a6,KF]
 kernel_rfl
noncomputable def air (F:Nat):aX aU:=(aiq F).rt 85 ⟨[.p (.B 0),.p (.i .i64),.p (.i .i64),.p (.b)],[abF,.r 3 true],[.p (.i .i64),.p (.b)],[abF,.r 3 true],Int × Bool × J.aW,fun d=>Pg (⟨d.2.2.1,d.2.1.2.1,d.2.1.2.2.1,d.2.1.2.2.2.1,d.2.1.2.2.2.2.1,d.2.1.2.2.2.2.2.1,d.2.1.2.2.2.2.2.2.1⟩:J.aW) d.1.2.1 d.1.2.2.1 d.1.2.2.2.1,fun d r=>((r.1,r.2.1,()),(((),d.2.1.2.1,d.2.1.2.2.1,r.2.2.a3,r.2.2.a1,d.2.1.2.2.2.2.2.1,r.2.2.Next,()),r.2.2.Words,()))⟩ fun aA aG=>by
 conv=>rhs;simp only [Pg,a6]
 kernel_rfl
noncomputable def ais (F:Nat):aX aU:=(air F).rt 49 ⟨[iu,gW,.p (.i .i64),.p (.i .i64),.p (.b)],[],[iu,.p (.i .i64),.p (.i .i64)],[],J.aW × Int × Int,fun d=>Zn F (dM d.1.1) (eX d.1.2.1) d.1.2.2.1 d.1.2.2.2.1 d.1.2.2.2.2.1,fun d r=>(((r.1.Words,r.1.ar,r.1.aV,r.1.a3,r.1.a1,r.1.aY,r.1.Next,()),r.2.1,r.2.2,()),())⟩ fun aA aG=>by
 obtain ⟨⟨(a0:List Int),(v1:Int),(v2:Int),(bs:Int),(v4:Int),(bY:List Int),(v6:Int),_⟩,⟨(cu:List J.aq),(cB:List Int),(cG:List (List J.Field)),(v10:List (List (List UInt8))),(v11:List (List J.Target)),_⟩,(df:Int),(dN:Int),(eh:Bool),_⟩:=aA
 conv=>rhs;simp only [Zn,a6,ab']
 kernel_rfl
noncomputable def ait (F:Nat):aX aU:=(ais F).rt 34 ⟨[.p (.B 0),.p (.l 3)],[fh,.m 3 4],[.p (.i .i64)],[fh,.m 3 4],Int,fun d=>xC F (⟨(dM d.2.1),(gz d.2.1.2.2.2.2.2.2.2),d.2.1.2.2.2.2.2.2.2.2.2.2.2.2.1,d.2.1.2.2.2.2.2.2.2.2.2.2.2.2.2.1,d.2.2.1⟩:J.bf) d.1.2.1,fun d r=>((r,()),((d.2.1.1,d.2.1.2.1,d.2.1.2.2.1,d.2.1.2.2.2.1,d.2.1.2.2.2.2.1,d.2.1.2.2.2.2.2.1,d.2.1.2.2.2.2.2.2.1,d.2.1.2.2.2.2.2.2.2.1,d.2.1.2.2.2.2.2.2.2.2.1,d.2.1.2.2.2.2.2.2.2.2.2.1,d.2.1.2.2.2.2.2.2.2.2.2.2.1,d.2.1.2.2.2.2.2.2.2.2.2.2.2.1,d.2.1.2.2.2.2.2.2.2.2.2.2.2.2.1,d.2.1.2.2.2.2.2.2.2.2.2.2.2.2.2.1,(),()),d.2.2.1,()))⟩ fun aA aG=>by
 conv=>rhs;simp only [xC,a6]
 kernel_rfl
noncomputable def aiu (F:Nat):aX aU:=(ait F).bX 123 0 F ⟨[0,1,5],[.p (.l 136),.p (.l 136),.p (.i .i64)],[],
 [⟨⟨.nm,[],[],[]⟩,Unit,fun d r=>((),())⟩,
  ⟨⟨.rt,[4],[.p (.b)],[]⟩,Bool,fun d r=>((r,()),())⟩],
 fun k d=>ba (yc d.1.1 d.1.2.1 k d.1.2.2.1)⟩ (bJ.bW (fun d=>rfl) fun k aA aG q h=>by
 conv=>rhs;simp only [yc,a6];simp only [bR]
 kernel_rfl)
noncomputable def aiv (F:Nat):aX aU:=(aiu F).rt 123 ⟨[.p (.l 136),.p (.l 136)],[],[.p (.b)],[],Bool,fun d=>AW F d.1.1 d.1.2.1,fun d r=>((r,()),())⟩ fun aA aG=>by
 conv=>rhs;simp only [AW,a6]
 kernel_rfl
noncomputable def aix (F:Nat):aX aU:=(aiv F).bX 148 0 F ⟨[0,1,5],[.p (.l 128),.p (.l 128),.p (.i .i64)],[],
 [⟨⟨.nm,[],[],[]⟩,Unit,fun d r=>((),())⟩,
  ⟨⟨.rt,[4],[.p (.b)],[]⟩,Bool,fun d r=>((r,()),())⟩],
 fun k d=>ba (nX d.1.1 d.1.2.1 k d.1.2.2.1)⟩ (bJ.bW (fun d=>rfl) fun k aA aG q h=>by
 conv=>rhs;simp only [nX,a6];simp only [bR]
 kernel_rfl)
noncomputable def aiy (F:Nat):aX aU:=(aix F).rt 148 ⟨[.p (.l 128),.p (.l 128)],[],[.p (.b)],[],Bool,fun d=>sb F d.1.1 d.1.2.1,fun d r=>((r,()),())⟩ fun aA aG=>by
 conv=>rhs;simp only [sb,a6]
 kernel_rfl
noncomputable def aiz (F:Nat):aX aU:=(aiy F).bX 122 4 F ⟨[0,1,5,6,7,8,9,10,11],[.p (.l 134),.p (.l 134),.p (.i .i64),.p (.B 0),.p (.B 1),.p (.i .i64),.p (.B 2),.p (.B 3),.p (.i .i64)],[hG,hG,kG,kG],
 [⟨⟨.nm,[0,1,5,6,7,8],[.p (.l 134),.p (.l 134),.p (.i .i64),.p (.B 0),.p (.B 1),.p (.i .i64)],[hG,hG,kG,kG]⟩,Unit,fun d r=>((d.1.1,d.1.2.1,d.1.2.2.1,(),(),d.1.2.2.2.2.2.1,()),(d.2.1,d.2.2.1,d.2.2.2.1,d.2.2.2.2.1,()))⟩,
  ⟨⟨.rt,[4],[.p (.b)],[.d,.d,.d,.d]⟩,Bool,fun d r=>((r,()),((),(),(),(),()))⟩],
 fun k d=>ba (yb (rN d.2.2.2.1) (rN d.2.2.2.2.1) k d.1.2.2.2.2.2.2.2.2.1)⟩ (bJ.bW (fun d=>rfl) fun k aA aG q h=>by
 conv=>rhs;simp only [yb,a6];simp only [bR]
 kernel_rfl)
noncomputable def aiA (F:Nat):aX aU:=(aiz F).bX 122 2 F ⟨[0,1,5,6,7,8],[.p (.l 134),.p (.l 134),.p (.i .i64),.p (.B 0),.p (.B 1),.p (.i .i64)],[hG,hG],
 [⟨⟨.nm,[0,1,5],[.p (.l 134),.p (.l 134),.p (.i .i64)],[hG,hG]⟩,Unit,fun d r=>((d.1.1,d.1.2.1,d.1.2.2.1,()),(d.2.1,d.2.2.1,()))⟩,
  ⟨⟨.rt,[4],[.p (.b)],[.d,.d]⟩,Bool,fun d r=>((r,()),((),(),()))⟩],
 fun k d=>ba (ya F (CI d.2.1) (CI d.2.2.1) k d.1.2.2.2.2.2.1)⟩ (bJ.bW (fun d=>rfl) fun k aA aG q h=>by
 obtain ⟨(a0:List J.aq),(v1:List J.aq),(v2:Int),_,_,(bs:Int),_⟩:=aA
 obtain ⟨⟨(v4:List UInt8),(bY:List UInt8),(v6:List J.Field),(cu:List J.Method),_⟩,⟨(cB:List UInt8),(cG:List UInt8),(v10:List J.Field),(v11:List J.Method),_⟩,_⟩:=aG
 conv=>rhs;simp only [ya,a6,Rm,<-Bool.or_assoc];simp only [bR]
 kernel_rfl)
noncomputable def aiB (F:Nat):aX aU:=(aiA F).bX 122 0 F ⟨[0,1,5],[.p (.l 134),.p (.l 134),.p (.i .i64)],[],
 [⟨⟨.nm,[],[],[]⟩,Unit,fun d r=>((),())⟩,
  ⟨⟨.rt,[4],[.p (.b)],[]⟩,Bool,fun d r=>((r,()),())⟩],
 fun k d=>ba (x' F d.1.1 d.1.2.1 k d.1.2.2.1)⟩ (bJ.bW (fun d=>rfl) fun k aA aG q h=>by
 conv=>rhs;simp only [x',a6];simp only [bR]
 kernel_rfl)
noncomputable def aiC (F:Nat):aX aU:=(aiB F).rt 122 ⟨[.p (.l 134),.p (.l 134)],[],[.p (.b)],[],Bool,fun d=>AV F d.1.1 d.1.2.1,fun d r=>((r,()),())⟩ fun aA aG=>by
 conv=>rhs;simp only [AV,a6]
 kernel_rfl
noncomputable def N5 (k:Nat) (ca:J.aQ) (cA:J.aQ) (tK:Int) (cF:Int):=c9 ((ca.a8.length:Int)=cF/\True) (ba (uY ca cA k tK))
theorem RY (k:Nat) (ca:J.aQ) (cA:J.aQ) (tK:Int):ba (uY ca cA k tK)=N5 k ca cA tK (ca.a8.length:Int):=(dy ⟨rfl,trivial⟩).symm
noncomputable def aiD (F:Nat):aX aU:=(aiC F).bX 87 0 F ⟨[2,3,5,6],[.p (.B 0),.p (.B 1),.p (.i .i64),.p (.i .i64)],[dL,dL],
 [⟨⟨.nm,[2,3],[.p (.B 0),.p (.B 1)],[dL,dL]⟩,Unit,fun d r=>(((),(),()),(d.2.1,d.2.2.1,()))⟩,
  ⟨⟨.rt,[4],[.p (.b)],[.d,.d]⟩,Bool,fun d r=>((r,()),((),(),()))⟩],
 fun k d=>N5 k (eX d.2.1) (eX d.2.2.1) d.1.2.2.2.1 d.1.2.2.1⟩ (bJ.bW (fun d=>dx) fun k aA aG q h=>by
 obtain ⟨_,_,(a0:Int),(v1:Int),_⟩:=aA
 obtain ⟨⟨(v2:List J.aq),(bs:List Int),(v4:List (List J.Field)),(bY:List (List (List UInt8))),(v6:List (List J.Target)),_⟩,⟨(cu:List J.aq),(cB:List Int),(cG:List (List J.Field)),(v10:List (List (List UInt8))),(v11:List (List J.Target)),_⟩,_⟩:=aG
 obtain ⟨ay,_⟩:=dZ h
 dsimp only at ay
 obtain ⟨rfl,_⟩:=ay
 conv=>rhs;change Option.map (α:=Unit ⊕ Bool) _ (N5 (k+ 1) (⟨v2,bs,v4,bY,v6⟩:J.aQ) (⟨cu,cB,cG,v10,v11⟩:J.aQ) v1 (bs.length:Int));rw [<-RY (k+ 1) (⟨v2,bs,v4,bY,v6⟩:J.aQ) (⟨cu,cB,cG,v10,v11⟩:J.aQ) v1];simp only [uY,a6,RY];simp only [bR]
 kernel_rfl)
noncomputable def aiE (F:Nat):aX aU:=(aiD F).bX 87 2 F ⟨[2,3,7],[.p (.B 0),.p (.B 1),.p (.i .i64)],[dL,dL],
 [⟨⟨.nm,[2,3],[.p (.B 0),.p (.B 1)],[dL,dL]⟩,Unit,fun d r=>(((),(),()),(d.2.1,d.2.2.1,()))⟩,
  ⟨⟨.rt,[4],[.p (.b)],[.d,.d]⟩,Bool,fun d r=>((r,()),((),(),()))⟩],
 fun k d=>ba (yd F (eX d.2.1) (eX d.2.2.1) k d.1.2.2.1)⟩ (bJ.bW (fun d=>rfl) fun k aA aG q h=>by
 conv=>rhs;simp only [yd,a6];simp only [bR]
 kernel_rfl)
noncomputable def aiF (F:Nat):aX aU:=(aiE F).bX 87 6 F ⟨[2,3,8,9],[.p (.B 0),.p (.B 1),.p (.i .i64),.p (.i .i64)],[dL,dL],
 [⟨⟨.nm,[2,3,8],[.p (.B 0),.p (.B 1),.p (.i .i64)],[dL,dL]⟩,Unit,fun d r=>(((),(),d.1.2.2.1,()),(d.2.1,d.2.2.1,()))⟩,
  ⟨⟨.rt,[4],[.p (.b)],[.d,.d]⟩,Bool,fun d r=>((r,()),((),(),()))⟩],
 fun k d=>ba (yg (eX d.2.1) (eX d.2.2.1) d.1.2.2.1 k d.1.2.2.2.1)⟩ (bJ.bW (fun d=>rfl) fun k aA aG q h=>by
 conv=>rhs;simp only [yg,a6];simp only [bR]
 kernel_rfl)
noncomputable def aiG (F:Nat):aX aU:=(aiF F).bX 87 4 F ⟨[2,3,8],[.p (.B 0),.p (.B 1),.p (.i .i64)],[dL,dL],
 [⟨⟨.nm,[2,3],[.p (.B 0),.p (.B 1)],[dL,dL]⟩,Unit,fun d r=>(((),(),()),(d.2.1,d.2.2.1,()))⟩,
  ⟨⟨.rt,[4],[.p (.b)],[.d,.d]⟩,Bool,fun d r=>((r,()),((),(),()))⟩],
 fun k d=>ba (yf F (eX d.2.1) (eX d.2.2.1) k d.1.2.2.1)⟩ (bJ.bW (fun d=>rfl) fun k aA aG q h=>by
 conv=>rhs;simp only [yf,a6];simp only [bR]
 kernel_rfl)
noncomputable def aiI (F:Nat):aX aU:=(aiG F).bX 87 10 F ⟨[2,3,10,11],[.p (.B 0),.p (.B 1),.p (.i .i64),.p (.i .i64)],[dL,dL],
 [⟨⟨.nm,[2,3,10],[.p (.B 0),.p (.B 1),.p (.i .i64)],[dL,dL]⟩,Unit,fun d r=>(((),(),d.1.2.2.1,()),(d.2.1,d.2.2.1,()))⟩,
  ⟨⟨.rt,[4],[.p (.b)],[.d,.d]⟩,Bool,fun d r=>((r,()),((),(),()))⟩],
 fun k d=>ba (yi (eX d.2.1) (eX d.2.2.1) d.1.2.2.1 k d.1.2.2.2.1)⟩ (bJ.bW (fun d=>rfl) fun k aA aG q h=>by
 conv=>rhs;simp only [yi,a6];simp only [bR]
 kernel_rfl)
noncomputable def aiJ (F:Nat):aX aU:=(aiI F).bX 87 8 F ⟨[2,3,10],[.p (.B 0),.p (.B 1),.p (.i .i64)],[dL,dL],
 [⟨⟨.nm,[],[],[dL,dL]⟩,Unit,fun d r=>((),(d.2.1,d.2.2.1,()))⟩,
  ⟨⟨.rt,[4],[.p (.b)],[.d,.d]⟩,Bool,fun d r=>((r,()),((),(),()))⟩],
 fun k d=>ba (yh F (eX d.2.1) (eX d.2.2.1) k d.1.2.2.1)⟩ (bJ.bW (fun d=>rfl) fun k aA aG q h=>by
 conv=>rhs;simp only [yh,a6];simp only [bR]
 kernel_rfl)
noncomputable def aiK (F:Nat):aX aU:=(aiJ F).rt 87 ⟨[gW,gW],[],[.p (.b)],[],Bool,fun d=>AX F (eX d.1.1) (eX d.1.2.1),fun d r=>((r,()),())⟩ fun aA aG=>by
 obtain ⟨⟨(a0:List J.aq),(v1:List Int),(v2:List (List J.Field)),(bs:List (List (List UInt8))),(v4:List (List J.Target)),_⟩,⟨(bY:List J.aq),(v6:List Int),(cu:List (List J.Field)),(cB:List (List (List UInt8))),(cG:List (List J.Target)),_⟩,_⟩:=aA
 conv=>rhs;simp only [AX,a6,RY]
 kernel_rfl
noncomputable def aiL (F:Nat):aX aU:=(aiK F).bX 164 0 F ⟨[0,3],[.p (.s),.p (.i .i64)],[],
 [⟨⟨.nm,[0],[.p (.s)],[]⟩,Unit,fun d r=>((d.1.1,()),())⟩,
  ⟨⟨.rt,[2],[.p (.b)],[]⟩,Bool,fun d r=>((r,()),())⟩],
 fun k d=>ba (qB d.1.1 k d.1.2.1)⟩ (bJ.bW (fun d=>rfl) fun k aA aG q h=>by
 conv=>rhs;simp only [qB,a6];simp only [bR]
 kernel_rfl)
noncomputable def aiM (F:Nat):aX aU:=(aiL F).rt 164 ⟨[.p (.s)],[],[.p (.b)],[],Bool,fun d=>mN F d.1.1,fun d r=>((r,()),())⟩ fun aA aG=>by
 conv=>rhs;simp only [mN,a6]
 kernel_rfl
noncomputable def aiN (F:Nat):aX aU:=(aiM F).rt 165 ⟨[.a [.i .i64,.s]],[],[.p (.b)],[],Bool,fun d=>r' F (Gq d.1.1),fun d r=>((r,()),())⟩ fun aA aG=>by
 conv=>rhs;simp only [r',a6]
 kernel_rfl
noncomputable def aiO (F:Nat):aX aU:=(aiN F).rt 42 ⟨[.p (.i .i64),.p (.i .i64),.p (.i .i64)],[],[.p (.b)],[],Bool,fun d=>fy d.1.1 d.1.2.1 d.1.2.2.1,fun d r=>((r,()),())⟩ fun aA aG=>by
 conv=>rhs;simp only [fy,a6]
 kernel_rfl
noncomputable def aiP (F:Nat):aX aU:=(aiO F).bX 166 0 F ⟨[1,3],[.p (.B 0),.p (.i .i64)],[kG],
 [⟨⟨.nm,[1],[.p (.B 0)],[kG]⟩,Unit,fun d r=>(((),()),(d.2.1,()))⟩,
  ⟨⟨.rt,[2],[.p (.i .i64)],[.d]⟩,Int,fun d r=>((r,()),((),()))⟩],
 fun k d=>ba (x4 F (rN d.2.1) k d.1.2.1)⟩ (bJ.bW (fun d=>rfl) fun k aA aG q h=>by
 conv=>rhs;simp only [x4,a6];simp only [bR]
 kernel_rfl)
noncomputable def aiQ (F:Nat):aX aU:=(aiP F).bX 166 2 F ⟨[1,4],[.p (.B 0),.p (.i .i64)],[kG],
 [⟨⟨.nm,[],[],[kG]⟩,Unit,fun d r=>((),(d.2.1,()))⟩,
  ⟨⟨.rt,[2],[.p (.i .i64)],[.d]⟩,Int,fun d r=>((r,()),((),()))⟩],
 fun k d=>ba (x5 F (rN d.2.1) k d.1.2.1)⟩ (bJ.bW (fun d=>rfl) fun k aA aG q h=>by
 conv=>rhs;simp only [x5,a6];simp only [bR]
 kernel_rfl)
noncomputable def aiR (F:Nat):aX aU:=(aiQ F).rt 166 ⟨[J3],[],[.p (.i .i64)],[],Int,fun d=>x3 F (rN d.1.1),fun d r=>((r,()),())⟩ fun aA aG=>by
 conv=>rhs;simp only [x3,a6]
 kernel_rfl
theorem avY (F:Nat) (k:Nat) (e5:J.aq) (zE:Int):ba (AO F e5 k zE)=ba (uO F e5 k zE):=by kernel_rfl
noncomputable def aiT (F:Nat):aX aU:=(aiR F).bX 145 2 F ⟨[0,3,4,5],[.p (.l 134),.p (.i .i64),.p (.B 0),.p (.i .i64)],[hG],
 [⟨⟨.nm,[0,3,4],[.p (.l 134),.p (.i .i64),.p (.B 0)],[hG]⟩,Unit,fun d r=>((d.1.1,d.1.2.1,(),()),(d.2.1,()))⟩,
  ⟨⟨.rt,[2],[.p (.i .i64)],[.d]⟩,Int,fun d r=>((r,()),((),()))⟩],
 fun k d=>ba (uO F (CI d.2.1) k d.1.2.2.2.1)⟩ (bJ.bW (fun d=>rfl) fun k aA aG q h=>by
 conv=>rhs;simp only [uO,a6];simp only [bR]
 kernel_rfl)
theorem avZ (F:Nat) (k:Nat) (e5:J.aq) (B6:Int):ba (AP F e5 k B6)=ba (uP F e5 k B6):=by kernel_rfl
noncomputable def aiU (F:Nat):aX aU:=(aiT F).bX 145 4 F ⟨[0,3,4,6],[.p (.l 134),.p (.i .i64),.p (.B 0),.p (.i .i64)],[hG],
 [⟨⟨.nm,[0,3],[.p (.l 134),.p (.i .i64)],[hG]⟩,Unit,fun d r=>((d.1.1,d.1.2.1,()),(d.2.1,()))⟩,
  ⟨⟨.rt,[2],[.p (.i .i64)],[.d]⟩,Int,fun d r=>((r,()),((),()))⟩],
 fun k d=>ba (uP F (CI d.2.1) k d.1.2.2.2.1)⟩ (bJ.bW (fun d=>rfl) fun k aA aG q h=>by
 conv=>rhs;simp only [uP,a6];simp only [bR]
 kernel_rfl)
noncomputable def aiV (F:Nat):aX aU:=(aiU F).bX 145 0 F ⟨[0,3],[.p (.l 134),.p (.i .i64)],[],
 [⟨⟨.nm,[],[],[]⟩,Unit,fun d r=>((),())⟩,
  ⟨⟨.rt,[2],[.p (.i .i64)],[]⟩,Int,fun d r=>((r,()),())⟩],
 fun k d=>ba (xO F d.1.1 k d.1.2.1)⟩ (bJ.bW (fun d=>rfl) fun k aA aG q h=>by
 obtain ⟨(a0:List J.aq),(v1:Int),_⟩:=aA
 conv=>rhs;simp only [xO,a6,avY,avZ];simp only [bR]
 kernel_rfl)
noncomputable def aiW (F:Nat):aX aU:=(aiV F).rt 145 ⟨[.p (.l 134)],[],[.p (.i .i64)],[],Int,fun d=>Dv F d.1.1,fun d r=>((r,()),())⟩ fun aA aG=>by
 conv=>rhs;simp only [Dv,a6]
 kernel_rfl
noncomputable def aiX (F:Nat):aX aU:=(aiW F).bX 121 0 F ⟨[0,1,5],[.p (.l 134),.p (.s),.p (.i .i64)],[],
 [⟨⟨.nm,[],[],[]⟩,Unit,fun d r=>((),())⟩,
  ⟨⟨.rt,[4],[.p (.i .i64)],[]⟩,Int,fun d r=>((r,()),())⟩],
 fun k d=>ba (x6 d.1.1 d.1.2.1 k d.1.2.2.1)⟩ (bJ.bW (fun d=>rfl) fun k aA aG q h=>by
 conv=>rhs;simp only [x6,a6];simp only [bR]
 kernel_rfl)
noncomputable def aiY (F:Nat):aX aU:=(aiX F).rt 121 ⟨[.p (.l 134),.p (.s)],[],[.p (.i .i64)],[],Int,fun d=>mM F d.1.1 d.1.2.1,fun d r=>((r,()),())⟩ fun aA aG=>by
 conv=>rhs;simp only [mM,a6]
 kernel_rfl
noncomputable def aiZ (F:Nat):aX aU:=(aiY F).bX 146 0 F ⟨[0,1,5],[.p (.l 134),.p (.i .i64),.p (.l 3)],[],
 [⟨⟨.nm,[5],[.p (.l 3)],[]⟩,List Int,fun d r=>((r,()),())⟩,
  ⟨⟨.rt,[4],[.p (.l 3)],[]⟩,List Int,fun d r=>((r,()),())⟩],
 fun k d=>ba (ym F d.1.1 k d.1.2.1 d.1.2.2.1)⟩ (bJ.bW (fun d=>rfl) fun k aA aG q h=>by
 conv=>rhs;simp only [ym,a6];simp only [bR]
 kernel_rfl)
noncomputable def ai0 (F:Nat):aX aU:=(aiZ F).rt 146 ⟨[.p (.l 134),.p (.i .i64)],[],[.p (.l 3)],[],List Int,fun d=>u1 F d.1.1 d.1.2.1,fun d r=>((r,()),())⟩ fun aA aG=>by
 conv=>rhs;simp only [u1,a6]
 kernel_rfl
noncomputable def ai1 (F:Nat):aX aU:=(ai0 F).bX 119 0 F ⟨[0,5,6,7],[.p (.l 134),.p (.R 0),.p (.l 3),.p (.i .i64)],[.r 136 false],
 [⟨⟨.nm,[5],[.p (.R 0)],[.r 136 false]⟩,List J.Field,fun d r=>(((),()),(r,()))⟩],
 fun k d=>qw d.1.1 d.1.2.2.1 k d.2.1 d.1.2.2.2.1⟩ (bJ.bW (fun d=>rfl) fun k aA aG q h=>by
 conv=>rhs;simp only [qw,a6];simp only [bR]
 kernel_rfl)
noncomputable def ai2 (F:Nat):aX aU:=(ai1 F).rt 119 ⟨[.p (.l 134),.p (.i .i64)],[],[.p (.l 136)],[],List J.Field,fun d=>xN F d.1.1 d.1.2.1,fun d r=>((r,()),())⟩ fun aA aG=>by
 conv=>rhs;simp only [xN,a6]
 kernel_rfl
noncomputable def ai4 (F:Nat):aX aU:=(ai2 F).bX 147 0 F ⟨[0,1,5],[.p (.l 134),.p (.l 128),.p (.i .i64)],[],
 [⟨⟨.nm,[],[],[]⟩,Unit,fun d r=>((),())⟩,
  ⟨⟨.rt,[4],[.p (.b)],[]⟩,Bool,fun d r=>((r,()),())⟩],
 fun k d=>ba (u0 F d.1.2.1 d.1.1 k d.1.2.2.1)⟩ (bJ.bW (fun d=>rfl) fun k aA aG q h=>by
 conv=>rhs;simp only [u0,a6];simp only [bR]
 kernel_rfl)
noncomputable def ai5 (F:Nat):aX aU:=(ai4 F).rt 147 ⟨[.p (.l 134),.p (.l 128)],[],[.p (.b)],[],Bool,fun d=>yl F d.1.1 d.1.2.1,fun d r=>((r,()),())⟩ fun aA aG=>by
 conv=>rhs;simp only [yl,a6]
 kernel_rfl
noncomputable def ai6 (F:Nat):aX aU:=(ai5 F).bX 118 0 F ⟨[0,4],[.p (.l 134),.p (.i .i64)],[],
 [⟨⟨.nm,[0],[.p (.l 134)],[]⟩,Unit,fun d r=>((d.1.1,()),())⟩,
  ⟨⟨.rt,[2],[.p (.i .i64)],[]⟩,Int,fun d r=>((r,()),())⟩],
 fun k d=>ba (r9 F d.1.1 k d.1.2.1)⟩ (bJ.bW (fun d=>rfl) fun k aA aG q h=>by
 conv=>rhs;simp only [r9,a6];simp only [bR]
 kernel_rfl)
noncomputable def ai7 (F:Nat):aX aU:=(ai6 F).bX 118 2 F ⟨[0,5],[.p (.l 134),.p (.i .i64)],[],
 [⟨⟨.nm,[0],[.p (.l 134)],[]⟩,Unit,fun d r=>((d.1.1,()),())⟩,
  ⟨⟨.rt,[2],[.p (.i .i64)],[]⟩,Int,fun d r=>((r,()),())⟩],
 fun k d=>ba (xX d.1.1 k d.1.2.1)⟩ (bJ.bW (fun d=>rfl) fun k aA aG q h=>by
 conv=>rhs;simp only [xX,a6];simp only [bR]
 kernel_rfl)
noncomputable def ai8 (F:Nat):aX aU:=(ai7 F).bX 118 4 F ⟨[0,6],[.p (.l 134),.p (.i .i64)],[],
 [⟨⟨.nm,[0],[.p (.l 134)],[]⟩,Unit,fun d r=>((d.1.1,()),())⟩,
  ⟨⟨.rt,[2],[.p (.i .i64)],[]⟩,Int,fun d r=>((r,()),())⟩],
 fun k d=>ba (uT F d.1.1 k d.1.2.1)⟩ (bJ.bW (fun d=>rfl) fun k aA aG q h=>by
 conv=>rhs;simp only [uT,a6];simp only [bR]
 kernel_rfl)
noncomputable def ai9 (F:Nat):aX aU:=(ai8 F).bX 118 6 F ⟨[0,7],[.p (.l 134),.p (.i .i64)],[],
 [⟨⟨.nm,[0],[.p (.l 134)],[]⟩,Unit,fun d r=>((d.1.1,()),())⟩,
  ⟨⟨.rt,[2],[.p (.i .i64)],[]⟩,Int,fun d r=>((r,()),())⟩],
 fun k d=>ba (xY F d.1.1 k d.1.2.1)⟩ (bJ.bW (fun d=>rfl) fun k aA aG q h=>by
 conv=>rhs;simp only [xY,a6];simp only [bR]
 kernel_rfl)
noncomputable def ai_ (F:Nat):aX aU:=(ai9 F).bX 118 10 F ⟨[0,10,11],[.p (.l 134),.p (.i .i64),.p (.i .i64)],[],
 [⟨⟨.nm,[0,10],[.p (.l 134),.p (.i .i64)],[]⟩,Unit,fun d r=>((d.1.1,d.1.2.1,()),())⟩,
  ⟨⟨.rt,[2],[.p (.i .i64)],[]⟩,Int,fun d r=>((r,()),())⟩],
 fun k d=>ba (xZ F d.1.1 d.1.2.1 k d.1.2.2.1)⟩ (bJ.bW (fun d=>rfl) fun k aA aG q h=>by
 conv=>rhs;simp only [xZ,a6];simp only [bR]
 kernel_rfl)
noncomputable def ai' (F:Nat):aX aU:=(ai_ F).bX 118 14 F ⟨[0,10,12,13,14],[.p (.l 134),.p (.i .i64),.p (.i .i64),.p (.B 0),.p (.i .i64)],[kG],
 [⟨⟨.nm,[0,10,12],[.p (.l 134),.p (.i .i64),.p (.i .i64)],[kG]⟩,Unit,fun d r=>((d.1.1,d.1.2.1,d.1.2.2.1,()),(d.2.1,()))⟩,
  ⟨⟨.rt,[2],[.p (.i .i64)],[.d]⟩,Int,fun d r=>((r,()),((),()))⟩],
 fun k d=>ba (x1 F d.1.1 (rN d.2.1) k d.1.2.2.2.2.1)⟩ (bJ.bW (fun d=>rfl) fun k aA aG q h=>by
 conv=>rhs;simp only [x1,a6];simp only [bR]
 kernel_rfl)
noncomputable def aja (F:Nat):aX aU:=(ai' F).bX 118 12 F ⟨[0,10,12],[.p (.l 134),.p (.i .i64),.p (.i .i64)],[],
 [⟨⟨.nm,[0,10],[.p (.l 134),.p (.i .i64)],[]⟩,Unit,fun d r=>((d.1.1,d.1.2.1,()),())⟩,
  ⟨⟨.rt,[2],[.p (.i .i64)],[]⟩,Int,fun d r=>((r,()),())⟩],
 fun k d=>ba (x0 F d.1.1 d.1.2.1 k d.1.2.2.1)⟩ (bJ.bW (fun d=>rfl) fun k aA aG q h=>by
 conv=>rhs;simp only [x0,a6];simp only [bR]
 kernel_rfl)
noncomputable def ajb (F:Nat):aX aU:=(aja F).bX 118 8 F ⟨[0,10],[.p (.l 134),.p (.i .i64)],[],
 [⟨⟨.nm,[0],[.p (.l 134)],[]⟩,Unit,fun d r=>((d.1.1,()),())⟩,
  ⟨⟨.rt,[2],[.p (.i .i64)],[]⟩,Int,fun d r=>((r,()),())⟩],
 fun k d=>ba (uU F d.1.1 k d.1.2.1)⟩ (bJ.bW (fun d=>rfl) fun k aA aG q h=>by
 conv=>rhs;simp only [uU,a6];simp only [bR]
 kernel_rfl)
noncomputable def ajd (F:Nat):aX aU:=(ajb F).bX 118 20 F ⟨[0,15,16,17,18],[.p (.l 134),.p (.i .i64),.p (.l 136),.p (.i .i64),.p (.i .i64)],[],
 [⟨⟨.nm,[0,15,16,17],[.p (.l 134),.p (.i .i64),.p (.l 136),.p (.i .i64)],[]⟩,Unit,fun d r=>((d.1.1,d.1.2.1,d.1.2.2.1,d.1.2.2.2.1,()),())⟩,
  ⟨⟨.rt,[2],[.p (.i .i64)],[]⟩,Int,fun d r=>((r,()),())⟩],
 fun k d=>ba (xT d.1.2.2.1 d.1.2.2.2.1 k d.1.2.2.2.2.1)⟩ (bJ.bW (fun d=>rfl) fun k aA aG q h=>by
 conv=>rhs;simp only [xT,a6];simp only [bR]
 kernel_rfl)
noncomputable def aje (F:Nat):aX aU:=(ajd F).bX 118 18 F ⟨[0,15,16,17],[.p (.l 134),.p (.i .i64),.p (.l 136),.p (.i .i64)],[],
 [⟨⟨.nm,[0,15],[.p (.l 134),.p (.i .i64)],[]⟩,Unit,fun d r=>((d.1.1,d.1.2.1,()),())⟩,
  ⟨⟨.rt,[2],[.p (.i .i64)],[]⟩,Int,fun d r=>((r,()),())⟩],
 fun k d=>ba (xS F d.1.2.2.1 k d.1.2.2.2.1)⟩ (bJ.bW (fun d=>rfl) fun k aA aG q h=>by
 conv=>rhs;simp only [xS,a6];simp only [bR]
 kernel_rfl)
noncomputable def N2 (k:Nat) (hS:J.aq) (iq:Int) (rq:Int):=c9 (True) (ba (qz hS iq k rq))
theorem RV (k:Nat) (hS:J.aq) (iq:Int) (rq:Int):ba (qz hS iq k rq)=N2 k (⟨[],[],[],hS.bd⟩:J.aq) iq rq:=(show ba (qz hS iq k rq)=ba (qz (⟨[],[],[],hS.bd⟩:J.aq) iq k rq) by kernel_rfl).trans (dy trivial).symm
noncomputable def ajf (F:Nat):aX aU:=(aje F).bX 118 24 F ⟨[0,15,19,20,21],[.p (.l 134),.p (.i .i64),.p (.l 131),.p (.i .i64),.p (.i .i64)],[],
 [⟨⟨.nm,[0,15,19,20],[.p (.l 134),.p (.i .i64),.p (.l 131),.p (.i .i64)],[]⟩,Unit,fun d r=>((d.1.1,d.1.2.1,d.1.2.2.1,d.1.2.2.2.1,()),())⟩,
  ⟨⟨.rt,[2],[.p (.i .i64)],[]⟩,Int,fun d r=>((r,()),())⟩],
 fun k d=>N2 k (⟨[],[],[],d.1.2.2.1⟩:J.aq) d.1.2.2.2.1 d.1.2.2.2.2.1⟩ (bJ.bW (fun d=>dx) fun k aA aG q h=>by
 obtain ⟨(a0:List J.aq),(v1:Int),(v2:List J.Method),(bs:Int),(v4:Int),_⟩:=aA
 conv=>rhs;change Option.map (α:=Unit ⊕ Int) _ (N2 (k+ 1) (⟨[],[],[],v2⟩:J.aq) bs v4);rw [<-RV (k+ 1) (⟨[],[],[],v2⟩:J.aq) bs v4];simp only [qz,a6,RV];simp only [bR]
 kernel_rfl)
noncomputable def N1 (F:Nat) (k:Nat) (hS:J.aq) (iq:Int):=c9 (True) (ba (qy F hS k iq))
theorem RU (F:Nat) (k:Nat) (hS:J.aq) (iq:Int):ba (qy F hS k iq)=N1 F k (⟨[],[],[],hS.bd⟩:J.aq) iq:=(show ba (qy F hS k iq)=ba (qy F (⟨[],[],[],hS.bd⟩:J.aq) k iq) by kernel_rfl).trans (dy trivial).symm
noncomputable def ajg (F:Nat):aX aU:=(ajf F).bX 118 22 F ⟨[0,15,19,20],[.p (.l 134),.p (.i .i64),.p (.l 131),.p (.i .i64)],[],
 [⟨⟨.nm,[0,15],[.p (.l 134),.p (.i .i64)],[]⟩,Unit,fun d r=>((d.1.1,d.1.2.1,()),())⟩,
  ⟨⟨.rt,[2],[.p (.i .i64)],[]⟩,Int,fun d r=>((r,()),())⟩],
 fun k d=>N1 F k (⟨[],[],[],d.1.2.2.1⟩:J.aq) d.1.2.2.2.1⟩ (bJ.bW (fun d=>dx) fun k aA aG q h=>by
 obtain ⟨(a0:List J.aq),(v1:Int),(v2:List J.Method),(bs:Int),_⟩:=aA
 conv=>rhs;change Option.map (α:=Unit ⊕ Int) _ (N1 F (k+ 1) (⟨[],[],[],v2⟩:J.aq) bs);rw [<-RU F (k+ 1) (⟨[],[],[],v2⟩:J.aq) bs];simp only [qy,a6,RV,RU];simp only [bR]
 kernel_rfl)
noncomputable def ajh (F:Nat):aX aU:=(ajg F).bX 118 16 F ⟨[0,15],[.p (.l 134),.p (.i .i64)],[],
 [⟨⟨.nm,[0],[.p (.l 134)],[]⟩,Unit,fun d r=>((d.1.1,()),())⟩,
  ⟨⟨.rt,[2],[.p (.i .i64)],[]⟩,Int,fun d r=>((r,()),())⟩],
 fun k d=>ba (x2 F d.1.1 k d.1.2.1)⟩ (bJ.bW (fun d=>rfl) fun k aA aG q h=>by
 obtain ⟨(a0:List J.aq),(v1:Int),_⟩:=aA
 conv=>rhs;simp only [x2,a6,RU];simp only [bR]
 kernel_rfl)
noncomputable def aji (F:Nat):aX aU:=(ajh F).bX 118 32 F ⟨[0,22,23,24,25,26],[.p (.l 134),.p (.i .i64),.p (.l 3),.p (.i .i64),.p (.i .i64),.p (.i .i64)],[],
 [⟨⟨.nm,[0,22,23,24,25],[.p (.l 134),.p (.i .i64),.p (.l 3),.p (.i .i64),.p (.i .i64)],[]⟩,Unit,fun d r=>((d.1.1,d.1.2.1,d.1.2.2.1,d.1.2.2.2.1,d.1.2.2.2.2.1,()),())⟩,
  ⟨⟨.rt,[2],[.p (.i .i64)],[]⟩,Int,fun d r=>((r,()),())⟩],
 fun k d=>ba (uS F d.1.1 d.1.2.1 d.1.2.2.1 d.1.2.2.2.1 d.1.2.2.2.2.1 k d.1.2.2.2.2.2.1)⟩ (bJ.bW (fun d=>rfl) fun k aA aG q h=>by
 obtain ⟨(a0:List J.aq),(v1:Int),(v2:List Int),(bs:Int),(v4:Int),(bY:Int),_⟩:=aA
 conv=>rhs;simp only [uS,a6,Rm];simp only [bR]
 kernel_rfl)
noncomputable def ajj (F:Nat):aX aU:=(aji F).bX 118 30 F ⟨[0,22,23,24,25],[.p (.l 134),.p (.i .i64),.p (.l 3),.p (.i .i64),.p (.i .i64)],[],
 [⟨⟨.nm,[0,22,23,24],[.p (.l 134),.p (.i .i64),.p (.l 3),.p (.i .i64)],[]⟩,Unit,fun d r=>((d.1.1,d.1.2.1,d.1.2.2.1,d.1.2.2.2.1,()),())⟩,
  ⟨⟨.rt,[2],[.p (.i .i64)],[]⟩,Int,fun d r=>((r,()),())⟩],
 fun k d=>ba (xW F d.1.1 d.1.2.1 d.1.2.2.1 d.1.2.2.2.1 k d.1.2.2.2.2.1)⟩ (bJ.bW (fun d=>rfl) fun k aA aG q h=>by
 conv=>rhs;simp only [xW,a6];simp only [bR]
 kernel_rfl)
noncomputable def ajk (F:Nat):aX aU:=(ajj F).bX 118 28 F ⟨[0,22,23,24],[.p (.l 134),.p (.i .i64),.p (.l 3),.p (.i .i64)],[],
 [⟨⟨.nm,[0,22],[.p (.l 134),.p (.i .i64)],[]⟩,Unit,fun d r=>((d.1.1,d.1.2.1,()),())⟩,
  ⟨⟨.rt,[2],[.p (.i .i64)],[]⟩,Int,fun d r=>((r,()),())⟩],
 fun k d=>ba (xV F d.1.1 d.1.2.1 d.1.2.2.1 k d.1.2.2.2.1)⟩ (bJ.bW (fun d=>rfl) fun k aA aG q h=>by
 conv=>rhs;simp only [xV,a6];simp only [bR]
 kernel_rfl)
noncomputable def ajl (F:Nat):aX aU:=(ajk F).bX 118 26 F ⟨[0,22],[.p (.l 134),.p (.i .i64)],[],
 [⟨⟨.nm,[],[],[]⟩,Unit,fun d r=>((),())⟩,
  ⟨⟨.rt,[2],[.p (.i .i64)],[]⟩,Int,fun d r=>((r,()),())⟩],
 fun k d=>ba (xU F d.1.1 k d.1.2.1)⟩ (bJ.bW (fun d=>rfl) fun k aA aG q h=>by
 conv=>rhs;simp only [xU,a6];simp only [bR]
 kernel_rfl)
noncomputable def ajm (F:Nat):aX aU:=(ajl F).rt 118 ⟨[.p (.l 134)],[],[.p (.i .i64)],[],Int,fun d=>Dw F d.1.1,fun d r=>((r,()),())⟩ fun aA aG=>by
 conv=>rhs;simp only [Dw,a6]
 kernel_rfl
noncomputable def N6 (k:Nat) (kB:List (List UInt8)) (oX:J.Method) (oC:Int):=c9 (True) (o6 kB oX k oC)
theorem RZ (k:Nat) (kB:List (List UInt8)) (oX:J.Method) (oC:Int):o6 kB oX k oC=N6 k kB (⟨oX.Name,false,[],(⟨0,[]⟩:J.Kind),0,0,[],[]⟩:J.Method) oC:=(show o6 kB oX k oC=o6 kB (⟨oX.Name,false,[],(⟨0,[]⟩:J.Kind),0,0,[],[]⟩:J.Method) k oC by kernel_rfl).trans (dy trivial).symm
noncomputable def ajo (F:Nat):aX aU:=(ajm F).bX 120 4 F ⟨[0,6,7,8,9,10,11,12],[.p (.l 134),.p (.R 0),.p (.R 1),.p (.l 3),.p (.i .i64),.p (.i .i64),.p (.s),.p (.i .i64)],[.r 9 false,.r 166 false],
 [⟨⟨.nm,[0,6,7,8,9,10,11,12],[.p (.l 134),.p (.R 0),.p (.R 1),.p (.l 3),.p (.i .i64),.p (.i .i64),.p (.s),.p (.i .i64)],[.r 9 false,.r 166 false]⟩,Int,fun d r=>((d.1.1,(),(),d.1.2.2.2.1,d.1.2.2.2.2.1,d.1.2.2.2.2.2.1,d.1.2.2.2.2.2.2.1,r,()),(d.2.1,d.2.2.1,()))⟩],
 fun k d=>N6 k d.2.1 (⟨d.1.2.2.2.2.2.2.1,false,[],(⟨0,[]⟩:J.Kind),0,0,[],[]⟩:J.Method) d.1.2.2.2.2.2.2.2.1⟩ (bJ.bW (fun d=>dx) fun k aA aG q h=>by
 obtain ⟨(a0:List J.aq),_,_,(v1:List Int),(v2:Int),(bs:Int),(v4:List UInt8),(bY:Int),_⟩:=aA
 obtain ⟨(v6:List (List UInt8)),(cu:List J.Target),_⟩:=aG
 conv=>rhs;change Option.map (α:=Int) _ (N6 (k+ 1) v6 (⟨v4,false,[],(⟨0,[]⟩:J.Kind),0,0,[],[]⟩:J.Method) bY);rw [<-RZ (k+ 1) v6 (⟨v4,false,[],(⟨0,[]⟩:J.Kind),0,0,[],[]⟩:J.Method) bY];simp only [o6,a6,RZ];simp only [bR]
 kernel_rfl)
noncomputable def ajp (F:Nat):aX aU:=(ajo F).bX 120 2 F ⟨[0,6,7,8,9,10],[.p (.l 134),.p (.R 0),.p (.R 1),.p (.l 3),.p (.i .i64),.p (.i .i64)],[.r 9 false,.r 166 false],
 [⟨⟨.nm,[0,6,7,8,9],[.p (.l 134),.p (.R 0),.p (.R 1),.p (.l 3),.p (.i .i64)],[.r 9 false,.r 166 false]⟩,(List J.Target) × (List (List UInt8)),fun d r=>((d.1.1,(),(),d.1.2.2.2.1,d.1.2.2.2.2.1,()),(r.2,r.1,()))⟩],
 fun k d=>yk F d.1.1 d.1.2.2.2.1 d.1.2.2.2.2.1 k d.2.2.1 d.2.1 d.1.2.2.2.2.2.1⟩ (bJ.bW (fun d=>rfl) fun k aA aG q h=>by
 obtain ⟨(a0:List J.aq),_,_,(v1:List Int),(v2:Int),(bs:Int),_⟩:=aA
 obtain ⟨(v4:List (List UInt8)),(bY:List J.Target),_⟩:=aG
 conv=>rhs;simp only [yk,a6,RZ];simp only [bR]
 kernel_rfl)
noncomputable def ajq (F:Nat):aX aU:=(ajp F).bX 120 0 F ⟨[0,6,7,8,9],[.p (.l 134),.p (.R 0),.p (.R 1),.p (.l 3),.p (.i .i64)],[.r 9 false,.r 166 false],
 [⟨⟨.nm,[6,7],[.p (.R 0),.p (.R 1)],[.r 9 false,.r 166 false]⟩,(List J.Target) × (List (List UInt8)),fun d r=>(((),(),()),(r.2,r.1,()))⟩],
 fun k d=>yj F d.1.1 d.1.2.2.2.1 k d.2.2.1 d.2.1 d.1.2.2.2.2.1⟩ (bJ.bW (fun d=>rfl) fun k aA aG q h=>by
 conv=>rhs;simp only [yj,a6];simp only [bR]
 kernel_rfl)
noncomputable def ajr (F:Nat):aX aU:=(ajq F).rt 120 ⟨[.p (.l 134),.p (.i .i64)],[],[.p (.l 9),.p (.l 166)],[],(List (List UInt8)) × (List J.Target),fun d=>Dy F d.1.1 d.1.2.1,fun d r=>((r.1,r.2,()),())⟩ fun aA aG=>by
 conv=>rhs;simp only [Dy,a6]
 kernel_rfl
noncomputable def N4 (F:Nat) (k:Nat) (a':List J.aq) (zj:List (List J.Target)) (zk:List (List (List UInt8))) (zl:List (List J.Field)) (zm:List Int) (rl:Int) (al:List J.aq) (aT:List Int) (bU:List (List J.Field)) (dn:List (List (List UInt8))) (gM:List (List J.Target)) (kp:List J.aq):=c9 (([]:List J.aq)=al/\([]:List Int)=aT/\([]:List (List J.Field))=bU/\([]:List (List (List UInt8)))=dn/\([]:List (List J.Target))=gM/\(a':List J.aq)=kp/\True) (ba (o5 F a' k zj zk zl zm rl))
theorem RX (F:Nat) (k:Nat) (a':List J.aq) (zj:List (List J.Target)) (zk:List (List (List UInt8))) (zl:List (List J.Field)) (zm:List Int) (rl:Int):ba (o5 F a' k zj zk zl zm rl)=N4 F k a' zj zk zl zm rl [] [] [] [] [] a':=(dy ⟨rfl,rfl,rfl,rfl,rfl,rfl,trivial⟩).symm
noncomputable def ajs (F:Nat):aX aU:=(ajr F).bX 86 0 F ⟨[0,2,5,6],[.p (.l 134),.p (.B 0),.p (.B 1),.p (.i .i64)],[dL,abC,.r 3 false,.r 124 false,.r 120 false,.r 121 false],
 [⟨⟨.nm,[2,5],[.p (.B 0),.p (.B 1)],[dL,abC,.r 3 false,.r 124 false,.r 120 false,.r 121 false]⟩,(List (List J.Target)) × (List (List (List UInt8))) × (List (List J.Field)) × (List Int),fun d r=>(((),(),()),(d.2.1,(d.2.2.1.1,(),(),(),(),()),r.2.2.2,r.2.2.1,r.2.1,r.1,()))⟩,
  ⟨⟨.rt,[2,3],[.p (.B 0),.p (.i .i64)],[dL,.d,.d,.d,.d,.d]⟩,J.aQ × Int,fun d r=>(((),r.2,()),((r.1.bc,r.1.a8,r.1.Fields,r.1.Names,r.1.a9,()),(),(),(),(),(),()))⟩],
 fun k d=>N4 F k d.1.1 d.2.2.2.2.2.2.1 d.2.2.2.2.2.1 d.2.2.2.2.1 d.2.2.2.1 d.1.2.2.2.1 d.2.1.1 d.2.1.2.1 d.2.1.2.2.1 d.2.1.2.2.2.1 d.2.1.2.2.2.2.1 d.2.2.1.1⟩ (bJ.bW (fun d=>dx) fun k aA aG q h=>by
 obtain ⟨(a0:List J.aq),_,_,(v1:Int),_⟩:=aA
 obtain ⟨⟨(v2:List J.aq),(bs:List Int),(v4:List (List J.Field)),(bY:List (List (List UInt8))),(v6:List (List J.Target)),_⟩,⟨(cu:List J.aq),_,_,_,_,_⟩,(cB:List Int),(cG:List (List J.Field)),(v10:List (List (List UInt8))),(v11:List (List J.Target)),_⟩:=aG
 obtain ⟨ay,_⟩:=dZ h
 dsimp only at ay
 obtain ⟨rfl,rfl,rfl,rfl,rfl,rfl,_⟩:=ay
 conv=>rhs;change Option.map (α:=((List (List J.Target)) × (List (List (List UInt8))) × (List (List J.Field)) × (List Int)) ⊕ (J.aQ × Int)) _ (N4 F (k+ 1) a0 v11 v10 cG cB v1 ([]) ([]) ([]) ([]) ([]) (a0));rw [<-RX F (k+ 1) a0 v11 v10 cG cB v1];simp only [o5,a6,RX];simp only [bR]
 kernel_rfl)
noncomputable def ajt (F:Nat):aX aU:=(ajs F).rt 86 ⟨[.p (.l 134)],[],[gW,.p (.i .i64)],[],J.aQ × Int,fun d=>Dx F d.1.1,fun d r=>(((r.1.bc,r.1.a8,r.1.Fields,r.1.Names,r.1.a9,()),r.2,()),())⟩ fun aA aG=>by
 obtain ⟨(a0:List J.aq),_⟩:=aA
 conv=>rhs;simp only [Dx,a6,RX]
 kernel_rfl
noncomputable def aju (F:Nat):aX aU:=(ajt F).rt 50 ⟨[gW],[],[.p (.i .i64)],[],Int,fun d=>qA F (eX d.1.1),fun d r=>((r,()),())⟩ fun aA aG=>by
 conv=>rhs;simp only [qA,a6]
 kernel_rfl
noncomputable def ajv (F:Nat):aX aU:=(aju F).rt 59 ⟨[gW,.p (.i .i64)],[],[.p (.b)],[],Bool,fun d=>AU (eX d.1.1) d.1.2.1,fun d r=>((r,()),())⟩ fun aA aG=>by
 conv=>rhs;simp only [AU,a6]
 kernel_rfl
noncomputable def ajw (F:Nat):aX aU:=(ajv F).rt 60 ⟨[gW,.p (.i .i64),.p (.i .i64)],[],[.p (.b)],[],Bool,fun d=>AR (eX d.1.1) d.1.2.1 d.1.2.2.1,fun d r=>((r,()),())⟩ fun aA aG=>by
 conv=>rhs;simp only [AR,a6]
 kernel_rfl
noncomputable def ajx (F:Nat):aX aU:=(ajw F).bX 95 0 F ⟨[2,3,4,5,10],[.p (.i .i64),.p (.i .i64),.p (.B 0),.p (.B 1),.p (.R 2)],[h3,dL,.r 3 false],
 [⟨⟨.nm,[2,3,10],[.p (.i .i64),.p (.i .i64),.p (.R 2)],[h3,dL,.r 3 false]⟩,(List Int) × Int,fun d r=>((r.2,d.1.2.1,(),()),(d.2.1,d.2.2.1,r.1,()))⟩,
  ⟨⟨.rt,[8,9],[.p (.l 3),.p (.b)],[.d,.d,.d]⟩,(List Int) × Bool,fun d r=>((r.1,r.2,()),((),(),(),()))⟩],
 fun k d=>ba (uZ (dM d.2.1) (eX d.2.2.1) d.1.2.1 k d.2.2.2.1 d.1.1)⟩ (bJ.bW (fun d=>rfl) fun k aA aG q h=>by
 conv=>rhs;simp only [uZ,a6];simp only [bR]
 kernel_rfl)
noncomputable def ajz (F:Nat):aX aU:=(ajx F).rt 95 ⟨[iu,gW,.p (.i .i64),.p (.i .i64)],[],[.p (.l 3),.p (.b)],[],(List Int) × Bool,fun d=>o7 F (dM d.1.1) (eX d.1.2.1) d.1.2.2.1 d.1.2.2.2.1,fun d r=>((r.1,r.2,()),())⟩ fun aA aG=>by
 conv=>rhs;simp only [o7,a6]
 kernel_rfl
noncomputable def ajA (F:Nat):aX aU:=(ajz F).rt 62 ⟨[iu,gW],[],[.p (.l 3),.p (.l 3),.p (.b)],[],(List Int) × (List Int) × Bool,fun d=>o8 F (dM d.1.1) (eX d.1.2.1),fun d r=>((r.1,r.2.1,r.2.2,()),())⟩ fun aA aG=>by
 conv=>rhs;simp only [o8,a6]
 kernel_rfl
noncomputable def ajB (F:Nat):aX aU:=(ajA F).rt 71 ⟨[gW,.p (.i .i64),.p (.i .i64)],[],[.p (.b)],[],Bool,fun d=>qC (eX d.1.1) d.1.2.1 d.1.2.2.1,fun d r=>((r,()),())⟩ fun aA aG=>by
 conv=>rhs;simp only [qC,a6]
 kernel_rfl
noncomputable def ajC (F:Nat):aX aU:=(ajB F).bX 44 0 F ⟨[2,3,4,7,8],[.p (.i .i64),.p (.B 0),.p (.B 1),.p (.R 2),.p (.i .i64)],[h3,dL,.r 3 false],
 [⟨⟨.nm,[7],[.p (.R 2)],[h3,dL,.r 3 false]⟩,List Int,fun d r=>(((),()),(d.2.1,d.2.2.1,r,()))⟩],
 fun k d=>r_ d.1.1 (dM d.2.1) (eX d.2.2.1) k d.2.2.2.1 d.1.2.2.2.2.1⟩ (bJ.bW (fun d=>rfl) fun k aA aG q h=>by
 conv=>rhs;simp only [r_,a6];simp only [bR]
 kernel_rfl)
noncomputable def ajD (F:Nat):aX aU:=(ajC F).rt 44 ⟨[iu,gW,.p (.i .i64)],[],[.p (.l 3)],[],List Int,fun d=>nW F (dM d.1.1) (eX d.1.2.1) d.1.2.2.1,fun d r=>((r,()),())⟩ fun aA aG=>by
 conv=>rhs;simp only [nW,a6]
 kernel_rfl
noncomputable def ajE (F:Nat):aX aU:=(ajD F).bX 43 0 F ⟨[0,1,5],[.p (.l 3),.p (.i .i64),.p (.i .i64)],[],
 [⟨⟨.nm,[],[],[]⟩,Unit,fun d r=>((),())⟩,
  ⟨⟨.rt,[4],[.p (.b)],[]⟩,Bool,fun d r=>((r,()),())⟩],
 fun k d=>ba (x7 d.1.1 d.1.2.1 k d.1.2.2.1)⟩ (bJ.bW (fun d=>rfl) fun k aA aG q h=>by
 conv=>rhs;simp only [x7,a6];simp only [bR]
 kernel_rfl)
noncomputable def ajF (F:Nat):aX aU:=(ajE F).rt 43 ⟨[.p (.l 3),.p (.i .i64)],[],[.p (.b)],[],Bool,fun d=>kX F d.1.1 d.1.2.1,fun d r=>((r,()),())⟩ fun aA aG=>by
 conv=>rhs;simp only [kX,a6]
 kernel_rfl
noncomputable def ajG (F:Nat):aX aU:=(ajF F).bX 51 0 F ⟨[2,3,6,8,9],[.p (.B 0),.p (.B 1),.p (.l 3),.p (.R 2),.p (.i .i64)],[h3,dL,.r 3 true],
 [⟨⟨.nm,[2,3,6,8],[.p (.B 0),.p (.B 1),.p (.l 3),.p (.R 2)],[h3,dL,.r 3 true]⟩,Unit,fun d r=>(((),(),d.1.2.2.1,(),()),(d.2.1,d.2.2.1,d.2.2.2.1,()))⟩,
  ⟨⟨.rt,[4],[.p (.i .i64)],[.d,.d,.d]⟩,Int,fun d r=>((r,()),((),(),(),()))⟩],
 fun k d=>ba (xP (dM d.2.1) d.2.2.2.1 k d.1.2.2.2.2.1)⟩ (bJ.bW (fun d=>rfl) fun k aA aG q h=>by
 conv=>rhs;simp only [xP,a6];simp only [bR]
 kernel_rfl)
noncomputable def ajH (F:Nat):aX aU:=(ajG F).bX 51 4 F ⟨[2,3,6,8,10,11],[.p (.B 0),.p (.B 1),.p (.l 3),.p (.R 2),.p (.i .i64),.p (.i .i64)],[h3,dL,.r 3 true],
 [⟨⟨.nm,[2,3,6,8,10],[.p (.B 0),.p (.B 1),.p (.l 3),.p (.R 2),.p (.i .i64)],[h3,dL,.r 3 true]⟩,Unit,fun d r=>(((),(),d.1.2.2.1,(),d.1.2.2.2.2.1,()),(d.2.1,d.2.2.1,d.2.2.2.1,()))⟩,
  ⟨⟨.rt,[4],[.p (.i .i64)],[.d,.d,.d]⟩,Int,fun d r=>((r,()),((),(),(),()))⟩],
 fun k d=>ba (xQ (dM d.2.1) d.2.2.2.1 d.1.2.2.2.2.1 k d.1.2.2.2.2.2.1)⟩ (bJ.bW (fun d=>rfl) fun k aA aG q h=>by
 conv=>rhs;simp only [xQ,a6];simp only [bR]
 kernel_rfl)
noncomputable def ajI (F:Nat):aX aU:=(ajH F).bX 51 2 F ⟨[2,3,6,8,10],[.p (.B 0),.p (.B 1),.p (.l 3),.p (.R 2),.p (.i .i64)],[h3,dL,.r 3 true],
 [⟨⟨.nm,[2,3,6,8],[.p (.B 0),.p (.B 1),.p (.l 3),.p (.R 2)],[h3,dL,.r 3 true]⟩,Unit,fun d r=>(((),(),d.1.2.2.1,(),()),(d.2.1,d.2.2.1,d.2.2.2.1,()))⟩,
  ⟨⟨.rt,[4],[.p (.i .i64)],[.d,.d,.d]⟩,Int,fun d r=>((r,()),((),(),(),()))⟩],
 fun k d=>ba (uQ F (dM d.2.1) d.2.2.2.1 k d.1.2.2.2.2.1)⟩ (bJ.bW (fun d=>rfl) fun k aA aG q h=>by
 conv=>rhs;simp only [uQ,a6];simp only [bR]
 kernel_rfl)
noncomputable def ajK (F:Nat):aX aU:=(ajI F).bX 51 8 F ⟨[2,3,6,8,12,13,14],[.p (.B 0),.p (.B 1),.p (.l 3),.p (.l 3),.p (.i .i64),.p (.l 3),.p (.i .i64)],[h3,dL],
 [⟨⟨.nm,[2,3,6,8,12],[.p (.B 0),.p (.B 1),.p (.l 3),.p (.l 3),.p (.i .i64)],[h3,dL]⟩,Unit,fun d r=>(((),(),d.1.2.2.1,d.1.2.2.2.1,d.1.2.2.2.2.1,()),(d.2.1,d.2.2.1,()))⟩,
  ⟨⟨.rt,[4],[.p (.i .i64)],[.d,.d]⟩,Int,fun d r=>((r,()),((),(),()))⟩],
 fun k d=>ba (uR F (dM d.2.1) d.1.2.2.2.1 d.1.2.2.2.2.2.1 k d.1.2.2.2.2.2.2.1)⟩ (bJ.bW (fun d=>rfl) fun k aA aG q h=>by
 conv=>rhs;simp only [uR,a6];simp only [bR]
 kernel_rfl)
noncomputable def ajL (F:Nat):aX aU:=(ajK F).bX 51 6 F ⟨[2,3,6,8,12],[.p (.B 0),.p (.B 1),.p (.l 3),.p (.l 3),.p (.i .i64)],[h3,dL],
 [⟨⟨.nm,[2,3,6],[.p (.B 0),.p (.B 1),.p (.l 3)],[h3,dL]⟩,Unit,fun d r=>(((),(),d.1.2.2.1,()),(d.2.1,d.2.2.1,()))⟩,
  ⟨⟨.rt,[4],[.p (.i .i64)],[.d,.d]⟩,Int,fun d r=>((r,()),((),(),()))⟩],
 fun k d=>ba (xR F (dM d.2.1) (eX d.2.2.1) d.1.2.2.2.1 k d.1.2.2.2.2.1)⟩ (bJ.bW (fun d=>rfl) fun k aA aG q h=>by
 conv=>rhs;simp only [xR,a6];simp only [bR]
 kernel_rfl)
noncomputable def ajM (F:Nat):aX aU:=(ajL F).bX 51 10 F ⟨[2,3,6,15],[.p (.B 0),.p (.B 1),.p (.l 3),.p (.i .i64)],[h3,dL],
 [⟨⟨.nm,[2,3,6],[.p (.B 0),.p (.B 1),.p (.l 3)],[h3,dL]⟩,Unit,fun d r=>(((),(),d.1.2.2.1,()),(d.2.1,d.2.2.1,()))⟩,
  ⟨⟨.rt,[4],[.p (.i .i64)],[.d,.d]⟩,Int,fun d r=>((r,()),((),(),()))⟩],
 fun k d=>ba (r8 (dM d.2.1) k d.1.2.2.2.1)⟩ (bJ.bW (fun d=>rfl) fun k aA aG q h=>by
 conv=>rhs;simp only [r8,a6];simp only [bR]
 kernel_rfl)
noncomputable def NY (F:Nat) (k:Nat) (aC:J.aW) (aR:J.aQ) (en:(List Int) × (List Int) × Bool) (j6:Int):=c9 (True) (ba (nU F aC aR en k j6))
theorem RR (F:Nat) (k:Nat) (aC:J.aW) (aR:J.aQ) (en:(List Int) × (List Int) × Bool) (j6:Int):ba (nU F aC aR en k j6)=NY F k aC aR ([],en.2.1,false) j6:=(show ba (nU F aC aR en k j6)=ba (nU F aC aR ([],en.2.1,false) k j6) by kernel_rfl).trans (dy trivial).symm
noncomputable def ajN (F:Nat):aX aU:=(ajM F).bX 51 12 F ⟨[2,3,6,16],[.p (.B 0),.p (.B 1),.p (.l 3),.p (.i .i64)],[h3,dL],
 [⟨⟨.nm,[2,3,6],[.p (.B 0),.p (.B 1),.p (.l 3)],[h3,dL]⟩,Unit,fun d r=>(((),(),d.1.2.2.1,()),(d.2.1,d.2.2.1,()))⟩,
  ⟨⟨.rt,[4],[.p (.i .i64)],[.d,.d]⟩,Int,fun d r=>((r,()),((),(),()))⟩],
 fun k d=>NY F k (dM d.2.1) (eX d.2.2.1) ([],d.1.2.2.1,false) d.1.2.2.2.1⟩ (bJ.bW (fun d=>dx) fun k aA aG q h=>by
 obtain ⟨_,_,(a0:List Int),(v1:Int),_⟩:=aA
 obtain ⟨⟨(v2:List Int),(bs:Int),(v4:Int),(bY:Int),(v6:Int),(cu:List Int),(cB:Int),_⟩,⟨(cG:List J.aq),(v10:List Int),(v11:List (List J.Field)),(df:List (List (List UInt8))),(dN:List (List J.Target)),_⟩,_⟩:=aG
 conv=>rhs;change Option.map (α:=Unit ⊕ Int) _ (NY F (k+ 1) (⟨v2,bs,v4,bY,v6,cu,cB⟩:J.aW) (⟨cG,v10,v11,df,dN⟩:J.aQ) ([],a0,false) v1);rw [<-RR F (k+ 1) (⟨v2,bs,v4,bY,v6,cu,cB⟩:J.aW) (⟨cG,v10,v11,df,dN⟩:J.aQ) ([],a0,false) v1];simp only [nU,a6,RR];simp only [bR]
 kernel_rfl)
noncomputable def N0 (F:Nat) (k:Nat) (aC:J.aW) (en:(List Int) × (List Int) × Bool) (h1:Int) (nr:List Int) (pT:Int):=c9 (True) (ba (o4 F aC en h1 nr k pT))
theorem RT (F:Nat) (k:Nat) (aC:J.aW) (en:(List Int) × (List Int) × Bool) (h1:Int) (nr:List Int) (pT:Int):ba (o4 F aC en h1 nr k pT)=N0 F k aC ([],en.2.1,false) h1 nr pT:=(show ba (o4 F aC en h1 nr k pT)=ba (o4 F aC ([],en.2.1,false) h1 nr k pT) by kernel_rfl).trans (dy trivial).symm
noncomputable def ajO (F:Nat):aX aU:=(ajN F).bX 51 16 F ⟨[2,3,6,17,18,19],[.p (.B 0),.p (.B 1),.p (.l 3),.p (.i .i64),.p (.l 3),.p (.i .i64)],[h3,dL],
 [⟨⟨.nm,[2,3,6,17],[.p (.B 0),.p (.B 1),.p (.l 3),.p (.i .i64)],[h3,dL]⟩,Unit,fun d r=>(((),(),d.1.2.2.1,d.1.2.2.2.1,()),(d.2.1,d.2.2.1,()))⟩,
  ⟨⟨.rt,[4],[.p (.i .i64)],[.d,.d]⟩,Int,fun d r=>((r,()),((),(),()))⟩],
 fun k d=>N0 F k (dM d.2.1) ([],d.1.2.2.1,false) d.1.2.2.2.1 d.1.2.2.2.2.1 d.1.2.2.2.2.2.1⟩ (bJ.bW (fun d=>dx) fun k aA aG q h=>by
 obtain ⟨_,_,(a0:List Int),(v1:Int),(v2:List Int),(bs:Int),_⟩:=aA
 obtain ⟨⟨(v4:List Int),(bY:Int),(v6:Int),(cu:Int),(cB:Int),(cG:List Int),(v10:Int),_⟩,⟨(v11:List J.aq),(df:List Int),(dN:List (List J.Field)),(eh:List (List (List UInt8))),(fr:List (List J.Target)),_⟩,_⟩:=aG
 conv=>rhs;change Option.map (α:=Unit ⊕ Int) _ (N0 F (k+ 1) (⟨v4,bY,v6,cu,cB,cG,v10⟩:J.aW) ([],a0,false) v1 v2 bs);rw [<-RT F (k+ 1) (⟨v4,bY,v6,cu,cB,cG,v10⟩:J.aW) ([],a0,false) v1 v2 bs];simp only [o4,a6,RT];simp only [bR]
 kernel_rfl)
noncomputable def NZ (F:Nat) (k:Nat) (aC:J.aW) (aR:J.aQ) (en:(List Int) × (List Int) × Bool) (h1:Int):=c9 (True) (ba (qx F aC aR en k h1))
theorem RS (F:Nat) (k:Nat) (aC:J.aW) (aR:J.aQ) (en:(List Int) × (List Int) × Bool) (h1:Int):ba (qx F aC aR en k h1)=NZ F k aC aR ([],en.2.1,false) h1:=(show ba (qx F aC aR en k h1)=ba (qx F aC aR ([],en.2.1,false) k h1) by kernel_rfl).trans (dy trivial).symm
noncomputable def ajP (F:Nat):aX aU:=(ajO F).bX 51 14 F ⟨[2,3,6,17],[.p (.B 0),.p (.B 1),.p (.l 3),.p (.i .i64)],[h3,dL],
 [⟨⟨.nm,[],[],[h3,dL]⟩,Unit,fun d r=>((),(d.2.1,d.2.2.1,()))⟩,
  ⟨⟨.rt,[4],[.p (.i .i64)],[.d,.d]⟩,Int,fun d r=>((r,()),((),(),()))⟩],
 fun k d=>NZ F k (dM d.2.1) (eX d.2.2.1) ([],d.1.2.2.1,false) d.1.2.2.2.1⟩ (bJ.bW (fun d=>dx) fun k aA aG q h=>by
 obtain ⟨_,_,(a0:List Int),(v1:Int),_⟩:=aA
 obtain ⟨⟨(v2:List Int),(bs:Int),(v4:Int),(bY:Int),(v6:Int),(cu:List Int),(cB:Int),_⟩,⟨(cG:List J.aq),(v10:List Int),(v11:List (List J.Field)),(df:List (List (List UInt8))),(dN:List (List J.Target)),_⟩,_⟩:=aG
 conv=>rhs;change Option.map (α:=Unit ⊕ Int) _ (NZ F (k+ 1) (⟨v2,bs,v4,bY,v6,cu,cB⟩:J.aW) (⟨cG,v10,v11,df,dN⟩:J.aQ) ([],a0,false) v1);rw [<-RS F (k+ 1) (⟨v2,bs,v4,bY,v6,cu,cB⟩:J.aW) (⟨cG,v10,v11,df,dN⟩:J.aQ) ([],a0,false) v1];simp only [qx,a6,RT,RS];simp only [bR]
 kernel_rfl)
noncomputable def ajQ (F:Nat):aX aU:=(ajP F).rt 51 ⟨[iu,gW],[],[.p (.i .i64)],[],Int,fun d=>AQ F (dM d.1.1) (eX d.1.2.1),fun d r=>((r,()),())⟩ fun aA aG=>by
 obtain ⟨⟨(a0:List Int),(v1:Int),(v2:Int),(bs:Int),(v4:Int),(bY:List Int),(v6:Int),_⟩,⟨(cu:List J.aq),(cB:List Int),(cG:List (List J.Field)),(v10:List (List (List UInt8))),(v11:List (List J.Target)),_⟩,_⟩:=aA
 conv=>rhs;simp only [AQ,a6,RR,RS]
 kernel_rfl
noncomputable def ajR (F:Nat):aX aU:=(ajQ F).rt 20 ⟨[iu,gW],[],[.p (.i .i64)],[],Int,fun d=>uX F (dM d.1.1) (eX d.1.2.1),fun d r=>((r,()),())⟩ fun aA aG=>by
 conv=>rhs;simp only [uX,a6]
 kernel_rfl
noncomputable def ajS (F:Nat):aX aU:=(ajR F).rt 14 ⟨[iu],[],[.p (.i .i64)],[],Int,fun d=>VY (dM d.1.1),fun d r=>((r,()),())⟩ fun aA aG=>by
 conv=>rhs;simp only [VY,a6]
 kernel_rfl
noncomputable def ajT (F:Nat):aX aU:=(ajS F).bX 18 0 F ⟨[0,1,5],[.p (.l 3),.p (.l 3),.p (.i .i64)],[],
 [⟨⟨.nm,[],[],[]⟩,Unit,fun d r=>((),())⟩,
  ⟨⟨.rt,[4],[.p (.b)],[]⟩,Bool,fun d r=>((r,()),())⟩],
 fun k d=>ba (sa d.1.1 d.1.2.1 k d.1.2.2.1)⟩ (bJ.bW (fun d=>rfl) fun k aA aG q h=>by
 conv=>rhs;simp only [sa,a6];simp only [bR]
 kernel_rfl)
noncomputable def ajV (F:Nat):aX aU:=(ajT F).rt 18 ⟨[.p (.l 3),.p (.l 3)],[],[.p (.b)],[],Bool,fun d=>mO F d.1.1 d.1.2.1,fun d r=>((r,()),())⟩ fun aA aG=>by
 conv=>rhs;simp only [mO,a6]
 kernel_rfl
noncomputable def ajW (F:Nat):aX aU:=(ajV F).rt 32 ⟨[iu,iu],[],[.p (.b)],[],Bool,fun d=>Mq F (dM d.1.1) (dM d.1.2.1),fun d r=>((r,()),())⟩ fun aA aG=>by
 conv=>rhs;simp only [Mq,a6]
 kernel_rfl
noncomputable def ajX (F:Nat):aX aU:=(ajW F).rt 17 ⟨[iu,.p (.i .i64),.p (.i .i64),iu],[],[.p (.b)],[],Bool,fun d=>xJ F (dM d.1.1) d.1.2.1 d.1.2.2.1 (dM d.1.2.2.2.1),fun d r=>((r,()),())⟩ fun aA aG=>by
 conv=>rhs;simp only [xJ,a6]
 kernel_rfl
noncomputable def N3 (F:Nat) (k:Nat) (fH:List Int) (hP:(List Int) × (List Int) × Bool) (mn:Int):=c9 (True) (ba (nV F fH hP k mn))
theorem RW (F:Nat) (k:Nat) (fH:List Int) (hP:(List Int) × (List Int) × Bool) (mn:Int):ba (nV F fH hP k mn)=N3 F k fH (hP.1,hP.2.1,false) mn:=(show ba (nV F fH hP k mn)=ba (nV F fH (hP.1,hP.2.1,false) k mn) by kernel_rfl).trans (dy trivial).symm
noncomputable def ajY (F:Nat):aX aU:=(ajX F).bX 40 0 F ⟨[2,7,8,10],[.p (.l 3),.p (.l 3),.p (.l 3),.p (.i .i64)],[],
 [⟨⟨.nm,[],[],[]⟩,Unit,fun d r=>((),())⟩,
  ⟨⟨.rt,[6],[.p (.i .i64)],[]⟩,Int,fun d r=>((r,()),())⟩],
 fun k d=>N3 F k d.1.1 (d.1.2.1,d.1.2.2.1,false) d.1.2.2.2.1⟩ (bJ.bW (fun d=>dx) fun k aA aG q h=>by
 obtain ⟨(a0:List Int),(v1:List Int),(v2:List Int),(bs:Int),_⟩:=aA
 conv=>rhs;change Option.map (α:=Unit ⊕ Int) _ (N3 F (k+ 1) a0 (v1,v2,false) bs);rw [<-RW F (k+ 1) a0 (v1,v2,false) bs];simp only [nV,a6,RW];simp only [bR]
 kernel_rfl)
noncomputable def ajZ (F:Nat):aX aU:=(ajY F).rt 40 ⟨[iu,gW,.p (.l 3)],[],[.p (.i .i64)],[],Int,fun d=>uV F (dM d.1.1) (eX d.1.2.1) d.1.2.2.1,fun d r=>((r,()),())⟩ fun aA aG=>by
 obtain ⟨⟨(a0:List Int),(v1:Int),(v2:Int),(bs:Int),(v4:Int),(bY:List Int),(v6:Int),_⟩,⟨(cu:List J.aq),(cB:List Int),(cG:List (List J.Field)),(v10:List (List (List UInt8))),(v11:List (List J.Target)),_⟩,(df:List Int),_⟩:=aA
 conv=>rhs;simp only [uV,a6,RW]
 kernel_rfl
noncomputable def Hh (F:Nat):aX aU:=(ajZ F).rt 13 ⟨[iu,gW,.p (.l 3)],[],[.p (.i .i64)],[],Int,fun d=>Ml F (dM d.1.1) (eX d.1.2.1) d.1.2.2.1,fun d r=>((r,()),())⟩ fun aA aG=>by
 conv=>rhs;simp only [Ml,a6]
 kernel_rfl
end Go.Proofs.YteeliipnilghaaaGreat
namespace J
def ql (n:Int):Nat->List Int->Int->Option (List Int)
 | 0,_,_=>none
 | k+ 1,l,i=>cond (decide (i <n)) ((bO 8 l [i]).bind fun l'=>ql n k l' (aE (i+ 1))) (some l)
def rY (F:Nat) (n:Int):Option (List Int):=ql n F [] 0
end J
namespace Go.Proofs.YteeliipnilghaaaGreat
open Go Go.RowKit ax J bB
set_option maxHeartbeats 4000000
set_option maxRecDepth 20000
def w3 (a:Nat):dh Int where
 size:=1
 rd _ _ cs q:=cs= [.pointer (some ⟨a,q.toNat,none⟩)]
 len h:=by subst h;rfl
 one h v af:=by subst h;simp at af;subst af;rfl
 law _ h:=h
theorem avF {F:Nat->Prop} {w:World} {g:Nat} {i:Int}:(w3 g).rd F w [.pointer (some ⟨g,0 +i.toNat* 1,none⟩)] i:=by
 show [_]= [_]
 rw [Nat.zero_add,Nat.mul_one]
theorem ar1:(Tryz.prog.info? 109).map (fun i=>(i.zero,i.size,i.bytes))=some (some (.pointer none),1,8):=by kernel_rfl
theorem amu {W:World} {X:List Nat} {F:Nat} {A:hW} {n c:Nat} {r:List Int} {M0:List Nat} (aF:n<= 9223372036854775807) (dH:0 <n->A=some ⟨dm A,0,none⟩) (hm:bq W M0 X W [] []) (h:J.rY F (n:Int)=some r) :
 Calls Tryz.prog 39 [.slice A n c].toArray W (fun e w'=>∃ cR:Option Addr,∃ bF:Nat,∃ xs:List Value,e= .returned (.q cR bF r)/\bq W M0 X w' [a7.row 109 1 (.q cR bF r) r xs] [bw.rows (w3 (dm A)) xs r]):=by
 refine enter Tryz.func39 rfl Tryz.ntmps39 rfl fun a ag=>?_;rw [J.rY] at h
 refine n6 [] [(0,.slice A n c)] ag fun a ag=>n6 [] [(3,.slice none 0 0)] ag fun a ag=>?_
 have hm:=hm.Fu (α:=Int) 109 1;have hm:=hm.more (y:=bw.rows (w3 (dm A)) [] []) rfl
 refine wp_seq_k fun K sB=>n6 [] [(6,.i n),(7,.i 0)] ag fun a ag=>?_
 refine HK (fun a w=>∃ (ec:hW) (c1:Nat) (rX:mL),Fr ⟨18,[]⟩ [(3,.q ec c1 r)] a/\bq W M0 X w [a7.row 109 1 (.q ec c1 r) r rX] [bw.rows (w3 (dm A)) rX r]) (fun K py=>?_) ?_
 · refine ML (fun (bj:Nat) a w=>∃ (ec:hW) (c1:Nat) (l1:AL) (rX:mL) (i:Int),Fr ⟨18,[]⟩ [(0,.slice A n c),(3,.q ec c1 l1),(6,.i n),(7,.i i)] a/\bq W M0 X w [a7.row 109 1 (.q ec c1 l1) l1 rX] [bw.rows (w3 (dm A)) rX l1]/\ 0 <=i/\J.ql n bj l1 i=some r) F ⟨none,0,[],[],0,ag.cut,hm,Int.le_refl _,h⟩ ?_ ?_
   · rintro a w ⟨ec,c1,l1,rX,i,ag,hm,hi,h⟩;exact absurd h (by simp [J.ql])
   rintro bj a w ⟨ec,c1,l1,rX,i,ag,hm,hi,h⟩ K D';rw [J.ql] at h
   refine n6 [] [(8,.bool (decide (i <n)))] ag fun a ag=>?_
   refine wp_seq_k fun K Ea=>HM (ag.g rfl) h (fun ah h=>?_) (fun ah h=>?_)
   · refine wp_skip <| Ea _ _ <| wp_seq_k fun K O4=>?_
     have bx:i <(n:Int):=of_decide_eq_true ah
     obtain ⟨g,rfl⟩:∃ g,A=some ⟨g,0,none⟩:=⟨_,dH (by omega)⟩
     obtain ⟨cp,yT,h⟩:=J.fZ h
     refine HK (fun a w=>∃ (c8:hW) (c2:Nat) (C':mL),Fr ⟨18,[]⟩ [(0,.slice (some ⟨g,0,none⟩) n c),(3,.q c8 c2 cp),(6,.i n),(7,.i i)] a/\bq W M0 X w [a7.row 109 1 (.q c8 c2 cp) cp C'] [bw.rows (w3 g) C' cp]) (fun K D_=>?_) ?_
     · refine n6 [] [(4,.i i)] ag fun a ag=>?_
       refine mQ <| jT 3 [] [(10,.q ec c1 l1),(11,.slice (some ⟨g,0,none⟩) n c),(12,.i i)] ag fun a ag=>nz wn (nM Tryz.underlying22 Tryz.sizeOf3 rfl (ag.g rfl) (ag.g rfl) rfl ⟨hi,bx⟩) ag rfl rfl fun a ag=>?_
       refine aa' (cs:=[.pointer (some ⟨g,0 +i.toNat* 1,none⟩)]) wn (Ay (vs:=[(0,.pointer (some ⟨g,0 +i.toNat* 1,none⟩))]) Tryz.underlying73 Tryz.sizeOf109 Tryz.zeroValue109 rfl rfl rfl ⟨⟨(ag.g rfl),rfl⟩,trivial⟩ (by kernel_rfl)) ag hm rfl rfl fun a bE w _ ag hm=>?_
       refine F5 (T:=w3 g) (ml:=[i]) 1 0 0 hm rfl rfl rfl Tryz.underlying73 ar1 rfl rfl yT rfl rfl ⟨_,_,rfl,avF,rfl⟩ wn rfl (ag.g rfl) (ag.g rfl) ag rfl rfl fun a c8 c2 C' w ag hm=>?_
       refine jT 1 [] [(3,.q c8 c2 cp)] ag fun a ag=>wpList_nil ?_
       exact D_ _ _ ⟨c8,c2,C',ag.cut,hm.hO [0]⟩
     rintro a w ⟨c8,c2,C',ag,hm⟩
     refine O4 _ _ <| W' [] [(7,.i (J.aE (i+ 1)))] ag fun a ag=>?_
     exact D' _ _ ⟨c8,c2,cp,C',J.aE (i+ 1),ag.cut,hm,by rw [show J.aE (i+ 1)=i+ 1 by unfold J.aE;omega];omega,h⟩
   · refine wp_exit <| qi (qi (C_ ?_));obtain rfl:=cZ h;exact py _ _ ⟨ec,c1,rX,ag.cut,hm⟩
 rintro a w ⟨ec,c1,rX,ag,hm⟩
 refine sB _ _ <| Gl [] [(2,.q ec c1 r)] ag fun a ag=>wp_ret ?_;refine FR Tryz.results39 ag rfl ?_;exact ⟨ec,c1,rX,rfl,hm⟩
theorem abP {n:Int}:∀ {k:Nat} {l r:List Int} {i:Int},J.ql n k l i=some r->n<= 9223372036854775807 -> 0 <=i->(∀ q ∈ l,0 <=q/\q <n)-> ∀ q ∈ r,0 <=q/\q <n
 | 0,l,r,i,h,_,_,_=>by simp [J.ql] at h
 | k+ 1,l,r,i,h,aF,hi,ap=>by
   rw [J.ql] at h
   cases ah:decide (i <n) with
   | false=>rw [ah] at h;obtain rfl:=cZ h;exact ap
   | true=>
     rw [ah] at h
     have bx:=of_decide_eq_true ah
     obtain ⟨cp,aa,h⟩:=J.fZ h
     have e:J.aE (i+ 1)=i+ 1 :=by unfold J.aE;omega
     rw [e] at h
     refine abP h aF (by omega) fun q aS=>?_
     have:cp=l++[i]:=by
      unfold bO at aa
      split at aa
      · exact (cZ aa).symm
      · cases aa
     rw [this] at aS
     rcases List.mem_append.1 aS with aS | aS
     · exact ap q aS
     · cases List.mem_singleton.1 aS;exact ⟨hi,bx⟩
theorem abX {ρ:List Value} {bl:List (aJ bQ.El)} {F:Nat->Prop} {w:World} {g n c:Nat} (aP:ρ[0]? =some (.slice (some ⟨g,0,none⟩) n c)) (ay:b4 bl[0]? = 0):∀ {r:List Int} {xs:List Value},(∀ q ∈ r,0 <=q/\q <(n:Int))->dT (w3 g) F w xs r->qv ρ bl 0 0 1 r xs
 | [],xs,_,h=>h
 | q::r,xs,aS,h=>by
   obtain ⟨cs,ys,rfl,I,aa⟩:=h
   have I:cs= [.pointer (some ⟨g,q.toNat,none⟩)]:=I
   subst I
   have:=aS q (by simp)
   exact ⟨_,_,rfl,⟨trivial,_,aP,Nat.zero_le _,fun _=>⟨_,_,_,rfl,this.1,this.2,by simp [dm]⟩⟩,abX aP ay (fun q sW=>aS q (by simp [sW])) aa⟩
@[reducible] noncomputable def Qu (F:Nat):ih bQ:=⟨[.p (.R 0)],[.r 3 true],[.p (.P 0 1)],[.r 3 true],List Int,fun d=>rY F d.2.1.length,fun d r=>((r,()),(d.2.1,()))⟩
theorem am7 (F:Nat):(Qu F).hs.Hk aU 39 :=by
 intro aA aG lv h W M0 X ρ w vs hm af
 obtain ⟨⟨⟩,⟨⟩⟩:=aA
 obtain ⟨l,⟨⟩⟩:=aG
 have h:Option.map _ (J.rY F (l:List Int).length)=some lv:=h
 obtain ⟨r,aB,rfl⟩:=Option.map_eq_some_iff.1 h
 have hm:Mem bQ W M0 X [.r 3 0 0 l] ρ w:=hm
 have af:a4 bQ (bm X [.r 3 0 0 l] ρ w) w ρ [.r 3 0 0 l] [.r 0 0] vs:=af
 obtain ⟨aP,BH⟩:=hm.BW (i:=0) rfl
 obtain ⟨A,c,xs,rfl,od,_⟩:=hm.ok 0 _ _ rfl BH
 simp only [a4,aw] at af
 obtain ⟨v,_,rfl,⟨_,u,hu,_,af⟩,rfl⟩:=af
 rw [BH] at hu
 cases hu
 obtain rfl:=af rfl
 have qU:=od.cap
 have IF:List.length (α:=Int) l<=c:=qU.1
 have aF:List.length (α:=Int) l<= 9223372036854775807 :=by have:=qU.2.1;simp only [maxLen] at this;omega
 have dH:0 <List.length (α:=Int) l->A=some ⟨dm A,0,none⟩:=fun aH=>by
  obtain ⟨g,rfl⟩:=qU.2.2.2 (by omega)
  rfl
 refine ⟨⟨.ret (.pp 0 0 1 r),[.r 3 0 0 l],[]⟩,by kernel_rfl,?_⟩
 refine (amu (X:=[]) (M0:=[]) aF dH (bq.start [] [] w [] [] (by simp) (by simp [b7]) (by simp) (by simp [b7]) (by simp)) aB).mono fun e w' ⟨cR,bF,ys,he,ao⟩=>?_
 refine ⟨ρ,hm.fg ao.b_,Mem.CG ao.b_,fun k ai _=>ao.b_.block k ai (by simp),?_⟩
 subst he
 show aw _ _ _ _ _ (.pp 0 0 1 r) _
 simp only [aw]
 have av:(a7.row 109 1 (.slice cR r.length bF) r ys).ok w':=ao.e 0 rfl
 obtain ⟨_,_,ak,al,aT,bU,dn⟩:=F2 av
 simp only [Value.slice.injEq,true_and] at ak
 obtain ⟨rfl,rfl⟩:=ak
 refine ⟨cR,bF,rfl,al,bU,fun b5=>?_⟩
 have gO:0 <r.length:=List.length_pos_iff.2 b5
 have mZ:cR≠none:=fun e=>by have:=bU e;omega
 have ape:=dn mZ
 have f_:∀ q ∈ r,0 <=q/\q <((List.length (α:=Int) l:Nat):Int):=abP aB (Int.ofNat_le.2 aF) (Int.le_refl _) (by simp)
 have k9:0 <List.length (α:=Int) l:=by
  obtain ⟨q,aS⟩:=List.exists_mem_of_ne_nil r b5
  have:=f_ q aS
  omega
 have apm:=dH k9
 obtain ⟨g,rfl⟩:∃ g,A=some ⟨g,0,none⟩:=⟨_,apm⟩
 obtain ⟨g',rfl⟩:∃ g',cR=some ⟨g',0,none⟩:=⟨_,ape⟩
 have bx:=ao.lt g' (by simp [b7,a7.row,Value.ownBlock])
 have IJ:w.heap.size<=g':=bx.2.resolve_left (by simp)
 have dI:W.heap.size<=w.heap.size:=hm.b_.size
 refine ⟨rfl,⟨fun O5=>?_,fun av=>?_,bx.1⟩,ys,abX BH rfl f_ (ao.d 0 rfl),?_⟩
 · have:g' <W.heap.size:=(hm.hC _ O5).1;omega
 · have:g' <w.heap.size:=(hm.lt _ av).1;omega
 · have iT:w'.ownsRow 0 109 1 (.slice (some ⟨g',0,none⟩) r.length bF) r.length ys:=av
   have:=rH gO (Or.inl iT)
   obtain ⟨bE,bp,bI,b2,_⟩:=this
   simp only [Option.some.injEq,Addr.mk.injEq,and_true] at bp
   subst bp
   exact b2
theorem amp (F:Nat):kQ aU 39 ((Qu F).run aU):=fun ys bl r aj=>HT (am7 F) ys bl r (zR aj)
end Go.Proofs.YteeliipnilghaaaGreat
namespace Go.Proofs.YteeliipnilghaaaGreat
open Go Go.RowKit ax J bB
@[reducible] def BT:ih bQ:=⟨[],[],[.p .b],[],Bool,fun _=>some true,fun _ r=>((r,()),())⟩
theorem anZ:BT.Eq r4 (DW r4 (Hh 2000).t.kf (fun _ _=>none) 100) (fun _ _=>none) 16 :=fun aA aG=>by
 kernel_rfl
theorem WS (g:Nat) (h:List (aL bQ.El)->List (aJ bQ.El)->D (fx bQ.El)):kQ aU g h=kQ r4 g h:=by kernel_rfl
theorem amo:kQ r4 16 (BT.run r4):=
 have ap:xL r4 (fun _ _=>none):=fun g fn c _ _ _=>ts (fun _=>rfl) c
 have hc:=((Hh 2000).ok pk).ce
 have IF:Mg r4 (Hh 2000).t.kf:=⟨hc.cx,fun g h ay=>(WS g h) ▸ hc.ok g h ay⟩
 fun ys bl r aj=>DM XP (n8 XP IF ap 100) ap rfl (c:=BT.hs) (fw.Eq.v anZ) ys bl r (zR aj)
theorem ayr:BT.run aU=BT.run r4:=by kernel_rfl
noncomputable def aj0 (F:Nat):aX aU:=(Hh F).add 16 (BT.run aU) (ayr ▸ (WS 16 _) ▸ amo)
noncomputable def aj1 (F:Nat):aX aU:=(aj0 F).add 39 ((Qu F).run aU) (amp F)
end Go.Proofs.YteeliipnilghaaaGreat
namespace Go.Proofs.YteeliipnilghaaaGreat
open Go Go.RowKit ax J bB
set_option maxRecDepth 100000
@[reducible] def Ch:bN:=.c 24 [.R 2,.i .i64,.i .i64,.i .i64,.i .i64,.l 3,.i .i64]
@[reducible] def wG:bN:=.c 24 [.R 1,.i .i64,.i .i64,.i .i64,.i .i64,.l 3,.i .i64]
@[reducible] def abI:dg:=.a [.l 3,.i .i64,.i .i64,.i .i64,.i .i64,.l 3,.i .i64]
@[reducible] def Ci:bN:=.c 108 [.B 1,.l 134,.l 3,.l 124,.l 120,.l 121,.M 3]
@[reducible] def Cj:bN:=.c 108 [.B 0,.l 134,.l 3,.l 124,.l 120,.l 121,.M 3]
@[reducible] def abJ:dg:=.a [.l 134,.l 3,.l 124,.l 120,.l 121]
abbrev ahW:=(Unit × (Unit × List aq × List Int × List (List J.Field) × List (List (List UInt8)) × List (List J.Target) × Unit × Unit) × (Unit × Int × Int × Int × Int × List Int × Int × Unit) × List Int × List (Int × Int) × Unit)
abbrev L5:=(Unit × List aq × List Int × List (List J.Field) × List (List (List UInt8)) × List (List J.Target) × Unit × Unit)
abbrev G5:=(Unit × Int × Int × Int × Int × List Int × Int × Unit)
def rZ (F:Nat) (cI:Int) (ft:List aq) (jL:List Int) (qd:List (List J.Field)) (GR:List (List (List UInt8))) (UC:List (List J.Target)) (xk:Int) (C1:Int) (xr:Int) (qh:Int) (Gw:List Int) (GB:Int) (nH:List Int) (CR:List (Int × Int)):Option ((Int × Unit) × L5 × G5 × List Int × List (Int × Int) × Unit):=
 cond (decide (cI= 0) || decide (xk <cI)) (some ((cI,()),((),ft,jL,qd,GR,UC,(),()),((),xk,C1,xr,qh,Gw,GB,()),nH,CR,())) (
cond ((dz CR cI).isSome) (some ((((dz CR cI).getD 0),()),((),ft,jL,qd,GR,UC,(),()),((),xk,C1,xr,qh,Gw,GB,()),nH,CR,())) (
(idx nH (aE (cI+ 1))).bind fun Lf=>
(if (0 :Int)<=qh/\qh<=(↑nH.length:Int)/\(↑nH.length:Int)<=(↑nH.length:Int) then some () else none).bind fun aEH=>
(if (0 :Int)<=cI/\cI<=aE (cI+aE (3 +Lf))/\aE (cI+aE (3 +Lf))<=(↑nH.length:Int) then some () else none).bind fun aEI=>
(tL (decide (0 <nH.length))).bind fun aEJ=>
some ((qh,()),((),ft,jL,qd,GR,UC,(),()),((),xk,C1,xr,(aE (qh+aE (3 +Lf))),Gw,GB,()),(fp nH qh.toNat (List.take ((↑nH.length:Int) - qh).toNat (List.drop cI.toNat (List.take (aE (cI+aE (3 +Lf))).toNat nH)))),(hD CR cI qh),())))
noncomputable def aj2 (F:Nat):aX aU:=(aj1 F).fn 69 ⟨[.p (.B 0),.p (.i .i64)],[Ci,Ch,.r 3 true,.m 3 3],[.p (.i .i64)],[Ci,Ch,.r 3 true,.m 3 3],fun d=>rZ F d.1.2.1 d.2.1.2.1 d.2.1.2.2.1 d.2.1.2.2.2.1 d.2.1.2.2.2.2.1 d.2.1.2.2.2.2.2.1 d.2.2.1.2.1 d.2.2.1.2.2.1 d.2.2.1.2.2.2.1 d.2.2.1.2.2.2.2.1 d.2.2.1.2.2.2.2.2.1 d.2.2.1.2.2.2.2.2.2.1 d.2.2.2.1 d.2.2.2.2.1⟩ fun aA aG=>by kernel_rfl
def xD (F:Nat):Nat->(Int)->(Int)->(Int)->(List aq)->(List Int)->(List (List J.Field))->(List (List (List UInt8)))->(List (List J.Target))->(Int)->(Int)->(Int)->(Int)->(List Int)->(Int)->(List Int)->(List (Int × Int))->Option ahW
 | 0,_,_,_,_,_,_,_,_,_,_,_,_,_,_,_,_=>none
 | aR+ 1,xj,UE,Ar,LD,LF,LG,qf,mF,kb,qg,xl,xm,xo,xp,rW,xq=>
   cond (decide (Ar <UE)) ((idx rW xj).bind fun As=>
(vz (ch.mk (aQ.mk LD LF LG qf mF)) As Ar).bind fun At=>
cond At ((idx rW (aE (aE (xj+ 3)+Ar))).bind fun Au=>
(rZ F Au LD LF LG qf mF kb qg xl xm xo xp rW xq).bind fun iJ=>
(idx iJ.2.2.2.1 (aE (aE (xj+ 3)+Ar))).bind fun C2=>
xD F aR xj UE (aE (Ar+ 1)) iJ.2.1.2.1 iJ.2.1.2.2.1 iJ.2.1.2.2.2.1 iJ.2.1.2.2.2.2.1 iJ.2.1.2.2.2.2.2.1 iJ.2.2.1.2.1 iJ.2.2.1.2.2.1 iJ.2.2.1.2.2.2.1 iJ.2.2.1.2.2.2.2.1 iJ.2.2.1.2.2.2.2.2.1 iJ.2.2.1.2.2.2.2.2.2.1 (List.set iJ.2.2.2.1 (aE (aE (xj+ 3)+Ar)).toNat iJ.1.1) iJ.2.2.2.2.1) (
xD F aR xj UE (aE (Ar+ 1)) LD LF LG qf mF kb qg xl xm xo xp rW xq)) (
some ((),((),LD,LF,LG,qf,mF,(),()),((),kb,qg,xl,xm,xo,xp,()),rW,xq,()))
noncomputable def aj3 (F:Nat):aX aU:=(aj2 F).rh 70 0 F ⟨[0,1,16,17],[.p (.B 0),.p (.i .i64),.p (.i .i64),.p (.i .i64)],[Ci,Ch,.r 3 true,.m 3 3],[⟨.nm,[],[],[Ci,Ch,.r 3 true,.m 3 3]⟩],fun k d=>xD F k d.1.2.1 d.1.2.2.1 d.1.2.2.2.1 d.2.1.2.1 d.2.1.2.2.1 d.2.1.2.2.2.1 d.2.1.2.2.2.2.1 d.2.1.2.2.2.2.2.1 d.2.2.1.2.1 d.2.2.1.2.2.1 d.2.2.1.2.2.2.1 d.2.2.1.2.2.2.2.1 d.2.2.1.2.2.2.2.2.1 d.2.2.1.2.2.2.2.2.2.1 d.2.2.2.1 d.2.2.2.2.1⟩ ⟨fun d=>by kernel_rfl,fun k aA aG=>by kernel_rfl⟩
def G6 (F:Nat) (Av:Int) (C3:List aq) (C4:List Int) (C5:List (List J.Field)) (C6:List (List (List UInt8))) (C7:List (List J.Target)) (C8:Int) (C9:Int) (uv:Int) (UW:Int) (GX:List Int) (UX:Int) (LI:List Int) (GY:List (Int × Int)):Option ahW:=
 (idx LI (aE (Av+ 1))).bind fun ahc=>
(xD F F Av ahc 0 C3 C4 C5 C6 C7 C8 C9 uv UW GX UX LI GY).bind fun mG=>
some ((),((),mG.2.1.2.1,mG.2.1.2.2.1,mG.2.1.2.2.2.1,mG.2.1.2.2.2.2.1,mG.2.1.2.2.2.2.2.1,(),()),((),mG.2.2.1.2.1,mG.2.2.1.2.2.1,mG.2.2.1.2.2.2.1,mG.2.2.1.2.2.2.2.1,mG.2.2.1.2.2.2.2.2.1,mG.2.2.1.2.2.2.2.2.2.1,()),mG.2.2.2.1,mG.2.2.2.2.1,())
noncomputable def aj5 (F:Nat):aX aU:=(aj3 F).fn 70 ⟨[.p (.B 0),.p (.i .i64)],[Ci,Ch,.r 3 true,.m 3 3],[],[Ci,Ch,.r 3 true,.m 3 3],fun d=>G6 F d.1.2.1 d.2.1.2.1 d.2.1.2.2.1 d.2.1.2.2.2.1 d.2.1.2.2.2.2.1 d.2.1.2.2.2.2.2.1 d.2.2.1.2.1 d.2.2.1.2.2.1 d.2.2.1.2.2.2.1 d.2.2.1.2.2.2.2.1 d.2.2.1.2.2.2.2.2.1 d.2.2.1.2.2.2.2.2.2.1 d.2.2.2.1 d.2.2.2.2.1⟩ fun aA aG=>by kernel_rfl
def AA (F:Nat):Nat->(Int)->(List Int)->(Int)->(Int)->(Int)->(Int)->(Int)->(Int)->(List Int)->(Int)->(List Int)->(List aq)->(List Int)->(List (List J.Field))->(List (List (List UInt8)))->(List (List J.Target))->(List (Int × Int))->(List Int)->Option ((Unit × Unit × Int × Unit) ×
 G5 × List Int × L5 × List (Int × Int) × List Int × Unit)
 | 0,_,_,_,_,_,_,_,_,_,_,_,_,_,_,_,_,_,_=>none
 | aR+ 1,aei,aej,aek,T5,ael,aen,aeo,aep,aeq,aer,aes,aet,aeu,aev,aew,aex,aey,T7=>
   cond (decide (T5 <aek)) ((idx aej T5).bind fun aez=>
(idx T7 aez).bind fun aAy=>
(rZ F aAy aet aeu aev aew aex ael aen aeo aep aeq aer aes aey).bind fun mC=>
AA F aR aei aej aek (aE (T5+ 1)) mC.2.2.1.2.1 mC.2.2.1.2.2.1 mC.2.2.1.2.2.2.1 mC.2.2.1.2.2.2.2.1 mC.2.2.1.2.2.2.2.2.1 mC.2.2.1.2.2.2.2.2.2.1 mC.2.2.2.1 mC.2.1.2.1 mC.2.1.2.2.1 mC.2.1.2.2.2.1 mC.2.1.2.2.2.2.1 mC.2.1.2.2.2.2.2.1 mC.2.2.2.2.1 (T7.set aez.toNat mC.1.1)) (
some (((),(),aei,()),((),ael,aen,aeo,aep,aeq,aer,()),aes,((),aet,aeu,aev,aew,aex,(),()),aey,T7,()))
noncomputable def aj6 (F:Nat):aX aU:=(aj5 F).rh 38 0 F ⟨[0,6,7,22,23,24],[.p (.B 0),.p (.B 2),.p (.i .i64),.p (.P 4 1),.p (.i .i64),.p (.i .i64)],[wG,.r 3 true,Cj,.m 3 3,.r 3 true],[⟨.nm,[0,6,7],[.p (.B 0),.p (.B 2),.p (.i .i64)],[wG,.r 3 true,Cj,.m 3 3,.r 3 true]⟩],fun k d=>AA F k d.1.2.2.1 d.1.2.2.2.1 d.1.2.2.2.2.1 d.1.2.2.2.2.2.1 d.2.1.2.1 d.2.1.2.2.1 d.2.1.2.2.2.1 d.2.1.2.2.2.2.1 d.2.1.2.2.2.2.2.1 d.2.1.2.2.2.2.2.2.1 d.2.2.1 d.2.2.2.1.2.1 d.2.2.2.1.2.2.1 d.2.2.2.1.2.2.2.1 d.2.2.2.1.2.2.2.2.1 d.2.2.2.1.2.2.2.2.2.1 d.2.2.2.2.1 d.2.2.2.2.2.1⟩ ⟨fun d=>by kernel_rfl,fun k aA aG=>by kernel_rfl⟩
def AB (F:Nat):Nat->(Int)->(List Int)->(Int)->(Int)->(Int)->(Int)->(Int)->(Int)->(List Int)->(Int)->(List Int)->(List aq)->(List Int)->(List (List J.Field))->(List (List (List UInt8)))->(List (List J.Target))->(List (Int × Int))->Option ((Unit × Unit × Int × Unit) ×
 G5 × List Int × L5 × List (Int × Int) × Unit)
 | 0,_,_,_,_,_,_,_,_,_,_,_,_,_,_,_,_,_=>none
 | aR+ 1,z_,xb,z',Aa,Li,Lj,aeE,aeG,aeH,aeI,aeJ,aeK,aeL,aeM,aeN,aeO,aeP=>
   cond (decide (Aa <z')) ((idx xb Aa).bind fun aAO=>
(G6 F aAO aeK aeL aeM aeN aeO Li Lj aeE aeG aeH aeI aeJ aeP).bind fun nK=>
AB F aR z_ xb z' (aE (Aa+ 1)) nK.2.2.1.2.1 nK.2.2.1.2.2.1 nK.2.2.1.2.2.2.1 nK.2.2.1.2.2.2.2.1 nK.2.2.1.2.2.2.2.2.1 nK.2.2.1.2.2.2.2.2.2.1 nK.2.2.2.1 nK.2.1.2.1 nK.2.1.2.2.1 nK.2.1.2.2.2.1 nK.2.1.2.2.2.2.1 nK.2.1.2.2.2.2.2.1 nK.2.2.2.2.1) (
some (((),(),z_,()),((),Li,Lj,aeE,aeG,aeH,aeI,()),aeJ,((),aeK,aeL,aeM,aeN,aeO,(),()),aeP,()))
noncomputable def aj7 (F:Nat):aX aU:=(aj6 F).rh 38 2 F ⟨[0,6,7,39,40,41],[.p (.B 0),.p (.B 2),.p (.i .i64),.p (.l 3),.p (.i .i64),.p (.i .i64)],[wG,.r 3 true,Cj,.m 3 3],[⟨.nm,[0,6,7],[.p (.B 0),.p (.B 2),.p (.i .i64)],[wG,.r 3 true,Cj,.m 3 3]⟩],fun k d=>AB F k d.1.2.2.1 d.1.2.2.2.1 d.1.2.2.2.2.1 d.1.2.2.2.2.2.1 d.2.1.2.1 d.2.1.2.2.1 d.2.1.2.2.2.1 d.2.1.2.2.2.2.1 d.2.1.2.2.2.2.2.1 d.2.1.2.2.2.2.2.2.1 d.2.2.1 d.2.2.2.1.2.1 d.2.2.2.1.2.2.1 d.2.2.2.1.2.2.2.1 d.2.2.2.1.2.2.2.2.1 d.2.2.2.1.2.2.2.2.2.1 d.2.2.2.2.1⟩ ⟨fun d=>by kernel_rfl,fun k aA aG=>by kernel_rfl⟩
def AC (F:Nat):Nat->(Int)->(Int)->(Int)->(Int)->(Int)->(List Int)->(Int)->(List Int)->(List aq)->(List Int)->(List (List J.Field))->(List (List (List UInt8)))->(List (List J.Target))->(List (Int × Int))->Option ((Unit × Unit) × G5 × List Int × L5 × List (Int × Int) × Unit)
 | 0,_,_,_,_,_,_,_,_,_,_,_,_,_,_=>none
 | aR+ 1,Ln,aeQ,aeR,aeS,T',GF,GG,xc,GH,GI,GJ,GK,GL,GM=>
   cond (decide (Ln <T')) ((G6 F Ln GH GI GJ GK GL aeQ aeR aeS T' GF GG xc GM).bind fun j'=>
(idx j'.2.2.2.1 (aE (Ln+ 1))).bind fun Lp=>
AC F aR (aE (Ln+aE (3 +Lp))) j'.2.2.1.2.1 j'.2.2.1.2.2.1 j'.2.2.1.2.2.2.1 j'.2.2.1.2.2.2.2.1 j'.2.2.1.2.2.2.2.2.1 j'.2.2.1.2.2.2.2.2.2.1 j'.2.2.2.1 j'.2.1.2.1 j'.2.1.2.2.1 j'.2.1.2.2.2.1 j'.2.1.2.2.2.2.1 j'.2.1.2.2.2.2.2.1 j'.2.2.2.2.1) (
some (((),()),((),aeQ,aeR,aeS,T',GF,GG,()),xc,((),GH,GI,GJ,GK,GL,(),()),GM,()))
noncomputable def aj8 (F:Nat):aX aU:=(aj7 F).rh 38 4 F ⟨[0,6,12],[.p (.B 0),.p (.B 2),.p (.i .i64)],[wG,.r 3 true,Cj,.m 3 3],[⟨.nm,[0],[.p (.B 0)],[wG,.r 3 true,Cj,.m 3 3]⟩],fun k d=>AC F k d.1.2.2.1 d.2.1.2.1 d.2.1.2.2.1 d.2.1.2.2.2.1 d.2.1.2.2.2.2.1 d.2.1.2.2.2.2.2.1 d.2.1.2.2.2.2.2.2.1 d.2.2.1 d.2.2.2.1.2.1 d.2.2.2.1.2.2.1 d.2.2.2.1.2.2.2.1 d.2.2.2.1.2.2.2.2.1 d.2.2.2.1.2.2.2.2.2.1 d.2.2.2.2.1⟩ ⟨fun d=>by kernel_rfl,fun k aA aG=>by kernel_rfl⟩
def Az (F:Nat) (xd:List aq) (rS:List Int) (Ab:List (List J.Field)) (Ac:List (List (List UInt8))) (Ad:List (List J.Target)) (xf:List Int) (Af:Int) (Ag:Int) (Ah:Int) (xg:Int) (Ai:List Int) (Aj:Int) (Ak:List Int) (uk:List Int):Option (Unit × G5 × List Int × List Int × Unit):=
 (AA F F xg xf (↑xf.length:Int) 0 Af Ag Ah xg Ai Aj Ak xd rS Ab Ac Ad [] uk).bind fun hR=>
(AB F F hR.1.2.2.1 hR.2.1.2.2.2.2.2.1 (↑(List.length hR.2.1.2.2.2.2.2.1):Int) 0 hR.2.1.2.1 hR.2.1.2.2.1 hR.2.1.2.2.2.1
 hR.2.1.2.2.2.2.1 hR.2.1.2.2.2.2.2.1 hR.2.1.2.2.2.2.2.2.1 hR.2.2.1 hR.2.2.2.1.2.1 hR.2.2.2.1.2.2.1 hR.2.2.2.1.2.2.2.1
 hR.2.2.2.1.2.2.2.2.1 hR.2.2.2.1.2.2.2.2.2.1 hR.2.2.2.2.1).bind fun h8=>
(AC F F h8.1.2.2.1 h8.2.1.2.1 h8.2.1.2.2.1 h8.2.1.2.2.2.1 h8.2.1.2.2.2.2.1 h8.2.1.2.2.2.2.2.1 h8.2.1.2.2.2.2.2.2.1 h8.2.2.1
 h8.2.2.2.1.2.1 h8.2.2.2.1.2.2.1 h8.2.2.2.1.2.2.2.1 h8.2.2.2.1.2.2.2.2.1 h8.2.2.2.1.2.2.2.2.2.1 h8.2.2.2.2.1).bind fun lE=>
(if (0 :Int)<= 1 /\ 1 <=aE (lE.2.1.2.1 + 1)/\aE (lE.2.1.2.1 + 1)<=(↑(List.length lE.2.2.1):Int) then some () else none).bind fun GN=>
(tL (decide (1 <aE (lE.2.1.2.1 + 1)))).bind fun GO=>
some ((),((),lE.2.1.2.1,lE.2.1.2.2.1,1,lE.2.1.2.2.2.2.1,([]),lE.2.1.2.2.2.2.2.2.1,()),(fp lE.2.2.1 (Int.toNat 1) (List.replicate (aE (lE.2.1.2.1 + 1) - 1).toNat 0)),hR.2.2.2.2.2.1,())
noncomputable def aj9 (F:Nat):aX aU:=(aj8 F).fn 38 ⟨[.p (.B 0),abJ,.p (.P 2 1)],[wG,.r 3 true,.r 3 true],[],[wG,.r 3 true,.r 3 true],fun d=>Az F d.1.2.1.1 d.1.2.1.2.1 d.1.2.1.2.2.1 d.1.2.1.2.2.2.1 d.1.2.1.2.2.2.2.1 d.1.2.2.1 d.2.1.2.1 d.2.1.2.2.1 d.2.1.2.2.2.1 d.2.1.2.2.2.2.1 d.2.1.2.2.2.2.2.1 d.2.1.2.2.2.2.2.2.1 d.2.2.1 d.2.2.2.1⟩ fun aA aG=>by kernel_rfl
def qk (F:Nat) (oS:List Int) (dX:Int) (mE:Int) (oT:Int) (oU:Int) (ul:List Int) (um:Int) (Ub:List aq) (Uc:List Int) (Ud:List (List J.Field)) (Uf:List (List (List UInt8))) (Ug:List (List J.Target)) (uo:List Int):Option (((List Int × Int × Int × Int × Int × List Int × Int × Unit) × List Int × Int × Unit) × Unit):=
 dD (iy (jE F (aW.mk oS dX mE oT oU ul um) (aQ.mk Ub Uc Ud Uf Ug))) (fun eA=>
cond (decide (eA.2 = 0)) ((xC F
 (bf.mk (aW.mk eA.1.H.Words eA.1.H.ar eA.1.H.aV eA.1.H.a3 eA.1.H.a1 eA.1.H.aY eA.1.H.Next)
  (ch.mk (aQ.mk eA.1.S.K.bc eA.1.S.K.a8 eA.1.S.K.Fields eA.1.S.K.Names eA.1.S.K.a9)) eA.1.ar eA.1.aV eA.1.dS)
 uo).bind fun Al=>
cond (decide (Al= 0)) (cond (decide (aE (aE (aE (aE (dX+mE)+ 1) - oU) - aE (oT - 1)) < 0)) (some (((([]),0,0,0,0,([]),0,()),([]),8,()),())) (
cond (!decide (Al= 0)) (some (((([]),0,0,0,0,([]),0,()),([]),Al,()),())) (
(oa (aW.mk oS dX mE oT oU ul um)).bind fun h9=>
(bO 8 [] uo).bind fun Lq=>
(rY F (↑Lq.length:Int)).bind fun Uh=>
(Az F eA.1.S.K.bc eA.1.S.K.a8 eA.1.S.K.Fields eA.1.S.K.Names eA.1.S.K.a9 Uh h9.ar h9.aV h9.a3 h9.a1 h9.aY h9.Next h9.Words Lq).bind fun rT=>
some (((rT.2.2.1,rT.2.1.2.1,rT.2.1.2.2.1,rT.2.1.2.2.2.1,rT.2.1.2.2.2.2.1,rT.2.1.2.2.2.2.2.1,rT.2.1.2.2.2.2.2.2.1,()),rT.2.2.2.1,0,()),())))) (
cond (!decide (Al= 0)) (some (((([]),0,0,0,0,([]),0,()),([]),Al,()),())) (
(oa (aW.mk oS dX mE oT oU ul um)).bind fun uq=>
(bO 8 [] uo).bind fun Lr=>
(rY F (↑Lr.length:Int)).bind fun Uj=>
(Az F eA.1.S.K.bc eA.1.S.K.a8 eA.1.S.K.Fields eA.1.S.K.Names eA.1.S.K.a9 Uj uq.ar uq.aV uq.a3 uq.a1 uq.aY uq.Next uq.Words Lr).bind fun rU=>
some (((rU.2.2.1,rU.2.1.2.1,rU.2.1.2.2.1,rU.2.1.2.2.2.1,rU.2.1.2.2.2.2.1,rU.2.1.2.2.2.2.2.1,rU.2.1.2.2.2.2.2.2.1,()),rU.2.2.2.1,0,()),())))) (
cond (decide (eA.2 = 0)) (cond (decide (aE (aE (aE (aE (dX+mE)+ 1) - oU) - aE (oT - 1)) < 0)) (some (((([]),0,0,0,0,([]),0,()),([]),8,()),())) (
cond (!decide (eA.2 = 0)) (some (((([]),0,0,0,0,([]),0,()),([]),eA.2,()),())) (
(oa (aW.mk oS dX mE oT oU ul um)).bind fun ur=>
(bO 8 [] uo).bind fun Am=>
(rY F (↑Am.length:Int)).bind fun C0=>
(Az F eA.1.S.K.bc eA.1.S.K.a8 eA.1.S.K.Fields eA.1.S.K.Names eA.1.S.K.a9 C0 ur.ar ur.aV ur.a3 ur.a1 ur.aY ur.Next ur.Words Am).bind fun nL=>
some (((nL.2.2.1,nL.2.1.2.1,nL.2.1.2.2.1,nL.2.1.2.2.2.1,nL.2.1.2.2.2.2.1,nL.2.1.2.2.2.2.2.1,nL.2.1.2.2.2.2.2.2.1,()),nL.2.2.2.1,0,()),())))) (
cond (!decide (eA.2 = 0)) (some (((([]),0,0,0,0,([]),0,()),([]),eA.2,()),())) (
(oa (aW.mk oS dX mE oT oU ul um)).bind fun oV=>
(bO 8 [] uo).bind fun An=>
(rY F (↑An.length:Int)).bind fun Ls=>
(Az F eA.1.S.K.bc eA.1.S.K.a8 eA.1.S.K.Fields eA.1.S.K.Names eA.1.S.K.a9 Ls oV.ar oV.aV oV.a3 oV.a1 oV.aY oV.Next oV.Words An).bind fun oW=>
some (((oW.2.2.1,oW.2.1.2.1,oW.2.1.2.2.1,oW.2.1.2.2.2.1,oW.2.1.2.2.2.2.1,oW.2.1.2.2.2.2.2.1,oW.2.1.2.2.2.2.2.2.1,()),oW.2.2.2.1,0,()),()))))) (fun rV=>
cond (decide (rV= 0)) none (
cond (decide (rV= 0)) (cond (decide (aE (aE (aE (aE (dX+mE)+ 1) - oU) - aE (oT - 1)) < 0)) (some (((([]),0,0,0,0,([]),0,()),([]),8,()),())) (
cond (!decide (rV= 0)) (some (((([]),0,0,0,0,([]),0,()),([]),rV,()),())) (
(oa (aW.mk oS dX mE oT oU ul um)).bind fun Lt=>
(bO 8 [] uo).bind fun Lu=>
none))) (
cond (!decide (rV= 0)) (some (((([]),0,0,0,0,([]),0,()),([]),rV,()),())) (
(oa (aW.mk oS dX mE oT oU ul um)).bind fun Lv=>
(bO 8 [] uo).bind fun Lw=>
none))))
noncomputable def aj_ (F:Nat):aX aU:=(aj9 F).fn 12 ⟨[abI,abJ,.p (.l 3)],[],[abI,.p (.l 3),.p (.i .i64)],[],fun d=>qk F d.1.1.1 d.1.1.2.1 d.1.1.2.2.1 d.1.1.2.2.2.1 d.1.1.2.2.2.2.1 d.1.1.2.2.2.2.2.1 d.1.1.2.2.2.2.2.2.1 d.1.2.1.1 d.1.2.1.2.1 d.1.2.1.2.2.1 d.1.2.1.2.2.2.1 d.1.2.1.2.2.2.2.1 d.1.2.2.1⟩ fun aA aG=>by kernel_rfl
def x_ (F:Nat):Nat->(List Int)->(Int)->(Int)->Option ((Int × Unit) × Unit ⊕ Unit × Unit)
 | 0,_,_,_=>none
 | aR+ 1,xk,C1,xr=>
   cond (decide (xr <(↑xk.length:Int))) ((idx xk xr).bind fun qh=>
cond (decide (qh=C1)) (some (.inl ((xr,()),()))) (
x_ F aR xk C1 (aE (xr+ 1)))) (
some (.inr ((),())))
noncomputable def aj' (F:Nat):aX aU:=(aj_ F).rh 29 0 F ⟨[0,1,5],[.p (.l 3),.p (.i .i64),.p (.i .i64)],[],[⟨.rt,[4],[.p (.i .i64)],[]⟩,⟨.nm,[],[],[]⟩],fun k d=>x_ F k d.1.1 d.1.2.1 d.1.2.2.1⟩ ⟨fun d=>by kernel_rfl,fun k aA aG=>by kernel_rfl⟩
def x9 (F:Nat) (Gw:List Int) (GB:Int):Option ((Int × Unit) × Unit):=
 dD (x_ F F Gw GB 0) (fun nH=>
some ((nH.1.1,()),())) (fun CR=>
some (((-1),()),()))
noncomputable def aka (F:Nat):aX aU:=(aj' F).fn 29 ⟨[.p (.l 3),.p (.i .i64)],[],[.p (.i .i64)],[],fun d=>x9 F d.1.1 d.1.2.1⟩ fun aA aG=>by kernel_rfl
noncomputable def akb (F:Nat):aX aU:=(aka F).qK 43
noncomputable def akc (F:Nat):aX aU:=(akb F).qK 29
end Go.Proofs.YteeliipnilghaaaGreat
namespace Go.Proofs.YteeliipnilghaaaGreat
open Go Go.RowKit ax J bB
set_option maxRecDepth 100000
@[reducible] def Ck:bN:=.c 24 [.l 3,.i .i64,.i .i64,.i .i64,.i .i64,.l 3,.i .i64]
@[reducible] def J4:dg:=.a [.l 3,.i .i64,.i .i64,.i .i64,.i .i64,.l 3,.i .i64]
@[reducible] def Cl:bN:=.c 30 [.l 134,.l 3,.l 124,.l 120,.l 121]
@[reducible] def RG:dg:=.a [.l 134,.l 3,.l 124,.l 120,.l 121]
abbrev Vk:=(List aq × List Int × List (List J.Field) × List (List (List UInt8)) × List (List J.Target) × Unit)
abbrev Vl:=(List Int × Int × Int × Int × Int × List Int × Int × Unit)
def uL (F:Nat) (cI:Int) (ft:List Int):Option ((Int × Unit) × (Unit × Unit) × List Int × Unit):=
 cond (decide (cI= 0)) (some ((0,()),((),()),ft,())) (
(x9 F ft cI).bind fun jL=>
cond (decide (jL.1.1 < 0)) ((bO 8 ft [cI]).bind fun qd=>
some (((aE (aE ((↑qd.length:Int) - 1)+ 1)),()),((),()),qd,())) (
some (((aE (jL.1.1 + 1)),()),((),()),ft,())))
noncomputable def alA (F:Nat):aX aU:=(akc F).fn 88 ⟨[.p (.i .i64),.p (.B 0)],[.c 22 [.R 1],.r 3 false],[.p (.i .i64)],[.c 22 [.R 1],.r 3 false],fun d=>uL F d.1.1 d.2.2.1⟩ fun aA aG=>by kernel_rfl
def xK (F:Nat):Nat->(List Int)->(Int)->(List Int)->(Int)->(Int)->(Int)->(Int)->(List Int)->(Int)->(List aq)->(List Int)->(List (List J.Field))->(List (List (List UInt8)))->(List (List J.Target))->(List Int)->(List Int)->Option ((Unit × Unit × Unit × Unit × (Unit × Unit) × Unit) ×
 Vl × Vk × (Unit × Unit) × List Int × List Int × Unit)
 | 0,_,_,_,_,_,_,_,_,_,_,_,_,_,_,_,_=>none
 | aR+ 1,Up,Uq,afC,afD,afH,afS,afX,afY,af0,af1,af2,af3,af4,af8,agi,agq=>
   cond (decide (Uq <(↑Up.length:Int))) ((idx Up Uq).bind fun aBX=>
(uL F aBX agi).bind fun ags=>
(bO 8 agq [ags.1.1]).bind fun xj=>
xK F aR Up (aE (Uq+ 1)) afC afD afH afS afX afY af0 af1 af2 af3 af4 af8 ags.2.2.1 xj) (
some (((),(),(),(),((),()),()),(afC,afD,afH,afS,afX,afY,af0,()),(af1,af2,af3,af4,af8,()),((),()),agi,agq,()))
noncomputable def alB (F:Nat):aX aU:=(alA F).rh 52 0 F ⟨[2,3,4,7,8,9,10],[.p (.l 3),.p (.B 0),.p (.B 1),.p (.B 2),.p (.R 4),.f 88 [.B 2],.p (.i .i64)],[Ck,Cl,.c 22 [.R 3],.r 3 false,.r 3 false],[⟨.nm,[3,4,7,8,9],[.p (.B 0),.p (.B 1),.p (.B 2),.p (.R 4),.f 88 [.B 2]],[Ck,Cl,.c 22 [.R 3],.r 3 false,.r 3 false]⟩],fun k d=>xK F k d.1.1 d.1.2.2.2.2.2.2.1 d.2.1.1 d.2.1.2.1 d.2.1.2.2.1 d.2.1.2.2.2.1 d.2.1.2.2.2.2.1 d.2.1.2.2.2.2.2.1 d.2.1.2.2.2.2.2.2.1 d.2.2.1.1 d.2.2.1.2.1 d.2.2.1.2.2.1 d.2.2.1.2.2.2.1 d.2.2.1.2.2.2.2.1 d.2.2.2.2.1 d.2.2.2.2.2.1⟩ ⟨fun d=>by kernel_rfl,fun k aA aG=>by kernel_rfl⟩
def uM (F:Nat):Nat->(Int)->(Int)->(Int)->(List Int)->(Int)->(Int)->(Int)->(Int)->(List Int)->(Int)->(List aq)->(List Int)->(List (List J.Field))->(List (List (List UInt8)))->(List (List J.Target))->(List Int)->(List Int)->Option ((Unit × Unit × Unit × Unit × (Unit × Unit) × Int × Unit) ×
 Vl × Vk × (Unit × Unit) × List Int × List Int × Unit)
 | 0,_,_,_,_,_,_,_,_,_,_,_,_,_,_,_,_,_=>none
 | aR+ 1,z5,uc,ud,ug,CS,CT,CU,CV,CW,CX,z6,z7,z8,z9,uh,CY,CZ=>
   (idx ug (aE (uc+ 1))).bind fun Lg=>
cond (decide (ud <Lg)) ((idx ug (aE (aE (uc+ 3)+ud))).bind fun GD=>
(idx ug uc).bind fun Lh=>
(qC (aQ.mk z6 z7 z8 z9 uh) Lh ud).bind fun z_=>
cond z_ ((uL F GD CY).bind fun xb=>
(bO 8 CZ [xb.1.1]).bind fun z'=>
uM F aR z5 uc (aE (ud+ 1)) ug CS CT CU CV CW CX z6 z7 z8 z9 uh xb.2.2.1 z') (
(bO 8 CZ [GD]).bind fun Aa=>
uM F aR z5 uc (aE (ud+ 1)) ug CS CT CU CV CW CX z6 z7 z8 z9 uh CY Aa)) (
some (((),(),(),(),((),()),z5,()),(ug,CS,CT,CU,CV,CW,CX,()),(z6,z7,z8,z9,uh,()),((),()),CY,CZ,()))
noncomputable def alC (F:Nat):aX aU:=(alB F).rh 52 4 F ⟨[3,4,7,8,9,11,12,13],[.p (.B 0),.p (.B 1),.p (.B 2),.p (.R 4),.f 88 [.B 2],.p (.i .i64),.p (.i .i64),.p (.i .i64)],[Ck,Cl,.c 22 [.R 3],.r 3 false,.r 3 false],[⟨.nm,[3,4,7,8,9,11],[.p (.B 0),.p (.B 1),.p (.B 2),.p (.R 4),.f 88 [.B 2],.p (.i .i64)],[Ck,Cl,.c 22 [.R 3],.r 3 false,.r 3 false]⟩],fun k d=>uM F k d.1.2.2.2.2.2.1 d.1.2.2.2.2.2.2.1 d.1.2.2.2.2.2.2.2.1 d.2.1.1 d.2.1.2.1 d.2.1.2.2.1 d.2.1.2.2.2.1 d.2.1.2.2.2.2.1 d.2.1.2.2.2.2.2.1 d.2.1.2.2.2.2.2.2.1 d.2.2.1.1 d.2.2.1.2.1 d.2.2.1.2.2.1 d.2.2.1.2.2.2.1 d.2.2.1.2.2.2.2.1 d.2.2.2.2.1 d.2.2.2.2.2.1⟩ ⟨fun d=>by kernel_rfl,fun k aA aG=>by kernel_rfl⟩
def qq (F:Nat):Nat->(Int)->(List Int)->(Int)->(Int)->(Int)->(Int)->(List Int)->(Int)->(List aq)->(List Int)->(List (List J.Field))->(List (List (List UInt8)))->(List (List J.Target))->(List Int)->(List Int)->Option ((Unit × Unit) × Vl × Vk × (Unit × Unit) × List Int × List Int × Unit)
 | 0,_,_,_,_,_,_,_,_,_,_,_,_,_,_,_=>none
 | aR+ 1,xd,rS,Ab,Ac,Ad,xf,Af,Ag,Ah,xg,Ai,Aj,Ak,uk,hR=>
   cond (decide (xd <(↑uk.length:Int))) ((idx uk xd).bind fun h8=>
(idx rS h8).bind fun lE=>
(idx rS (aE (h8+ 1))).bind fun GN=>
(idx rS (aE (h8+ 2))).bind fun GO=>
(bO 8 hR [lE,GN,GO]).bind fun oS=>
(uM F F xd h8 0 rS Ab Ac Ad xf Af Ag Ah xg Ai Aj Ak uk oS).bind fun dX=>
qq F aR (aE (dX.1.2.2.2.2.2.1 + 1)) dX.2.1.1 dX.2.1.2.1 dX.2.1.2.2.1 dX.2.1.2.2.2.1 dX.2.1.2.2.2.2.1 dX.2.1.2.2.2.2.2.1 dX.2.1.2.2.2.2.2.2.1 dX.2.2.1.1 dX.2.2.1.2.1 dX.2.2.1.2.2.1 dX.2.2.1.2.2.2.1 dX.2.2.1.2.2.2.2.1 dX.2.2.2.2.1 dX.2.2.2.2.2.1) (
some (((),()),(rS,Ab,Ac,Ad,xf,Af,Ag,()),(Ah,xg,Ai,Aj,Ak,()),((),()),uk,hR,()))
noncomputable def alD (F:Nat):aX aU:=(alC F).rh 52 2 F ⟨[3,4,7,8,9,11],[.p (.B 0),.p (.B 1),.p (.B 2),.p (.R 4),.f 88 [.B 2],.p (.i .i64)],[Ck,Cl,.c 22 [.R 3],.r 3 false,.r 3 false],[⟨.nm,[8],[.p (.R 4)],[Ck,Cl,.c 22 [.R 3],.r 3 false,.r 3 false]⟩],fun k d=>qq F k d.1.2.2.2.2.2.1 d.2.1.1 d.2.1.2.1 d.2.1.2.2.1 d.2.1.2.2.2.1 d.2.1.2.2.2.2.1 d.2.1.2.2.2.2.2.1 d.2.1.2.2.2.2.2.2.1 d.2.2.1.1 d.2.2.1.2.1 d.2.2.1.2.2.1 d.2.2.1.2.2.2.1 d.2.2.1.2.2.2.2.1 d.2.2.2.2.1 d.2.2.2.2.2.1⟩ ⟨fun d=>by kernel_rfl,fun k aA aG=>by kernel_rfl⟩
def uK (F:Nat) (mE:List Int) (oT:Int) (oU:Int) (ul:Int) (um:Int) (Ub:List Int) (Uc:Int) (Ud:List aq) (Uf:List Int) (Ug:List (List J.Field)) (uo:List (List (List UInt8))) (eA:List (List J.Target)) (Al:List Int):Option ((List Int × Unit) × Unit):=
 (xK F F Al 0 mE oT oU ul um Ub Uc Ud Uf Ug uo eA [] []).bind fun h9=>
(qq F F 0 h9.2.1.1 h9.2.1.2.1 h9.2.1.2.2.1 h9.2.1.2.2.2.1 h9.2.1.2.2.2.2.1 h9.2.1.2.2.2.2.2.1 h9.2.1.2.2.2.2.2.2.1 h9.2.2.1.1
 h9.2.2.1.2.1 h9.2.2.1.2.2.1 h9.2.2.1.2.2.2.1 h9.2.2.1.2.2.2.2.1 h9.2.2.2.2.1 h9.2.2.2.2.2.1).bind fun Lq=>
some ((Lq.2.2.2.2.2.1,()),())
noncomputable def alE (F:Nat):aX aU:=(alD F).fn 52 ⟨[J4,RG,.p (.l 3)],[],[.p (.l 3)],[],fun d=>uK F d.1.1.1 d.1.1.2.1 d.1.1.2.2.1 d.1.1.2.2.2.1 d.1.1.2.2.2.2.1 d.1.1.2.2.2.2.2.1 d.1.1.2.2.2.2.2.2.1 d.1.2.1.1 d.1.2.1.2.1 d.1.2.1.2.2.1 d.1.2.1.2.2.2.1 d.1.2.1.2.2.2.2.1 d.1.2.2.1⟩ fun aA aG=>by kernel_rfl
def Dm (F:Nat) (Uh:List Int) (rT:Int) (uq:Int) (Lr:Int) (Uj:Int) (rU:List Int) (ur:Int) (Am:List aq) (C0:List Int) (nL:List (List J.Field)) (oV:List (List (List UInt8))) (An:List (List J.Target)) (Ls:List Int) (oW:List Int) (rV:Int) (Lt:Int) (Lu:Int) (Lv:Int) (Lw:List Int) (Uk:Int) (Ul:List Int):Option ((Bool × Unit) × Unit):=
 (uX F (aW.mk oW rV Lt Lu Lv Lw Uk) (aQ.mk Am C0 nL oV An)).bind fun aAY=>
cond (decide (aAY= 0)) ((uV F (aW.mk oW rV Lt Lu Lv Lw Uk) (aQ.mk Am C0 nL oV An) Ul).bind fun aAZ=>
cond (decide (aAZ= 0) && decide ((↑Ls.length:Int)=(↑Ul.length:Int))) ((uK F Uh rT uq Lr Uj rU ur Am C0 nL oV An Ls).bind fun aA0=>
(uK F oW rV Lt Lu Lv Lw Uk Am C0 nL oV An Ul).bind fun aA1=>
(mO F aA0.1.1 aA1.1.1).bind fun aA2=>
some ((aA2,()),())) (
some ((false,()),()))) (
some ((false,()),()))
noncomputable def Dk (F:Nat):aX aU:=(alE F).fn 21 ⟨[J4,RG,.p (.l 3),J4,.p (.l 3)],[],[.p (.b)],[],fun d=>Dm F d.1.1.1 d.1.1.2.1 d.1.1.2.2.1 d.1.1.2.2.2.1 d.1.1.2.2.2.2.1 d.1.1.2.2.2.2.2.1 d.1.1.2.2.2.2.2.2.1 d.1.2.1.1 d.1.2.1.2.1 d.1.2.1.2.2.1 d.1.2.1.2.2.2.1 d.1.2.1.2.2.2.2.1 d.1.2.2.1 d.1.2.2.2.1.1 d.1.2.2.2.1.2.1 d.1.2.2.2.1.2.2.1 d.1.2.2.2.1.2.2.2.1 d.1.2.2.2.1.2.2.2.2.1 d.1.2.2.2.1.2.2.2.2.2.1 d.1.2.2.2.1.2.2.2.2.2.2.1 d.1.2.2.2.2.1⟩ fun aA aG=>by kernel_rfl
def Hq (F:Nat) (aeV:List Int) (aeW:Int) (aeX:Int) (aeY:Int) (aeZ:Int) (ae_:List Int) (Un:Int) (ae':List aq) (afa:List Int) (afb:List (List J.Field)) (afc:List (List (List UInt8))) (GQ:List (List J.Target)) (Ao:List Int):Option ((Bool × Unit) × Unit):=
 (qk F aeV aeW aeX aeY aeZ ae_ Un ae' afa afb afc GQ Ao).bind fun jM=>
cond (!decide (jM.1.2.2.1 = 0)) (some (((decide ((↑(List.length jM.1.2.1):Int)= 0)),()),())) (
(Dm F aeV aeW aeX aeY aeZ ae_ Un ae' afa afb afc GQ Ao jM.1.1.1 jM.1.1.2.1 jM.1.1.2.2.1 jM.1.1.2.2.2.1 jM.1.1.2.2.2.2.1 jM.1.1.2.2.2.2.2.1
 jM.1.1.2.2.2.2.2.2.1 jM.1.2.1).bind fun Ly=>
some (((Ly.1.1 && decide (jM.1.1.2.2.2.1 = 1) && decide ((↑(List.length jM.1.1.2.2.2.2.2.1):Int)= 0) && decide (jM.1.1.2.2.2.2.2.2.1 =Un)),()),()))
@[reducible] noncomputable def Qt (F:Nat):fw bQ:=⟨[J4,RG,.p (.l 3)],[],[.p (.b)],[],fun d=>Hq F d.1.1.1 d.1.1.2.1 d.1.1.2.2.1 d.1.1.2.2.2.1 d.1.1.2.2.2.2.1 d.1.1.2.2.2.2.2.1 d.1.1.2.2.2.2.2.2.1 d.1.2.1.1 d.1.2.1.2.1 d.1.2.1.2.2.1 d.1.2.1.2.2.2.1 d.1.2.1.2.2.2.2.1 d.1.2.2.1⟩
theorem anX (F:Nat):(Qt F).Eq aU (Dk F).t.bG (Dk F).t.LE 5 :=fun aA aG=>by kernel_rfl
theorem amn (F:Nat):kQ aU 5 ((Qt F).run aU):=W3 pk (n8 pk ((Dk F).ok pk).ce ((Dk F).ok pk).le 100) ((Dk F).ok pk).le rfl (anX F)
end Go.Proofs.YteeliipnilghaaaGreat
namespace Go.Proofs.YteeliipnilghaaaGreat
open Go Go.RowKit ax J bB
section
variable {F:Nat->Prop} {w:World} {cs:List Value}
theorem Ko {d:bQ.El 3} (h:((ax.eY .i64)).rd F w cs d):(bQ.ty 3).rd F w cs d:=by
 obtain rfl:cs=_:=h
 change e4 (fun t=>(fK H6 t).ty) F w [.i .i64] _ (d,())
 exact ⟨_,_,rfl,rfl,rfl⟩
theorem acB {d:bQ.El 136} (h:(J.iD).rd F w cs d):(bQ.ty 136).rd F w cs d:=by
 obtain rfl:cs=_:=h
 change e4 (fun t=>(fK DR t).ty) F w [.s,.i .i64,.s] _ (d.Name,d.Kind.Kind,d.Kind.aq,())
 exact ⟨_,_,rfl,rfl,_,_,rfl,rfl,_,_,rfl,rfl,rfl⟩
theorem axI {d:bQ.El 128} (h:(J.zX).rd F w cs d):(bQ.ty 128).rd F w cs d:=by
 obtain rfl:cs=_:=h
 change e4 (fun t=>(fK H4 t).ty) F w [.i .i64,.s] _ (d.Kind,d.aq,())
 exact ⟨_,_,rfl,rfl,_,_,rfl,rfl,rfl⟩
theorem axL {d:bQ.El 157} (h:(J.zW).rd F w cs d):(bQ.ty 157).rd F w cs d:=by
 obtain rfl:cs=_:=h
 change e4 (fun t=>(fK H2 t).ty) F w [.i .i64,.i .i64,.i .i64,.s] _ (d.From,d.To,d.hU,d.aq,())
 exact ⟨_,_,rfl,rfl,_,_,rfl,rfl,_,_,rfl,rfl,_,_,rfl,rfl,rfl⟩
theorem axJ {d:bQ.El 131} (h:(J.oR).rd F w cs d):(bQ.ty 131).rd F w cs d:=by
 obtain ⟨_,_,_,_,rfl,aa,mW⟩:=h
 change e4 (fun t=>(fK H5 t).ty) F w [.s,.b,.l 128,.i .i64,.s,.i .i64,.i .i64,.s,.l 157] _ (d.Name,d.Static,d.cy,d.Returns.Kind,d.Returns.aq,d.g4,d.g2,d.Code,d.cC,())
 exact ⟨_,_,rfl,rfl,_,_,rfl,rfl,_,_,rfl,iA (fun _ _=>axI) aa,_,_,rfl,rfl,_,_,rfl,rfl,_,_,rfl,rfl,_,_,rfl,rfl,_,_,rfl,rfl,_,_,rfl,iA (fun _ _=>axL) mW,rfl⟩
theorem axK {d:bQ.El 134} (h:(J.jv).rd F w cs d):(bQ.ty 134).rd F w cs d:=by
 obtain ⟨_,_,_,_,rfl,aa,au⟩:=h
 change e4 (fun t=>(fK H3 t).ty) F w [.s,.s,.l 136,.l 131] _ (d.Name,d.cS,d.Fields,d.bd,())
 exact ⟨_,_,rfl,rfl,_,_,rfl,rfl,_,_,rfl,iA (fun _ _=>acB) aa,_,_,rfl,iA (fun _ _=>axJ) au,rfl⟩
theorem axH {d:bQ.El 124} (h:((b3 J.iD)).rd F w cs d):(bQ.ty 124).rd F w cs d:=by
 obtain ⟨A,c,rfl⟩:=ly h
 change e4 (fun t=>(fK M_ t).ty) F w [.l 136] _ (d,())
 exact ⟨_,_,rfl,iA (fun _ _=>acB) h,rfl⟩
theorem axN {d:bQ.El 9} (h:(iC).rd F w cs d):(bQ.ty 9).rd F w cs d:=by
 obtain rfl:cs=_:=h
 change e4 (fun t=>(fK H8 t).ty) F w [.s] _ (d,())
 exact ⟨_,_,rfl,rfl,rfl⟩
theorem axF {d:bQ.El 120} (h:((b3 iC)).rd F w cs d):(bQ.ty 120).rd F w cs d:=by
 obtain ⟨A,c,rfl⟩:=ly h
 change e4 (fun t=>(fK M' t).ty) F w [.l 9] _ (d,())
 exact ⟨_,_,rfl,iA (fun _ _=>axN) h,rfl⟩
theorem axM {d:bQ.El 166} (h:(J.jw).rd F w cs d):(bQ.ty 166).rd F w cs d:=by
 obtain rfl:cs=_:=h
 change e4 (fun t=>(fK H7 t).ty) F w [.i .i64,.i .i64] _ (d.aq,d.Method,())
 exact ⟨_,_,rfl,rfl,_,_,rfl,rfl,rfl⟩
theorem axG {d:bQ.El 121} (h:((b3 J.jw)).rd F w cs d):(bQ.ty 121).rd F w cs d:=by
 obtain ⟨A,c,rfl⟩:=ly h
 change e4 (fun t=>(fK M9 t).ty) F w [.l 166] _ (d,())
 exact ⟨_,_,rfl,iA (fun _ _=>axM) h,rfl⟩
end
end Go.Proofs.YteeliipnilghaaaGreat
namespace Go.Proofs.YteeliipnilghaaaGreat
open Go Go.RowKit ax J bB
set_option maxRecDepth 100000
@[reducible] def aEs:bN:=.c 24 [.l 3,.i .i64,.i .i64,.i .i64,.i .i64,.l 3,.i .i64]
@[reducible] def aEt:bN:=.c 24 [.R 7,.i .i64,.i .i64,.i .i64,.i .i64,.l 3,.i .i64]
@[reducible] def aEu:bN:=.c 24 [.R 6,.i .i64,.i .i64,.i .i64,.i .i64,.l 3,.i .i64]
@[reducible] def avs:dg:=.a [.l 3,.i .i64,.i .i64,.i .i64,.i .i64,.l 3,.i .i64]
@[reducible] def aEv:bN:=.c 30 [.l 134,.l 3,.l 124,.l 120,.l 121]
@[reducible] def avt:dg:=.a [.l 134,.l 3,.l 124,.l 120,.l 121]
abbrev ahX:=(Unit ×
 (List Int × Int × Int × Int × Int × List Int × Int × Unit) ×
  (List aq × List Int × List (List J.Field) × List (List (List UInt8)) × List (List J.Target) × Unit) ×
   (Unit × Unit) × (List Int × Unit) × (Unit × Unit) × List Int × (Unit × Int × Int × Int × Int × List Int × Int × Unit) × List Int × Unit)
abbrev xA:=(List aq × List Int × List (List J.Field) × List (List (List UInt8)) × List (List J.Target) × Unit)
abbrev ahY:=(List Int × Unit × Unit × Unit × Unit × (Unit × Unit × Unit) × Int × Unit)
abbrev ahZ:=(List Int × Unit × Unit × Unit × Unit × (Unit × Unit × Unit) × Unit)
abbrev jf:=(List Int × Int × Int × Int × Int × List Int × Int × Unit)
abbrev Vm:=(Unit × Int × Int × Int × Int × List Int × Int × Unit)
def V0 (F:Nat) (cI:Int) (ft:List Int) (jL:List Int):Option ((Int × Unit) × (List Int × Unit) × (Unit × Unit) × List Int × Unit):=
 (x9 F ft cI).bind fun qd=>
cond (decide (cI= 0) || decide (qd.1.1 < 0)) (some ((cI,()),(ft,()),((),()),jL,())) (
(idx jL qd.1.1).bind fun GR=>
some ((GR,()),(ft,()),((),()),jL,()))
def Hv (F:Nat):Nat->(Int)->(Int)->(Int)->(List Int)->(Int)->(Int)->(Int)->(Int)->(List Int)->(Int)->(List aq)->(List Int)->(List (List J.Field))->(List (List (List UInt8)))->(List (List J.Target))->(List Int)->(List Int)->(Int)->(Int)->(Int)->(Int)->(List Int)->(Int)->(List Int)->Option ahX
 | 0,_,_,_,_,_,_,_,_,_,_,_,_,_,_,_,_,_,_,_,_,_,_,_,_=>none
 | aR+ 1,qf,mF,kb,qg,xl,xm,xo,xp,rW,xq,As,At,Au,iJ,C2,Av,C3,C4,C5,C6,C7,C8,C9,uv=>
   (idx qg (aE (qf+ 1))).bind fun UW=>
cond (decide (kb <aE (3 +UW))) ((idx qg (aE (qf+kb))).bind fun GX=>
cond (decide (3 <=kb)) ((idx qg qf).bind fun UX=>
(qC (aQ.mk As At Au iJ C2) UX (aE (kb - 3))).bind fun LI=>
cond LI ((V0 F GX Av C3).bind fun GY=>
(idx uv (aE (mF+kb))).bind fun ahc=>
Hv F aR qf mF (aE (kb+ 1)) qg xl xm xo xp rW xq As At Au iJ C2 GY.2.1.1 GY.2.2.2.1 C4 C5 C6 C7 C8 C9 (uv.set (aE (mF+kb)).toNat GY.1.1)) (
(idx uv (aE (mF+kb))).bind fun mG=>
Hv F aR qf mF (aE (kb+ 1)) qg xl xm xo xp rW xq As At Au iJ C2 Av C3 C4 C5 C6 C7 C8 C9 (uv.set (aE (mF+kb)).toNat GX))) (
(idx uv (aE (mF+kb))).bind fun aEP=>
Hv F aR qf mF (aE (kb+ 1)) qg xl xm xo xp rW xq As At Au iJ C2 Av C3 C4 C5 C6 C7 C8 C9 (uv.set (aE (mF+kb)).toNat GX))) (
some ((),(qg,xl,xm,xo,xp,rW,xq,()),(As,At,Au,iJ,C2,()),((),()),(Av,()),((),()),C3,((),C4,C5,C6,C7,C8,C9,()),uv,()))
def V1 (F:Nat) (aCE:Int) (aCG:Int) (aCH:List Int) (aCI:Int) (aCJ:Int) (aCL:Int) (aCM:Int) (aCN:List Int) (azO:Int) (azY:List aq) (az4:List Int) (az6:List (List J.Field)) (aAb:List (List (List UInt8))) (aAh:List (List J.Target)) (aAi:List Int) (aAj:List Int) (aAk:Int) (aAl:Int) (aAm:Int) (aAn:Int) (aAp:List Int) (aAq:Int) (aAr:List Int):Option ahX:=
 (Hv F F aCE aCG 0 aCH aCI aCJ aCL aCM aCN azO azY az4 az6 aAb aAh aAi aAj aAk aAl aAm aAn aAp aAq aAr).bind fun iG=>
some ((),(iG.2.1.1,iG.2.1.2.1,iG.2.1.2.2.1,iG.2.1.2.2.2.1,iG.2.1.2.2.2.2.1,iG.2.1.2.2.2.2.2.1,iG.2.1.2.2.2.2.2.2.1,()),(iG.2.2.1.1,iG.2.2.1.2.1,iG.2.2.1.2.2.1,iG.2.2.1.2.2.2.1,iG.2.2.1.2.2.2.2.1,()),((),()),(iG.2.2.2.2.1.1,()),((),()),iG.2.2.2.2.2.2.1,((),iG.2.2.2.2.2.2.2.1.2.1,iG.2.2.2.2.2.2.2.1.2.2.1,iG.2.2.2.2.2.2.2.1.2.2.2.1,iG.2.2.2.2.2.2.2.1.2.2.2.2.1,iG.2.2.2.2.2.2.2.1.2.2.2.2.2.1,iG.2.2.2.2.2.2.2.1.2.2.2.2.2.2.1,()),iG.2.2.2.2.2.2.2.2.1,())
def V2 (F:Nat):Nat->(Int)->(List Int)->(Int)->(Int)->(List Int)->(Int)->(Int)->(Int)->(Int)->(List Int)->(Int)->(List aq)->(List Int)->(List (List J.Field))->(List (List (List UInt8)))->(List (List J.Target))->(List Int)->(List Int)->(Int)->(Int)->(Int)->(Int)->(List Int)->(Int)->(List Int)->Option ((Int × List Int × Unit × Unit × Unit × Unit × Unit × Int × Unit) ×
 jf ×
  xA × (List Int × Unit) × jf × (Unit × Unit) × List Int × Unit)
 | 0,_,_,_,_,_,_,_,_,_,_,_,_,_,_,_,_,_,_,_,_,_,_,_,_,_=>none
 | aR+ 1,aeB,aeC,z5,uc,ud,ug,CS,CT,CU,CV,CW,CX,z6,z7,z8,z9,uh,CY,CZ,Lg,GD,Lh,z_,xb,z'=>
   cond (decide (uc <(↑uh.length:Int))) ((bO 8 z' [z5]).bind fun Aa=>
(idx uh uc).bind fun Li=>
(idx ud (aE (Li+ 1))).bind fun Lj=>
V2 F aR aeB aeC (aE (z5+aE (3 +Lj))) (aE (uc+ 1)) ud ug CS CT CU CV CW CX z6 z7 z8 z9 uh CY CZ Lg GD Lh z_ xb Aa) (
some ((aeB,aeC,(),(),(),(),(),z5,()),(ud,ug,CS,CT,CU,CV,CW,()),(CX,z6,z7,z8,z9,()),(uh,()),(CY,CZ,Lg,GD,Lh,z_,xb,()),((),()),z',()))
def V3 (F:Nat):Nat->(Int)->(List Int)->(Int)->(List Int)->(Int)->(Int)->(Int)->(Int)->(List Int)->(Int)->(List Int)->(List Int)->(Int)->(Int)->(Int)->(Int)->(List Int)->(Int)->(List Int)->(Int)->(Int)->(Int)->(Int)->(List Int)->(Int)->(List Int)->(List aq)->(List Int)->(List (List J.Field))->(List (List (List UInt8)))->(List (List J.Target))->Option ((List Int × Unit × Unit × Unit × Unit × Unit × (Unit × Unit × Unit × Unit × Unit) × Unit) ×
 jf ×
  (List Int × Unit) ×
   jf ×
    (Unit × Unit) × List Int × (Unit × Unit) × Vm × List Int × xA × Unit)
 | 0,_,_,_,_,_,_,_,_,_,_,_,_,_,_,_,_,_,_,_,_,_,_,_,_,_,_,_,_,_,_,_=>none
 | aR+ 1,GF,GG,xc,GH,GI,GJ,GK,GL,GM,j',Lp,xd,rS,Ab,Ac,Ad,xf,Af,Ag,Ah,xg,Ai,Aj,Ak,uk,hR,h8,lE,GN,GO,oS=>
   cond (decide (xc <GF)) ((V1 F xc xc GH GI GJ GK GL GM j' h8 lE GN GO oS Lp Ag Ah xg Ai Aj Ak uk hR).bind fun dX=>
(idx dX.2.1.1 (aE (xc+ 1))).bind fun mE=>
V3 F aR GF GG (aE (xc+aE (3 +mE))) dX.2.1.1 dX.2.1.2.1 dX.2.1.2.2.1 dX.2.1.2.2.2.1 dX.2.1.2.2.2.2.1 dX.2.1.2.2.2.2.2.1 dX.2.1.2.2.2.2.2.2.1 dX.2.2.2.2.1.1 xd rS Ab Ac Ad xf Af dX.2.2.2.2.2.2.1 dX.2.2.2.2.2.2.2.1.2.1 dX.2.2.2.2.2.2.2.1.2.2.1 dX.2.2.2.2.2.2.2.1.2.2.2.1 dX.2.2.2.2.2.2.2.1.2.2.2.2.1 dX.2.2.2.2.2.2.2.1.2.2.2.2.2.1 dX.2.2.2.2.2.2.2.1.2.2.2.2.2.2.1 dX.2.2.2.2.2.2.2.2.1 dX.2.2.1.1 dX.2.2.1.2.1 dX.2.2.1.2.2.1 dX.2.2.1.2.2.2.1 dX.2.2.1.2.2.2.2.1) (
some ((GG,(),(),(),(),(),((),(),(),(),()),()),(GH,GI,GJ,GK,GL,GM,j',()),(Lp,()),(xd,rS,Ab,Ac,Ad,xf,Af,()),((),()),Ag,((),()),((),Ah,xg,Ai,Aj,Ak,uk,()),hR,(h8,lE,GN,GO,oS,()),()))
def V4 (F:Nat):Nat->(List Int)->(Int)->(List Int)->(List Int)->(Int)->(Int)->(Int)->(Int)->(List Int)->(Int)->(List Int)->(Int)->(Int)->(Int)->(Int)->(List Int)->(Int)->(List Int)->(List Int)->(Int)->(Int)->(Int)->(Int)->(List Int)->(Int)->(List aq)->(List Int)->(List (List J.Field))->(List (List (List UInt8)))->(List (List J.Target))->Option ((List Int × Unit × Unit × Unit × Unit) ×
 (List Int × Unit) ×
  jf ×
   (Unit × Unit) ×
    List Int ×
     (Unit × Unit) ×
      Vm ×
       List Int × jf × xA × Unit)
 | 0,_,_,_,_,_,_,_,_,_,_,_,_,_,_,_,_,_,_,_,_,_,_,_,_,_,_,_,_,_,_=>none
 | aR+ 1,GQ,Ao,jM,Ly,afd,afe,aff,afg,afh,afi,Uo,afj,afk,afl,afm,afn,afo,afp,afq,afr,afs,aft,afu,afv,afw,afx,afy,afz,afA,afB=>
   cond (decide (Ao <(↑jM.length:Int))) ((idx jM Ao).bind fun aA5=>
(idx Uo Ao).bind fun aA6=>
(V1 F aA5 aA6 afq afr afs aft afu afv afw afx afy afz afA afB jM Uo afj afk afl afm afn afo afp).bind fun iI=>
V4 F aR GQ (aE (Ao+ 1)) iI.2.2.2.2.1.1 Ly afd afe aff afg afh afi iI.2.2.2.2.2.2.1 iI.2.2.2.2.2.2.2.1.2.1 iI.2.2.2.2.2.2.2.1.2.2.1 iI.2.2.2.2.2.2.2.1.2.2.2.1 iI.2.2.2.2.2.2.2.1.2.2.2.2.1 iI.2.2.2.2.2.2.2.1.2.2.2.2.2.1 iI.2.2.2.2.2.2.2.1.2.2.2.2.2.2.1 iI.2.2.2.2.2.2.2.2.1 iI.2.1.1 iI.2.1.2.1 iI.2.1.2.2.1 iI.2.1.2.2.2.1 iI.2.1.2.2.2.2.1 iI.2.1.2.2.2.2.2.1 iI.2.1.2.2.2.2.2.2.1 iI.2.2.1.1 iI.2.2.1.2.1 iI.2.2.1.2.2.1 iI.2.2.1.2.2.2.1 iI.2.2.1.2.2.2.2.1) (
some ((GQ,(),(),(),()),(jM,()),(Ly,afd,afe,aff,afg,afh,afi,()),((),()),Uo,((),()),((),afj,afk,afl,afm,afn,afo,()),afp,(afq,afr,afs,aft,afu,afv,afw,()),(afx,afy,afz,afA,afB,()),()))
def V5 (F:Nat):Nat->(List Int)->(Int)->(List Int)->(Int)->(Int)->(Int)->(Int)->(List Int)->(Int)->(List Int)->(List Int)->(Int)->(Int)->(Int)->(Int)->(List Int)->(Int)->(List Int)->(List Int)->Option ((Unit × Unit × Unit × Unit) × jf × (Unit × Unit) × (List Int × Unit) × (Unit × Unit) × List Int × Vm × List Int × List Int × Unit)
 | 0,_,_,_,_,_,_,_,_,_,_,_,_,_,_,_,_,_,_,_=>none
 | aR+ 1,Ur,Us,afE,afF,afG,afI,afJ,afK,afL,afM,afN,afO,afP,afQ,afR,afT,afU,afV,afW=>
   cond (decide (Us <(↑Ur.length:Int))) ((idx Ur Us).bind fun aBo=>
(V0 F aBo afM afN).bind fun Uu=>
(bO 8 afW [Uu.1.1]).bind fun aBs=>
V5 F aR Ur (aE (Us+ 1)) afE afF afG afI afJ afK afL Uu.2.1.1 Uu.2.2.2.1 afO afP afQ afR afT afU afV aBs) (
some (((),(),(),()),(afE,afF,afG,afI,afJ,afK,afL,()),((),()),(afM,()),((),()),afN,((),afO,afP,afQ,afR,afT,afU,()),afV,afW,()))
def alQ (F:Nat) (aBt:List Int) (aBu:Int) (aBv:Int) (aBw:Int) (aBx:Int) (aBy:List Int) (aBA:Int) (aBB:List aq) (aBC:List Int) (aBE:List (List J.Field)) (aBF:List (List (List UInt8))) (aBG:List (List J.Target)) (aBJ:List Int) (afZ:Int) (aBL:List Int):Option ((jf × List Int × Unit) × Unit):=
 (V2 F F afZ aBL afZ 0 aBt aBu aBv aBw aBx aBy aBA aBB aBC aBE aBF aBG aBJ [] 0 0 0 0 [] 0 []).bind fun gl=>
(Fk 0 8 (↑(List.length gl.2.1.1):Int)).bind fun aBM=>
(V3 F F gl.1.1 gl.1.2.1 (aE (gl.2.1.2.1 + 1)) gl.2.1.1 gl.2.1.2.1 gl.2.1.2.2.1 gl.2.1.2.2.2.1 gl.2.1.2.2.2.2.1
 gl.2.1.2.2.2.2.2.1 gl.2.1.2.2.2.2.2.2.1 gl.2.2.2.1.1 gl.2.2.2.2.1.1 gl.2.2.2.2.1.2.1 gl.2.2.2.2.1.2.2.1
 gl.2.2.2.2.1.2.2.2.1 gl.2.2.2.2.1.2.2.2.2.1 gl.2.2.2.2.1.2.2.2.2.2.1 gl.2.2.2.2.1.2.2.2.2.2.2.1 gl.2.2.2.2.2.2.1
 gl.2.1.2.1 gl.2.1.2.2.1 1 gl.1.2.2.2.2.2.2.2.1 [] gl.2.1.2.2.2.2.2.2.1 aBM gl.2.2.1.1 gl.2.2.1.2.1 gl.2.2.1.2.2.1
 gl.2.2.1.2.2.2.1 gl.2.2.1.2.2.2.2.1).bind fun gm=>
(V4 F F gm.1.1 0 gm.2.2.1.1 gm.2.2.2.1.1 gm.2.2.2.1.2.1 gm.2.2.2.1.2.2.1 gm.2.2.2.1.2.2.2.1 gm.2.2.2.1.2.2.2.2.1
 gm.2.2.2.1.2.2.2.2.2.1 gm.2.2.2.1.2.2.2.2.2.2.1 gm.2.2.2.2.2.1 gm.2.2.2.2.2.2.2.1.2.1 gm.2.2.2.2.2.2.2.1.2.2.1
 gm.2.2.2.2.2.2.2.1.2.2.2.1 gm.2.2.2.2.2.2.2.1.2.2.2.2.1 gm.2.2.2.2.2.2.2.1.2.2.2.2.2.1 gm.2.2.2.2.2.2.2.1.2.2.2.2.2.2.1
 gm.2.2.2.2.2.2.2.2.1 gm.2.1.1 gm.2.1.2.1 gm.2.1.2.2.1 gm.2.1.2.2.2.1 gm.2.1.2.2.2.2.1 gm.2.1.2.2.2.2.2.1
 gm.2.1.2.2.2.2.2.2.1 gm.2.2.2.2.2.2.2.2.2.1.1 gm.2.2.2.2.2.2.2.2.2.1.2.1 gm.2.2.2.2.2.2.2.2.2.1.2.2.1
 gm.2.2.2.2.2.2.2.2.2.1.2.2.2.1 gm.2.2.2.2.2.2.2.2.2.1.2.2.2.2.1).bind fun ka=>
(V5 F F ka.1.1 0 ka.2.2.1.1 ka.2.2.1.2.1 ka.2.2.1.2.2.1 ka.2.2.1.2.2.2.1 ka.2.2.1.2.2.2.2.1 ka.2.2.1.2.2.2.2.2.1
 ka.2.2.1.2.2.2.2.2.2.1 ka.2.1.1 ka.2.2.2.2.1 ka.2.2.2.2.2.2.1.2.1 ka.2.2.2.2.2.2.1.2.2.1 ka.2.2.2.2.2.2.1.2.2.2.1
 ka.2.2.2.2.2.2.1.2.2.2.2.1 ka.2.2.2.2.2.2.1.2.2.2.2.2.1 ka.2.2.2.2.2.2.1.2.2.2.2.2.2.1 ka.2.2.2.2.2.2.2.1 []).bind fun xh=>
some (((xh.2.2.2.2.2.2.2.1,xh.2.2.2.2.2.2.1.2.1,xh.2.2.2.2.2.2.1.2.2.1,xh.2.2.2.2.2.2.1.2.2.2.1,xh.2.2.2.2.2.2.1.2.2.2.2.1,xh.2.2.2.2.2.2.1.2.2.2.2.2.1,xh.2.2.2.2.2.2.1.2.2.2.2.2.2.1,()),xh.2.2.2.2.2.2.2.2.1,()),())
def Hu (F:Nat) (Lz:Int) (Uv:List Int) (LA:Int) (Uw:Int) (Ux:Int) (Uy:Int) (Uz:List Int) (UA:Int) (LB:List Int):Option (Unit × jf × (Unit × Unit) × List Int × Unit):=
 cond (decide (1 <=Lz) && decide (Lz<=LA)) ((kX F LB Lz).bind fun aBP=>
cond (!aBP) ((bO 8 LB [Lz]).bind fun aBQ=>
some ((),(Uv,LA,Uw,Ux,Uy,Uz,UA,()),((),()),aBQ,())) (
some ((),(Uv,LA,Uw,Ux,Uy,Uz,UA,()),((),()),LB,()))) (
some ((),(Uv,LA,Uw,Ux,Uy,Uz,UA,()),((),()),LB,()))
def VT (F:Nat):Nat->(List Int)->(Int)->(List Int)->(Int)->(Int)->(Int)->(Int)->(List Int)->(Int)->(List aq)->(List Int)->(List (List J.Field))->(List (List (List UInt8)))->(List (List J.Target))->(List Int)->(Int)->(Int)->(Int)->(Int)->(List Int)->(Int)->(List Int)->Option (ahZ ×
 jf ×
  xA × jf × (Unit × Unit) × List Int × Unit)
 | 0,_,_,_,_,_,_,_,_,_,_,_,_,_,_,_,_,_,_,_,_,_,_=>none
 | aR+ 1,LC,UB,af5,af6,af7,af9,af_,af',aga,agb,agc,agd,age,agf,agh,agj,agk,agl,agm,agn,ago,agp=>
   cond (decide (UB <(↑LC.length:Int))) ((idx LC UB).bind fun aBU=>
(Hu F aBU af5 af6 af7 af9 af_ af' aga agp).bind fun xi=>
VT F aR LC (aE (UB+ 1)) xi.2.1.1 xi.2.1.2.1 xi.2.1.2.2.1 xi.2.1.2.2.2.1 xi.2.1.2.2.2.2.1 xi.2.1.2.2.2.2.2.1 xi.2.1.2.2.2.2.2.2.1 agb agc agd age agf agh agj agk agl agm agn ago xi.2.2.2.1) (
some ((LC,(),(),(),(),((),(),()),()),(af5,af6,af7,af9,af_,af',aga,()),(agb,agc,agd,age,agf,()),(agh,agj,agk,agl,agm,agn,ago,()),((),()),agp,()))
def VV (F:Nat):Nat->(List Int)->(Int)->(List Int)->(Int)->(List Int)->(Int)->(Int)->(Int)->(Int)->(List Int)->(Int)->(List aq)->(List Int)->(List (List J.Field))->(List (List (List UInt8)))->(List (List J.Target))->(List Int)->(Int)->(Int)->(Int)->(Int)->(List Int)->(Int)->(List Int)->Option (ahY ×
 jf ×
  xA × jf × (Unit × Unit) × List Int × Unit)
 | 0,_,_,_,_,_,_,_,_,_,_,_,_,_,_,_,_,_,_,_,_,_,_,_,_=>none
 | aR+ 1,agw,agx,UF,UG,UH,agy,agz,agA,agB,agC,agD,agE,agF,agG,agH,agI,agJ,agK,agL,agM,agN,agO,agP,agQ=>
   cond (decide (UG <(↑UF.length:Int))) ((idx UF UG).bind fun aCe=>
(idx UH aCe).bind fun aCf=>
(Hu F aCf UH agy agz agA agB agC agD agQ).bind fun xn=>
VV F aR agw agx UF (aE (UG+ 1)) xn.2.1.1 xn.2.1.2.1 xn.2.1.2.2.1 xn.2.1.2.2.2.1 xn.2.1.2.2.2.2.1 xn.2.1.2.2.2.2.2.1 xn.2.1.2.2.2.2.2.2.1 agE agF agG agH agI agJ agK agL agM agN agO agP xn.2.2.2.1) (
some ((agw,(),(),(),(),((),(),()),agx,()),(UH,agy,agz,agA,agB,agC,agD,()),(agE,agF,agG,agH,agI,()),(agJ,agK,agL,agM,agN,agO,agP,()),((),()),agQ,()))
def VU (F:Nat):Nat->(List Int)->(Int)->(List Int)->(Int)->(Int)->(Int)->(Int)->(List Int)->(Int)->(List aq)->(List Int)->(List (List J.Field))->(List (List (List UInt8)))->(List (List J.Target))->(List Int)->(Int)->(Int)->(Int)->(Int)->(List Int)->(Int)->(List Int)->Option (ahZ ×
 jf ×
  xA × jf × (Unit × Unit) × List Int × Unit)
 | 0,_,_,_,_,_,_,_,_,_,_,_,_,_,_,_,_,_,_,_,_,_,_=>none
 | aR+ 1,agR,UI,UJ,UK,UL,UM,UN,GV,UO,UP,UQ,UR,US,UT,agS,agT,agU,agV,agW,agX,agY,agZ=>
   cond (decide (UI <(↑GV.length:Int))) ((idx GV UI).bind fun aCo=>
(nW F (aW.mk UJ UK UL UM UN GV UO) (aQ.mk UP UQ UR US UT) aCo).bind fun aCp=>
(VV F F agR UI aCp 0 UJ UK UL UM UN GV UO UP UQ UR US UT agS agT agU agV agW agX agY agZ).bind fun h_=>
VU F aR h_.1.1 (aE (h_.1.2.2.2.2.2.2.1 + 1)) h_.2.1.1 h_.2.1.2.1 h_.2.1.2.2.1 h_.2.1.2.2.2.1 h_.2.1.2.2.2.2.1 h_.2.1.2.2.2.2.2.1 h_.2.1.2.2.2.2.2.2.1 h_.2.2.1.1 h_.2.2.1.2.1 h_.2.2.1.2.2.1 h_.2.2.1.2.2.2.1 h_.2.2.1.2.2.2.2.1 h_.2.2.2.1.1 h_.2.2.2.1.2.1 h_.2.2.2.1.2.2.1 h_.2.2.2.1.2.2.2.1 h_.2.2.2.1.2.2.2.2.1 h_.2.2.2.1.2.2.2.2.2.1 h_.2.2.2.1.2.2.2.2.2.2.1 h_.2.2.2.2.2.1) (
some ((agR,(),(),(),(),((),(),()),()),(UJ,UK,UL,UM,UN,GV,UO,()),(UP,UQ,UR,US,UT,()),(agS,agT,agU,agV,agW,agX,agY,()),((),()),agZ,()))
def VX (F:Nat):Nat->(List Int)->(Int)->(List Int)->(Int)->(List Int)->(Int)->(Int)->(Int)->(Int)->(List Int)->(Int)->(List aq)->(List Int)->(List (List J.Field))->(List (List (List UInt8)))->(List (List J.Target))->(List Int)->(Int)->(Int)->(Int)->(Int)->(List Int)->(Int)->(List Int)->Option (ahY ×
 jf ×
  xA × jf × (Unit × Unit) × List Int × Unit)
 | 0,_,_,_,_,_,_,_,_,_,_,_,_,_,_,_,_,_,_,_,_,_,_,_,_=>none
 | aR+ 1,ag2,ag3,UY,UZ,U0,ag4,ag5,ag6,ag7,ag8,ag9,ag_,ag',aha,ahb,ahd,ahe,ahf,ahg,ahh,ahi,ahj,ahk,ahl=>
   cond (decide (UZ <(↑UY.length:Int))) ((idx UY UZ).bind fun aCu=>
(idx U0 aCu).bind fun aCv=>
(Hu F aCv U0 ag4 ag5 ag6 ag7 ag8 ag9 ahl).bind fun xw=>
VX F aR ag2 ag3 UY (aE (UZ+ 1)) xw.2.1.1 xw.2.1.2.1 xw.2.1.2.2.1 xw.2.1.2.2.2.1 xw.2.1.2.2.2.2.1 xw.2.1.2.2.2.2.2.1 xw.2.1.2.2.2.2.2.2.1 ag_ ag' aha ahb ahd ahe ahf ahg ahh ahi ahj ahk xw.2.2.2.1) (
some ((ag2,(),(),(),(),((),(),()),ag3,()),(U0,ag4,ag5,ag6,ag7,ag8,ag9,()),(ag_,ag',aha,ahb,ahd,()),(ahe,ahf,ahg,ahh,ahi,ahj,ahk,()),((),()),ahl,()))
def VW (F:Nat):Nat->(List Int)->(Int)->(List Int)->(Int)->(Int)->(Int)->(Int)->(List Int)->(Int)->(List aq)->(List Int)->(List (List J.Field))->(List (List (List UInt8)))->(List (List J.Target))->(List Int)->(Int)->(Int)->(Int)->(Int)->(List Int)->(Int)->(List Int)->Option ((List Int × Unit × Unit × Unit × Unit × Unit) ×
 jf ×
  xA × jf × (Unit × Unit) × List Int × Unit)
 | 0,_,_,_,_,_,_,_,_,_,_,_,_,_,_,_,_,_,_,_,_,_,_=>none
 | aR+ 1,ahp,U3,U4,U5,U6,U7,U8,U9,U_,U',Va,Vb,Vc,Vd,ahq,ahr,ahs,aht,ahu,ahv,ahw,LK=>
   cond (decide (U3 <(↑LK.length:Int))) ((idx LK U3).bind fun aCO=>
(nW F (aW.mk U4 U5 U6 U7 U8 U9 U_) (aQ.mk U' Va Vb Vc Vd) aCO).bind fun azP=>
(VX F F ahp U3 azP 0 U4 U5 U6 U7 U8 U9 U_ U' Va Vb Vc Vd ahq ahr ahs aht ahu ahv ahw LK).bind fun h7=>
VW F aR h7.1.1 (aE (h7.1.2.2.2.2.2.2.1 + 1)) h7.2.1.1 h7.2.1.2.1 h7.2.1.2.2.1 h7.2.1.2.2.2.1 h7.2.1.2.2.2.2.1 h7.2.1.2.2.2.2.2.1 h7.2.1.2.2.2.2.2.2.1 h7.2.2.1.1 h7.2.2.1.2.1 h7.2.2.1.2.2.1 h7.2.2.1.2.2.2.1 h7.2.2.1.2.2.2.2.1 h7.2.2.2.1.1 h7.2.2.2.1.2.1 h7.2.2.2.1.2.2.1 h7.2.2.2.1.2.2.2.1 h7.2.2.2.1.2.2.2.2.1 h7.2.2.2.1.2.2.2.2.2.1 h7.2.2.2.1.2.2.2.2.2.2.1 h7.2.2.2.2.2.1) (
some ((ahp,(),(),(),(),()),(U4,U5,U6,U7,U8,U9,U_,()),(U',Va,Vb,Vc,Vd,()),(ahq,ahr,ahs,aht,ahu,ahv,ahw,()),((),()),LK,()))
def VS (F:Nat) (azQ:List Int) (azR:Int) (azS:Int) (azT:Int) (azU:Int) (azV:List Int) (azW:Int) (azX:List aq) (azZ:List Int) (az0:List (List J.Field)) (az1:List (List (List UInt8))) (az2:List (List J.Target)) (az3:List Int):Option ((jf × List Int × Unit) × Unit):=
 (VT F F az3 0 azQ azR azS azT azU azV azW azX azZ az0 az1 az2 [] 0 0 0 0 [] 0 []).bind fun iE=>
(VU F F iE.1.1 0 iE.2.1.1 iE.2.1.2.1 iE.2.1.2.2.1 iE.2.1.2.2.2.1 iE.2.1.2.2.2.2.1 iE.2.1.2.2.2.2.2.1
 iE.2.1.2.2.2.2.2.2.1 iE.2.2.1.1 iE.2.2.1.2.1 iE.2.2.1.2.2.1 iE.2.2.1.2.2.2.1 iE.2.2.1.2.2.2.2.1 iE.2.2.2.1.1
 iE.2.2.2.1.2.1 iE.2.2.2.1.2.2.1 iE.2.2.2.1.2.2.2.1 iE.2.2.2.1.2.2.2.2.1 iE.2.2.2.1.2.2.2.2.2.1
 iE.2.2.2.1.2.2.2.2.2.2.1 iE.2.2.2.2.2.1).bind fun iF=>
(VW F F iF.1.1 0 iF.2.1.1 iF.2.1.2.1 iF.2.1.2.2.1 iF.2.1.2.2.2.1 iF.2.1.2.2.2.2.1 iF.2.1.2.2.2.2.2.1
 iF.2.1.2.2.2.2.2.2.1 iF.2.2.1.1 iF.2.2.1.2.1 iF.2.2.1.2.2.1 iF.2.2.1.2.2.2.1 iF.2.2.1.2.2.2.2.1 iF.2.2.2.1.1
 iF.2.2.2.1.2.1 iF.2.2.2.1.2.2.1 iF.2.2.2.1.2.2.2.1 iF.2.2.2.1.2.2.2.2.1 iF.2.2.2.1.2.2.2.2.2.1
 iF.2.2.2.1.2.2.2.2.2.2.1 iF.2.2.2.2.2.1).bind fun lD=>
(alQ F lD.2.1.1 lD.2.1.2.1 lD.2.1.2.2.1 lD.2.1.2.2.2.1 lD.2.1.2.2.2.2.1 lD.2.1.2.2.2.2.2.1 lD.2.1.2.2.2.2.2.2.1
 lD.2.2.1.1 lD.2.2.1.2.1 lD.2.2.1.2.2.1 lD.2.2.1.2.2.2.1 lD.2.2.1.2.2.2.2.1 lD.2.2.2.2.2.1 lD.2.1.2.2.2.2.1 lD.1.1).bind fun w6=>
some (((w6.1.1.1,w6.1.1.2.1,w6.1.1.2.2.1,w6.1.1.2.2.2.1,w6.1.1.2.2.2.2.1,w6.1.1.2.2.2.2.2.1,w6.1.1.2.2.2.2.2.2.1,()),w6.1.2.1,()),())
def alM (F:Nat) (K7:List Int) (Gx:Int) (Gy:Int) (Gz:Int) (GA:Int) (K8:List Int) (K9:Int) (K_:List aq) (K':List Int) (La:List (List J.Field)) (Lb:List (List (List UInt8))) (Lc:List (List J.Target)) (Ld:List Int):Option ((Bool × Unit) × Unit):=
 (qk F K7 Gx Gy Gz GA K8 K9 K_ K' La Lb Lc Ld).bind fun eo=>
(Ml F (aW.mk K7 Gx Gy Gz GA K8 K9) (aQ.mk K_ K' La Lb Lc) Ld).bind fun z3=>
cond (decide (z3= 0)) (cond (decide (aE (aE (aE (aE (aE (Gx+Gy)+ 1) - GA) - Gz)+ 1) < 0)) ((xJ F (aW.mk eo.1.1.1 eo.1.1.2.1 eo.1.1.2.2.1 eo.1.1.2.2.2.1 eo.1.1.2.2.2.2.1 eo.1.1.2.2.2.2.2.1 eo.1.1.2.2.2.2.2.2.1)
 eo.1.2.2.1 8 (aW.mk [] 0 0 0 0 [] 0)).bind fun az7=>
cond az7 ((mO F eo.1.2.1 []).bind fun az8=>
some ((az8,()),())) (
some ((false,()),()))) (
cond (decide (z3= 0)) ((VS F K7 Gx Gy Gz GA K8 K9 K_ K' La Lb Lc Ld).bind fun w7=>
(xJ F (aW.mk eo.1.1.1 eo.1.1.2.1 eo.1.1.2.2.1 eo.1.1.2.2.2.1 eo.1.1.2.2.2.2.1 eo.1.1.2.2.2.2.2.1 eo.1.1.2.2.2.2.2.2.1)
 eo.1.2.2.1 z3
 (aW.mk w7.1.1.1 w7.1.1.2.1 w7.1.1.2.2.1 w7.1.1.2.2.2.1 w7.1.1.2.2.2.2.1 w7.1.1.2.2.2.2.2.1 w7.1.1.2.2.2.2.2.2.1)).bind fun az9=>
cond az9 ((mO F eo.1.2.1 w7.1.2.1).bind fun az_=>
some ((az_,()),())) (
some ((false,()),()))) (
(xJ F (aW.mk eo.1.1.1 eo.1.1.2.1 eo.1.1.2.2.1 eo.1.1.2.2.2.1 eo.1.1.2.2.2.2.1 eo.1.1.2.2.2.2.2.1 eo.1.1.2.2.2.2.2.2.1)
 eo.1.2.2.1 z3 (aW.mk [] 0 0 0 0 [] 0)).bind fun az'=>
cond az' ((mO F eo.1.2.1 []).bind fun aAc=>
some ((aAc,()),())) (
some ((false,()),()))))) (
cond (decide (z3= 0)) ((VS F K7 Gx Gy Gz GA K8 K9 K_ K' La Lb Lc Ld).bind fun w8=>
(xJ F (aW.mk eo.1.1.1 eo.1.1.2.1 eo.1.1.2.2.1 eo.1.1.2.2.2.1 eo.1.1.2.2.2.2.1 eo.1.1.2.2.2.2.2.1 eo.1.1.2.2.2.2.2.2.1)
 eo.1.2.2.1 z3
 (aW.mk w8.1.1.1 w8.1.1.2.1 w8.1.1.2.2.1 w8.1.1.2.2.2.1 w8.1.1.2.2.2.2.1 w8.1.1.2.2.2.2.2.1 w8.1.1.2.2.2.2.2.2.1)).bind fun aAd=>
cond aAd ((mO F eo.1.2.1 w8.1.2.1).bind fun aAe=>
some ((aAe,()),())) (
some ((false,()),()))) (
(xJ F (aW.mk eo.1.1.1 eo.1.1.2.1 eo.1.1.2.2.1 eo.1.1.2.2.2.1 eo.1.1.2.2.2.2.1 eo.1.1.2.2.2.2.2.1 eo.1.1.2.2.2.2.2.2.1)
 eo.1.2.2.1 z3 (aW.mk [] 0 0 0 0 [] 0)).bind fun aAf=>
cond aAf ((mO F eo.1.2.1 []).bind fun aAg=>
some ((aAg,()),())) (
some ((false,()),()))))
@[reducible] noncomputable def aEm (F:Nat):fw bQ:=⟨[avs,avt,.p (.l 3)],[],[.p (.b)],[],fun d=>alM F d.1.1.1 d.1.1.2.1 d.1.1.2.2.1 d.1.1.2.2.2.1 d.1.1.2.2.2.2.1 d.1.1.2.2.2.2.2.1 d.1.1.2.2.2.2.2.2.1 d.1.2.1.1 d.1.2.1.2.1 d.1.2.1.2.2.1 d.1.2.1.2.2.2.1 d.1.2.1.2.2.2.2.1 d.1.2.2.1⟩
end Go.Proofs.YteeliipnilghaaaGreat
namespace J
theorem da {n:Int} (aP: -9223372036854775808 <=n) (I:n<= 9223372036854775807):aE n=n:=by unfold aE;omega
theorem fs {i n:Nat} (hi:i <n) (aF:n<= 140737488355328):aE ((i:Int)+ 1)=((i+ 1 :Nat):Int):=by
 rw [da (by omega) (by omega)];omega
theorem bt {α:Type} {l:List α} {i:Nat} {x:α} (h:l[i]? =some x):idx l (i:Int)=some x:=by
 unfold idx;rw [if_pos (by omega)];simpa using h
theorem bL {i n:Nat} (h:i <n):decide ((i:Int) <(n:Int))=true:=decide_eq_true (by omega)
theorem bK (n:Nat):decide ((n:Int) <(n:Int))=false:=decide_eq_false (by omega)
def cv {ρ:Type}:Option ρ->Way ρ Unit
 | some r=>.out r
 | none=>.go ()
def gB {ρ:Type} (o:Option ρ) (y:Option (Way ρ Unit)):Option (Way ρ Unit):=match o with
 | some r=>some (.out r)
 | none=>y
theorem each {α ρ:Type} {l:List α} {L:Nat->Int->Option (Way ρ Unit)} (g:α->Option ρ) (ap:l.length<= 140737488355328)
 (ao:∀ k (i:Nat) x,l[i]? =some x->L (k+ 1) (i:Int)=gB (g x) (L k (aE ((i:Int)+ 1))))
 (he:∀ k,L (k+ 1) (l.length:Int)=some (.go ())) {F:Nat} (aI:l.length <F):L F 0 =some (cv (l.findSome? g)):=by
 have key:∀ (d i k:Nat),i+d=l.length->d <k->L k (i:Int)=some (cv ((l.drop i).findSome? g)):=by
  intro d
  induction d with
  | zero=>
    intro i k h ai
    obtain ⟨k,rfl⟩:∃ k',k=k'+ 1 :=⟨k - 1,by omega⟩
    have hi:i=l.length:=by omega
    subst hi
    rw [he];simp [cv]
  | succ d bi=>
    intro i k h ai
    obtain ⟨k,rfl⟩:∃ k',k=k'+ 1 :=⟨k - 1,by omega⟩
    have hi:i <l.length:=by omega
    rw [ao k i l[i] (List.getElem?_eq_getElem hi),List.drop_eq_getElem_cons hi,List.findSome?_cons]
    cases ay:g l[i] with
    | some r=>rfl
    | none=>
      simp only [gB]
      rw [fs hi ap]
      exact bi (i+ 1) k (by omega) (by omega)
 have:=key l.length 0 F (by omega) aI
 simpa using this
theorem jC {ρ:Type} {n:Nat} {L:Nat->Int->Option (Way ρ Unit)} (g:Nat->Option ρ) (ap:n<= 140737488355328)
 (ao:∀ k (i:Nat),i <n->L (k+ 1) (i:Int)=gB (g i) (L k (aE ((i:Int)+ 1))))
 (he:∀ k,L (k+ 1) (n:Int)=some (.go ())) {F:Nat} (aI:n <F):L F 0 =some (cv ((List.range n).findSome? g)):=by
 have h:=each (l:=List.range n) (L:=L) g (by simpa using ap) (fun k i x ad=>by
  have hi:i <n:=by have:=(List.getElem?_eq_some_iff.1 ad).1;simpa using this
  rw [List.getElem?_range hi] at ad
  simp only [Option.some.injEq] at ad
  subst ad
  exact ao k i hi) (fun k=>by simpa using he k) (F:=F) (by simpa using aI)
 exact h
theorem Jt {σ:Type} {n:Nat} (T:Nat->Nat->Option σ) (fin:σ) (ao:∀ k i,i <n->T (k+ 1) i=T k (i+ 1)) (he:∀ k,T (k+ 1) n=some fin) {F:Nat} (aI:n <F):T F 0 =some fin:=by
 have key:∀ (d i k:Nat),i+d=n->d <k->T k i=some fin:=by
  intro d
  induction d with
  | zero=>
    intro i k h ai
    obtain ⟨k,rfl⟩:∃ k',k=k'+ 1 :=⟨k - 1,by omega⟩
    have hi:i=n:=by omega
    subst hi
    exact he k
  | succ d bi=>
    intro i k h ai
    obtain ⟨k,rfl⟩:∃ k',k=k'+ 1 :=⟨k - 1,by omega⟩
    rw [ao k i (by omega)]
    exact bi (i+ 1) k (by omega) (by omega)
 exact key n 0 F (by omega) aI
abbrev Small (F n:Nat):Prop:=n<= 140737488355328 /\n <F
end J
namespace J
def qF (b:UInt8):Bool:=((((decide (97 <=(b.toNat:Int))) && (decide ((b.toNat:Int)<= 122))) || ((decide (65 <=(b.toNat:Int))) && (decide ((b.toNat:Int)<= 90)))) || ((decide (48 <=(b.toNat:Int))) && (decide ((b.toNat:Int)<= 57)))) || (decide ((b.toNat:Int)= 95))
def gG (s:List UInt8):Bool:=(s.findSome? fun b=>if qF b then none else some ()).isNone && decide (s≠ []) && decide (s.length<= 20)
theorem x8 {F:Nat} {s:List UInt8} (h:Small F s.length):mN F s=some (gG s):=by
 unfold mN
 have l1:=each (l:=s) (L:=qB s) (fun b=>if qF b then none else some false) h.1 (fun k i x ad=>by
  rw [qB,bL (List.getElem?_eq_some_iff.1 ad).1,cond_true,bt ad,Option.bind_some]
  show cond (!qF x) _ _=_
  cases qF x <;> rfl) (fun k=>by rw [qB,bK];rfl) h.2
 rw [l1]
 unfold gG
 have e:∀ s:List UInt8,s.findSome? (fun b=>if qF b then none else some false)=(s.findSome? (fun b=>if qF b then none else some ())).map (fun _=>false):=by
  intro s
  induction s with
  | nil=>rfl
  | cons b r bi=>simp only [List.findSome?_cons];cases qF b <;> simp [bi]
 rw [e]
 cases s.findSome? (fun b=>if qF b then none else some ()) with
 | some _=>rfl
 | none=>
   simp only [Option.map_none,cv,oN,Option.isNone_none,Bool.true_and]
   congr 1
   rw [Bool.eq_iff_iff]
   cases s <;> first | (simp;done) | (simp;omega)
theorem BQ {F:Nat} {s:List UInt8} (h:Small F s.length):mf F s=some (gG s):=by
 rw [<-x8 h]
 unfold mf mN bytesOf
 rw [if_pos h.1,Option.bind_some]
 have e:∀ k n,y9 s k n=qB s k n:=by
  intro k
  induction k with
  | zero=>intro n;rfl
  | succ k bi=>
    intro n
    rw [y9,qB]
    simp only [bi]
    congr 1
    congr 1
    funext b
    have hc:(((((decide ((b.toNat:Int) < 97)) || (decide (122 <(b.toNat:Int)))) && ((decide ((b.toNat:Int) < 65)) || (decide (90 <(b.toNat:Int))))) && ((decide ((b.toNat:Int) < 48)) || (decide (57 <(b.toNat:Int))))) && (!decide ((b.toNat:Int)= 95)))= !qF b:=by
     unfold qF
     rw [Bool.eq_iff_iff]
     first | (simp;done) | (simp;omega)
    rw [hc];rfl
 rw [e]
 cases qB s F 0 with
 | none=>rfl
 | some w=>
   cases w with
   | out r=>rfl
   | go u=>
     simp only [oN]
     congr 1
     rw [Bool.eq_iff_iff]
     cases s <;> first | (simp;done) | (simp;omega)
def kindOk (k:Kind):Bool:=if k.Kind= 3 \/k.Kind= 4 then gG k.aq else (decide (k.Kind= 1) || decide (k.Kind= 2)) && decide (k.aq= [])
theorem Qd {F:Nat} {k:Kind} (h:Small F k.aq.length):s4 F k=some (kindOk k):=by
 unfold s4 I4 kindOk
 simp only [Option.bind_some,BQ h]
 by_cases au:k.Kind= 3 \/k.Kind= 4
 · rw [if_pos au]
   rcases au with e | e <;> simp [e]
 · rw [if_neg au]
   have aT: ¬ k.Kind= 3 :=fun e=>au (.inl e)
   have bU: ¬ k.Kind= 4 :=fun e=>au (.inr e)
   simp [aT,bU]
theorem Mp {F:Nat} {k:Kind} (h:Small F k.aq.length):r' F k=some (kindOk k):=by
 unfold r' kindOk
 simp only [x8 h,Option.bind_some]
 by_cases au:k.Kind= 3 \/k.Kind= 4
 · rw [if_pos au]
   rcases au with e | e <;> simp [e]
 · rw [if_neg au]
   have aT: ¬ k.Kind= 3 :=fun e=>au (.inl e)
   have bU: ¬ k.Kind= 4 :=fun e=>au (.inr e)
   by_cases I:k.Kind= 1
   · simp [I]
   · by_cases aa:k.Kind= 2
     · simp [aa]
     · simp [aT,bU,I,aa]
def ho (n a b:Int):Bool:=decide (a<=n) && decide (n<=b)
def qP (h:Handler):Option Int:=if gG h.aq then (if ho h.From 0 200 && ho h.To 0 200 && ho h.hU 0 200 then none else some 3) else some 1
def s6 (k:Kind):Option Int:=if kindOk k then none else some 7
def zz (m:Method):Int:=
 if gG m.Name then
  if 4 <m.cy.length\/ 200 <m.Code.length\/ 4 <m.cC.length then 2
  else if ho m.g4 0 10 && ho m.g2 0 10 then
   match m.cy.findSome? s6 with
   | some e=>e
   | none=>if m.Returns=⟨0,[]⟩\/kindOk m.Returns=true then (m.cC.findSome? qP).getD 0 else 7
  else 3
 else 1
structure Method.Fits (F:Nat) (m:Method):Prop where
 name:Small F m.Name.length
 args:Small F m.cy.length
 arg:∀ k ∈ m.cy,Small F k.aq.length
 ret:Small F m.Returns.aq.length
 vw:Small F m.cC.length
 hand:∀ h ∈ m.cC,Small F h.aq.length
structure aq.Fits (F:Nat) (c:aq):Prop where
 name:Small F c.Name.length
 super:Small F c.cS.length
 fields:Small F c.Fields.length
 field:∀ f ∈ c.Fields,Small F f.Name.length/\Small F f.Kind.aq.length
 methods:Small F c.bd.length
 method:∀ m ∈ c.bd,m.Fits F
def Fits (F:Nat) (l:List aq):Prop:=Small F l.length/\ ∀ c ∈ l,c.Fits F
theorem ad6 {F:Nat} (o:Option Int) (d:Int):cj (α:=Unit) (some (cv o)) (fun _=>some d)=some (o.getD d):=by cases o <;> rfl
theorem ad7 {o:Option Int} {k:Option Int}:cj (α:=Unit) (some (cv o)) (fun _=>k)=(match o with | some e=>some e | none=>k):=by cases o <;> rfl
theorem arY {F:Nat} {m:Method} (h:m.Fits F):za F m=some (zz m):=by
 have l1:vM F m F 0 =some (cv (m.cy.findSome? s6)):=each s6 h.args.1 (fun k i x ad=>by
  rw [vM,bL (List.getElem?_eq_some_iff.1 ad).1,cond_true,bt ad,Option.bind_some,Qd (h.arg x (List.mem_of_getElem? ad)),Option.bind_some]
  unfold s6
  show cond (!kindOk x) _ _=_
  cases kindOk x <;> rfl) (fun k=>by rw [vM,bK];rfl) h.args.2
 have ap:∀ {x:Handler} (_:x ∈ m.cC) (Y:Option (Way Int Unit)),((mf F x.aq).bind fun SN=>
  cond (!SN) (some (.out 1)) ((lc x.From 0 200).bind fun oI=>
  cond (!oI) (some (.out 3)) ((lc x.To 0 200).bind fun SP=>
  cond (!SP) (some (.out 3)) ((lc x.hU 0 200).bind fun SQ=>
  cond (!SQ) (some (.out 3)) Y))))=gB (qP x) Y:=by
  intro x ad Y
  rw [BQ (h.hand x ad)]
  unfold qP lc
  simp only [Option.bind_some]
  show cond (!gG x.aq) _ (cond (!ho x.From 0 200) _ (cond (!ho x.To 0 200) _ (cond (!ho x.hU 0 200) _ _)))=_
  cases gG x.aq <;> cases ho x.From 0 200 <;> cases ho x.To 0 200 <;> cases ho x.hU 0 200 <;> rfl
 have cp:zb F m F 0 =some (cv (m.cC.findSome? qP)):=each qP h.vw.1 (fun k i x ad=>by
  rw [zb,bL (List.getElem?_eq_some_iff.1 ad).1,cond_true,bt ad,Option.bind_some]
  exact ap (List.mem_of_getElem? ad) _) (fun k=>by rw [zb,bK];rfl) h.vw.2
 have jp:pG F m F 0 =some (cv (m.cC.findSome? qP)):=each qP h.vw.1 (fun k i x ad=>by
  rw [pG,bL (List.getElem?_eq_some_iff.1 ad).1,cond_true,bt ad,Option.bind_some]
  exact ap (List.mem_of_getElem? ad) _) (fun k=>by rw [pG,bK];rfl) h.vw.2
 unfold za lc zz
 rw [BQ h.name,l1,cp,jp]
 have ai:=Qd (F:=F) (k:=(⟨m.Returns.Kind,m.Returns.aq⟩:Kind)) h.ret
 simp only [Option.bind_some,ai,ad6 (F:=F),ad7]
 cases gG m.Name with
 | false=>rfl
 | true=>
   simp only [Bool.not_true,cond_false,if_true]
   by_cases hm:4 <m.cy.length\/ 200 <m.Code.length\/ 4 <m.cC.length
   · rw [if_pos hm]
     have:((decide (4 <(m.cy.length:Int))) || (decide (200 <(m.Code.length:Int))) || (decide (4 <(m.cC.length:Int))))=true:=by
      simp;omega
     rw [this];rfl
   · rw [if_neg hm]
     have:((decide (4 <(m.cy.length:Int))) || (decide (200 <(m.Code.length:Int))) || (decide (4 <(m.cC.length:Int))))=false:=by
      simp;omega
     rw [this]
     show cond (!ho m.g4 0 10) _ (cond (!ho m.g2 0 10) _ _)=_
     cases ho m.g4 0 10 <;> cases ho m.g2 0 10 <;> try rfl
     simp only [Bool.not_true,cond_false,Bool.and_self,if_true]
     cases m.cy.findSome? s6 with
     | some e=>rfl
     | none=>
       simp only
       by_cases aB:m.Returns=⟨0,[]⟩
       · rw [if_pos (.inl aB),show (decide ((⟨m.Returns.Kind,m.Returns.aq⟩:Kind)=⟨0,[]⟩))=true from decide_eq_true aB]
         rfl
       · rw [show (decide ((⟨m.Returns.Kind,m.Returns.aq⟩:Kind)=⟨0,[]⟩))=false from decide_eq_false aB]
         simp only [Bool.not_false,cond_true]
         show cond (!kindOk m.Returns) _ _=_
         cases aqB:kindOk m.Returns with
         | true=>rw [if_pos (.inr rfl)];rfl
         | false=>rw [if_neg (by simp [aB])];rfl
theorem alP {F:Nat} {m:Method} (h:m.Fits F):x3 F m=some (zz m):=by
 have l1:x4 F m F 0 =some (cv (m.cy.findSome? s6)):=each s6 h.args.1 (fun k i x ad=>by
  rw [x4,bL (List.getElem?_eq_some_iff.1 ad).1,cond_true,bt ad,Option.bind_some,Mp (h.arg x (List.mem_of_getElem? ad)),Option.bind_some]
  unfold s6
  cases kindOk x <;> rfl) (fun k=>by rw [x4,bK];rfl) h.args.2
 have cp:x5 F m F 0 =some (cv (m.cC.findSome? qP)):=each qP h.vw.1 (fun k i x ad=>by
  rw [x5,bL (List.getElem?_eq_some_iff.1 ad).1,cond_true,bt ad,Option.bind_some,x8 (h.hand x (List.mem_of_getElem? ad))]
  unfold qP fy
  simp only [Option.bind_some]
  show cond (!gG x.aq) _ (cond (!ho x.From 0 200) _ (cond (!ho x.To 0 200) _ (cond (!ho x.hU 0 200) _ _)))=_
  cases gG x.aq <;> cases ho x.From 0 200 <;> cases ho x.To 0 200 <;> cases ho x.hU 0 200 <;> rfl) (fun k=>by rw [x5,bK];rfl) h.vw.2
 unfold x3 fy zz
 rw [x8 h.name,l1,cp]
 have ai:=Mp (F:=F) (k:=(⟨m.Returns.Kind,m.Returns.aq⟩:Kind)) h.ret
 simp only [Option.bind_some,ai,ad6 (F:=F),ad7]
 cases gG m.Name with
 | false=>rfl
 | true=>
   simp only [Bool.not_true,cond_false,if_true]
   by_cases hm:4 <m.cy.length\/ 200 <m.Code.length\/ 4 <m.cC.length
   · rw [if_pos hm]
     have:((decide (4 <(m.cy.length:Int))) || (decide (200 <(m.Code.length:Int))) || (decide (4 <(m.cC.length:Int))))=true:=by
      simp;omega
     rw [this];rfl
   · rw [if_neg hm]
     have:((decide (4 <(m.cy.length:Int))) || (decide (200 <(m.Code.length:Int))) || (decide (4 <(m.cC.length:Int))))=false:=by
      simp;omega
     rw [this]
     show cond (!ho m.g4 0 10) _ (cond (!ho m.g2 0 10) _ _)=_
     cases ho m.g4 0 10 <;> cases ho m.g2 0 10 <;> try rfl
     simp only [Bool.not_true,cond_false,Bool.and_self,if_true]
     cases m.cy.findSome? s6 with
     | some e=>rfl
     | none=>
       simp only
       show cond ((!kindOk m.Returns) && _) _ _=_
       by_cases aB:m.Returns=⟨0,[]⟩
       · rw [if_pos (.inl aB),aB]
         simp
       · have b5:((!decide (m.Returns.Kind= 0)) || (!decide (m.Returns.aq= [])))=true:=by
          rcases bz:m.Returns with ⟨a,b⟩
          rw [bz] at aB
          by_cases aD:a= 0
          · by_cases ah:b= []
            · subst aD;subst ah;exact absurd rfl aB
            · simp [ah]
          · simp [aD]
         rw [b5]
         cases aqB:kindOk m.Returns with
         | true=>rw [if_pos (.inr rfl)];rfl
         | false=>rw [if_neg (by simp [aB])];rfl
end J
