/- Part 5 of the proof that is ended in the last text: small logic, what the functions compute, walks, plain laws. -/
import Derived.Test.YteeliipnilghaaaGreatZr4
import Derived.KernelRfl
namespace Go.Proofs.YteeliipnilghaaaGreat
open Go Go.RowKit ay I bK
set_option maxRecDepth 100000
noncomputable def LS (k:Nat) (mC:List UInt8) (tK:Int) (aq:Int):=c2 ((mC.length:Int)=aq/\True) (a4 (vS mC k tK))
theorem PA (k:Nat) (mC:List UInt8) (tK:Int):a4 (vS mC k tK)=LS k mC tK (mC.length:Int):=(dg ⟨rfl,trivial⟩).symm
@[reducible] noncomputable def Y7 (_:Nat):a5 aQ:=⟨[0,6,7,8],[.p (.s),.p (.l 5),.p (.i .i64),.p (.i .i64)],[],
  [⟨⟨.nm,[0],[.p (.s)],[]⟩,Unit,fun d _=>((d.1.1,()),())⟩,
   ⟨⟨.rt,[2],[.p (.b)],[]⟩,Bool,fun _ r=>((r,()),())⟩],
  fun k d=>LS k d.1.2.1 d.1.2.2.2.1 d.1.2.2.1⟩
theorem ahp (F:Nat):(Y7 F).bU.bP ad (rT F).aM ((rT F).LE 140) (bR ad.P 140) 0 (bT ad.P 140 0):=a5.b5 (fun d=>df) fun k av aE q h=>by
 obtain ⟨(aw:List UInt8),(v1:List UInt8),(v2:Int),(aV:Int),_⟩:=av
 obtain ⟨aA,_⟩:=dI h
 dsimp only at aA
 obtain ⟨rfl,_⟩:=aA
 conv=>rhs;change Option.map (α:=Unit ⊕ Bool) _ (LS (k+ 1) v1 aV (v1.length:Int));rw [<-PA (k+ 1) v1 aV];simp only [vS,a',PA];simp only [bY]
 kernel_rfl
noncomputable def y' (F:Nat):a2 ad:=(rT F).l 140 0 ((Y7 F).run ad F)
theorem aph (ah:aZ ad) (F:Nat) (h:(rT F).ax):(y' F).ax:=h.b7 ah rfl (by kernel_rfl) (ahp F) F
@[reducible] noncomputable def W' (F:Nat):bS aQ:=⟨[.p (.s)],[],[.p (.b)],[],Bool,fun d=>j6 F d.1.1,fun _ r=>((r,()),())⟩
theorem aho (F:Nat):(W' F).Eq ad (y' F).aM (y' F).LE 140 :=fun av aE=>by
 obtain ⟨(aw:List UInt8),_⟩:=av
 conv=>rhs;change Option.map (α:=Bool) _ (j6 F aw);simp only [j6,a',PA]
 kernel_rfl
noncomputable def AY (F:Nat):a2 ad:=(y' F).f 140 ((W' F).run ad)
theorem aq2 (ah:aZ ad) (F:Nat) (h:(y' F).ax):(AY F).ax:=h.rt ah rfl (by kernel_rfl) (aho F)
@[reducible] noncomputable def Xd (_:Nat):bS aQ:=⟨[.p (.i .i64)],[],[.p (.b)],[],Bool,fun d=>DX d.1.1,fun _ r=>((r,()),())⟩
theorem ahx (F:Nat):(Xd F).Eq ad (AY F).aM (AY F).LE 162 :=fun av aE=>by
 obtain ⟨(aw:Int),_⟩:=av
 conv=>rhs;change Option.map (α:=Bool) _ (DX aw);simp only [DX,a']
 kernel_rfl
noncomputable def Bd (F:Nat):a2 ad:=(AY F).f 162 ((Xd F).run ad)
theorem arj (ah:aZ ad) (F:Nat) (h:(AY F).ax):(Bd F).ax:=h.rt ah rfl (by kernel_rfl) (ahx F)
@[reducible] noncomputable def Xb (F:Nat):bS aQ:=⟨[.a [.i .i64,.s]],[],[.p (.b)],[],Bool,fun d=>o6 F (⟨d.1.1.1,d.1.1.2.1⟩:I.Kind),fun _ r=>((r,()),())⟩
theorem aht (F:Nat):(Xb F).Eq ad (Bd F).aM (Bd F).LE 141 :=fun av aE=>by
 obtain ⟨⟨(aw:Int),(v1:List UInt8),_⟩,_⟩:=av
 conv=>rhs;change Option.map (α:=Bool) _ (o6 F (⟨aw,v1⟩:I.Kind));simp only [o6,a']
 kernel_rfl
noncomputable def Bp (F:Nat):a2 ad:=(Bd F).f 141 ((Xb F).run ad)
theorem aru (ah:aZ ad) (F:Nat) (h:(Bd F).ax):(Bp F).ax:=h.rt ah rfl (by kernel_rfl) (aht F)
@[reducible] noncomputable def Xf (_:Nat):bS aQ:=⟨[.p (.i .i64),.p (.i .i64),.p (.i .i64)],[],[.p (.b)],[],Bool,fun d=>jt d.1.1 d.1.2.1 d.1.2.2.1,fun _ r=>((r,()),())⟩
theorem ahy (F:Nat):(Xf F).Eq ad (Bp F).aM (Bp F).LE 163 :=fun av aE=>by
 obtain ⟨(aw:Int),(v1:Int),(v2:Int),_⟩:=av
 conv=>rhs;change Option.map (α:=Bool) _ (jt aw v1 v2);simp only [jt,a']
 kernel_rfl
noncomputable def BA (F:Nat):a2 ad:=(Bp F).f 163 ((Xf F).run ad)
theorem arF (ah:aZ ad) (F:Nat) (h:(Bp F).ax):(BA F).ax:=h.rt ah rfl (by kernel_rfl) (ahy F)
noncomputable def LU (F:Nat) (k:Nat) (m_:I.Method) (tR:Int) (ao:Int) (dt:List I.Kind):=c2 ((m_.cC.length:Int)=ao/\(m_.cC:List I.Kind)=dt/\True) (a4 (td F m_ k tR))
theorem PB (F:Nat) (k:Nat) (m_:I.Method) (tR:Int):a4 (td F m_ k tR)=LU F k m_ tR (m_.cC.length:Int) m_.cC:=(dg ⟨rfl,rfl,trivial⟩).symm
@[reducible] noncomputable def Y_ (F:Nat):a5 aQ:=⟨[1,41,42,43],[.p (.B 0),.p (.l 128),.p (.i .i64),.p (.i .i64)],[.c 131 [.s,.b,.l 128,.i .i64,.s,.i .i64,.i .i64,.s,.l 157]],
  [⟨⟨.nm,[1],[.p (.B 0)],[.c 131 [.s,.b,.l 128,.i .i64,.s,.i .i64,.i .i64,.s,.l 157]]⟩,Unit,fun d _=>(((),()),((d.2.1.1,d.2.1.2.1,d.2.1.2.2.1,d.2.1.2.2.2.1,d.2.1.2.2.2.2.1,d.2.1.2.2.2.2.2.1,d.2.1.2.2.2.2.2.2.1,d.2.1.2.2.2.2.2.2.2.1,d.2.1.2.2.2.2.2.2.2.2.1,()),()))⟩,
   ⟨⟨.rt,[2],[.p (.i .i64)],[.d]⟩,Int,fun _ r=>((r,()),((),()))⟩],
  fun k d=>LU F k (⟨d.2.1.1,d.2.1.2.1,d.1.2.1,(⟨d.2.1.2.2.2.1,d.2.1.2.2.2.2.1⟩:I.Kind),d.2.1.2.2.2.2.2.1,d.2.1.2.2.2.2.2.2.1,d.2.1.2.2.2.2.2.2.2.1,d.2.1.2.2.2.2.2.2.2.2.1⟩:I.Method) d.1.2.2.2.1 d.1.2.2.1 d.2.1.2.2.1⟩
theorem ahv (F:Nat):(Y_ F).bU.bP ad (BA F).aM ((BA F).LE 142) (bR ad.P 142) 1 (bT ad.P 142 1):=a5.b5 (fun d=>df) fun k av aE q h=>by
 obtain ⟨_,(aw:List I.Kind),(v1:Int),(v2:Int),_⟩:=av
 obtain ⟨⟨(aV:List UInt8),(v4:Bool),(a6:List I.Kind),(v6:Int),(bk:List UInt8),(bn:Int),(br:Int),(v10:List UInt8),(v11:List I.Handler),_⟩,_⟩:=aE
 obtain ⟨aA,_⟩:=dI h
 dsimp only at aA
 obtain ⟨rfl,rfl,_⟩:=aA
 conv=>rhs;change Option.map (α:=Unit ⊕ Int) _ (LU F (k+ 1) (⟨aV,v4,aw,(⟨v6,bk⟩:I.Kind),bn,br,v10,v11⟩:I.Method) v2 (aw.length:Int) (aw));rw [<-PB F (k+ 1) (⟨aV,v4,aw,(⟨v6,bk⟩:I.Kind),bn,br,v10,v11⟩:I.Method) v2];simp only [td,a',PB];simp only [bY]
 kernel_rfl
noncomputable def BL (F:Nat):a2 ad:=(BA F).l 142 1 ((Y_ F).run ad F)
theorem arQ (ah:aZ ad) (F:Nat) (h:(BA F).ax):(BL F).ax:=h.b7 ah rfl (by kernel_rfl) (ahv F) F
noncomputable def GK (F:Nat) (k:Nat) (m_:I.Method) (jA:Int) (ao:Int):=c2 ((m_.cF.length:Int)=ao/\True) (a4 (nM F m_ k jA))
theorem Iy (F:Nat) (k:Nat) (m_:I.Method) (jA:Int):a4 (nM F m_ k jA)=GK F k (⟨[],false,[],(⟨0,[]⟩:I.Kind),0,0,[],m_.cF⟩:I.Method) jA (m_.cF.length:Int):=(show a4 (nM F m_ k jA)=a4 (nM F (⟨[],false,[],(⟨0,[]⟩:I.Kind),0,0,[],m_.cF⟩:I.Method) k jA) by kernel_rfl).trans (dg ⟨rfl,trivial⟩).symm
theorem as_ (F:Nat) (k:Nat) (m_:I.Method) (jA:Int):a4 (vV F m_ k jA)=GK F k (⟨[],false,[],(⟨0,[]⟩:I.Kind),0,0,[],m_.cF⟩:I.Method) jA (m_.cF.length:Int):=(show a4 (vV F m_ k jA)=a4 (nM F m_ k jA) by kernel_rfl).trans (Iy F k m_ jA)
@[reducible] noncomputable def Y' (F:Nat):a5 aQ:=⟨[62,63,64],[.p (.l 157),.p (.i .i64),.p (.i .i64)],[],
  [⟨⟨.nm,[],[],[]⟩,Unit,fun _ _=>((),())⟩,
   ⟨⟨.rt,[2],[.p (.i .i64)],[]⟩,Int,fun _ r=>((r,()),())⟩],
  fun k d=>GK F k (⟨[],false,[],(⟨0,[]⟩:I.Kind),0,0,[],d.1.1⟩:I.Method) d.1.2.2.1 d.1.2.1⟩
theorem ahw (F:Nat):(Y' F).bU.bP ad (BL F).aM ((BL F).LE 142) (bR ad.P 142) 3 (bT ad.P 142 3):=a5.b5 (fun d=>df) fun k av aE q h=>by
 obtain ⟨(aw:List I.Handler),(v1:Int),(v2:Int),_⟩:=av
 obtain ⟨aA,_⟩:=dI h
 dsimp only at aA
 obtain ⟨rfl,_⟩:=aA
 conv=>rhs;change Option.map (α:=Unit ⊕ Int) _ (GK F (k+ 1) (⟨[],false,[],(⟨0,[]⟩:I.Kind),0,0,[],aw⟩:I.Method) v2 (aw.length:Int));rw [<-Iy F (k+ 1) (⟨[],false,[],(⟨0,[]⟩:I.Kind),0,0,[],aw⟩:I.Method) v2];simp only [nM,a',Iy];simp only [bY]
 kernel_rfl
noncomputable def BW (F:Nat):a2 ad:=(BL F).l 142 3 ((Y' F).run ad F)
theorem ar1 (ah:aZ ad) (F:Nat) (h:(BL F).ax):(BW F).ax:=h.b7 ah rfl (by kernel_rfl) (ahw F) F
@[reducible] noncomputable def Xc (F:Nat):bS aQ:=⟨[.a [.s,.b,.l 128,.i .i64,.s,.i .i64,.i .i64,.s,.l 157]],[],[.p (.i .i64)],[],Int,fun d=>tc F (⟨d.1.1.1,d.1.1.2.1,d.1.1.2.2.1,(⟨d.1.1.2.2.2.1,d.1.1.2.2.2.2.1⟩:I.Kind),d.1.1.2.2.2.2.2.1,d.1.1.2.2.2.2.2.2.1,d.1.1.2.2.2.2.2.2.2.1,d.1.1.2.2.2.2.2.2.2.2.1⟩:I.Method),fun _ r=>((r,()),())⟩
theorem ahu (F:Nat):(Xc F).Eq ad (BW F).aM (BW F).LE 142 :=fun av aE=>by
 obtain ⟨⟨(aw:List UInt8),(v1:Bool),(v2:List I.Kind),(aV:Int),(v4:List UInt8),(a6:Int),(v6:Int),(bk:List UInt8),(bn:List I.Handler),_⟩,_⟩:=av
 conv=>rhs;change Option.map (α:=Int) _ (tc F (⟨aw,v1,v2,(⟨aV,v4⟩:I.Kind),a6,v6,bk,bn⟩:I.Method));simp only [tc,a',PB,Iy,as_]
 kernel_rfl
noncomputable def B8 (F:Nat):a2 ad:=(BW F).f 142 ((Xc F).run ad)
theorem asa (ah:aZ ad) (F:Nat) (h:(BW F).ax):(B8 F).ax:=h.rt ah rfl (by kernel_rfl) (ahu F)
noncomputable def GI (F:Nat) (k:Nat) (c_:I.ap) (k3:Int) (ao:Int) (dt:List I.Field):=c2 ((c_.Fields.length:Int)=ao/\(c_.Fields:List I.Field)=dt/\True) (a4 (qJ F c_ k k3))
theorem Iw (F:Nat) (k:Nat) (c_:I.ap) (k3:Int):a4 (qJ F c_ k k3)=GI F k c_ k3 (c_.Fields.length:Int) c_.Fields:=(dg ⟨rfl,rfl,trivial⟩).symm
theorem as8 (F:Nat) (k:Nat) (c_:I.ap) (k3:Int):a4 (vT F c_ k k3)=GI F k c_ k3 (c_.Fields.length:Int) c_.Fields:=(show a4 (vT F c_ k k3)=a4 (qJ F c_ k k3) by kernel_rfl).trans (Iw F k c_ k3)
@[reducible] noncomputable def Y8 (F:Nat):a5 aQ:=⟨[1,36,37,38],[.p (.B 0),.p (.l 136),.p (.i .i64),.p (.i .i64)],[.c 134 [.s,.s,.l 136,.l 131]],
  [⟨⟨.nm,[1],[.p (.B 0)],[.c 134 [.s,.s,.l 136,.l 131]]⟩,Unit,fun d _=>(((),()),((d.2.1.1,d.2.1.2.1,d.2.1.2.2.1,d.2.1.2.2.2.1,()),()))⟩,
   ⟨⟨.rt,[2],[.p (.i .i64)],[.d]⟩,Int,fun _ r=>((r,()),((),()))⟩],
  fun k d=>GI F k (⟨d.2.1.1,d.2.1.2.1,d.1.2.1,d.2.1.2.2.2.1⟩:I.ap) d.1.2.2.2.1 d.1.2.2.1 d.2.1.2.2.1⟩
theorem ahr (F:Nat):(Y8 F).bU.bP ad (B8 F).aM ((B8 F).LE 107) (bR ad.P 107) 1 (bT ad.P 107 1):=a5.b5 (fun d=>df) fun k av aE q h=>by
 obtain ⟨_,(aw:List I.Field),(v1:Int),(v2:Int),_⟩:=av
 obtain ⟨⟨(aV:List UInt8),(v4:List UInt8),(a6:List I.Field),(v6:List I.Method),_⟩,_⟩:=aE
 obtain ⟨aA,_⟩:=dI h
 dsimp only at aA
 obtain ⟨rfl,rfl,_⟩:=aA
 conv=>rhs;change Option.map (α:=Unit ⊕ Int) _ (GI F (k+ 1) (⟨aV,v4,aw,v6⟩:I.ap) v2 (aw.length:Int) (aw));rw [<-Iw F (k+ 1) (⟨aV,v4,aw,v6⟩:I.ap) v2];simp only [qJ,a',Iw];simp only [bY]
 kernel_rfl
noncomputable def Cj (F:Nat):a2 ad:=(B8 F).l 107 1 ((Y8 F).run ad F)
theorem asm (ah:aZ ad) (F:Nat) (h:(B8 F).ax):(Cj F).ax:=h.b7 ah rfl (by kernel_rfl) (ahr F) F
noncomputable def GJ (F:Nat) (k:Nat) (c_:I.ap) (jB:Int) (ao:Int):=c2 ((c_.bh.length:Int)=ao/\True) (a4 (nL F c_ k jB))
theorem Ix (F:Nat) (k:Nat) (c_:I.ap) (jB:Int):a4 (nL F c_ k jB)=GJ F k (⟨[],[],[],c_.bh⟩:I.ap) jB (c_.bh.length:Int):=(show a4 (nL F c_ k jB)=a4 (nL F (⟨[],[],[],c_.bh⟩:I.ap) k jB) by kernel_rfl).trans (dg ⟨rfl,trivial⟩).symm
theorem as9 (F:Nat) (k:Nat) (c_:I.ap) (jB:Int):a4 (vU F c_ k jB)=GJ F k (⟨[],[],[],c_.bh⟩:I.ap) jB (c_.bh.length:Int):=(show a4 (vU F c_ k jB)=a4 (nL F c_ k jB) by kernel_rfl).trans (Ix F k c_ jB)
@[reducible] noncomputable def Y9 (F:Nat):a5 aQ:=⟨[54,55,56],[.p (.l 131),.p (.i .i64),.p (.i .i64)],[],
  [⟨⟨.nm,[],[],[]⟩,Unit,fun _ _=>((),())⟩,
   ⟨⟨.rt,[2],[.p (.i .i64)],[]⟩,Int,fun _ r=>((r,()),())⟩],
  fun k d=>GJ F k (⟨[],[],[],d.1.1⟩:I.ap) d.1.2.2.1 d.1.2.1⟩
theorem ahs (F:Nat):(Y9 F).bU.bP ad (Cj F).aM ((Cj F).LE 107) (bR ad.P 107) 4 (bT ad.P 107 4):=a5.b5 (fun d=>df) fun k av aE q h=>by
 obtain ⟨(aw:List I.Method),(v1:Int),(v2:Int),_⟩:=av
 obtain ⟨aA,_⟩:=dI h
 dsimp only at aA
 obtain ⟨rfl,_⟩:=aA
 conv=>rhs;change Option.map (α:=Unit ⊕ Int) _ (GJ F (k+ 1) (⟨[],[],[],aw⟩:I.ap) v2 (aw.length:Int));rw [<-Ix F (k+ 1) (⟨[],[],[],aw⟩:I.ap) v2];simp only [nL,a',Ix];simp only [bY]
 kernel_rfl
noncomputable def za (F:Nat):a2 ad:=(Cj F).l 107 4 ((Y9 F).run ad F)
theorem api (ah:aZ ad) (F:Nat) (h:(Cj F).ax):(za F).ax:=h.b7 ah rfl (by kernel_rfl) (ahs F) F
@[reducible] noncomputable def Xa (F:Nat):bS aQ:=⟨[.a [.s,.s,.l 136,.l 131]],[],[.p (.i .i64)],[],Int,fun d=>x_ F (⟨d.1.1.1,d.1.1.2.1,d.1.1.2.2.1,d.1.1.2.2.2.1⟩:I.ap),fun _ r=>((r,()),())⟩
theorem ahq (F:Nat):(Xa F).Eq ad (za F).aM (za F).LE 107 :=fun av aE=>by
 obtain ⟨⟨(aw:List UInt8),(v1:List UInt8),(v2:List I.Field),(aV:List I.Method),_⟩,_⟩:=av
 conv=>rhs;change Option.map (α:=Int) _ (x_ F (⟨aw,v1,v2,aV⟩:I.ap));simp only [x_,a',Iw,as8,Ix,as9]
 kernel_rfl
noncomputable def zm (F:Nat):a2 ad:=(za F).f 107 ((Xa F).run ad)
theorem apt (ah:aZ ad) (F:Nat) (h:(za F).ax):(zm F).ax:=h.rt ah rfl (by kernel_rfl) (ahq F)
noncomputable def LR (F:Nat) (k:Nat) (bf:List I.ap) (tU:Int) (ao:Int):=c2 ((bf.length:Int)=ao/\True) (a4 (ta F bf k tU))
theorem Pz (F:Nat) (k:Nat) (bf:List I.ap) (tU:Int):a4 (ta F bf k tU)=LR F k bf tU (bf.length:Int):=(dg ⟨rfl,trivial⟩).symm
@[reducible] noncomputable def Y6 (F:Nat):a5 aQ:=⟨[9,10,11],[.p (.l 134),.p (.i .i64),.p (.i .i64)],[],
  [⟨⟨.nm,[],[],[]⟩,Unit,fun _ _=>((),())⟩,
   ⟨⟨.rt,[2],[.p (.i .i64)],[]⟩,Int,fun _ r=>((r,()),())⟩],
  fun k d=>LR F k d.1.1 d.1.2.2.1 d.1.2.1⟩
theorem ahn (F:Nat):(Y6 F).bU.bP ad (zm F).aM ((zm F).LE 74) (bR ad.P 74) 0 (bT ad.P 74 0):=a5.b5 (fun d=>df) fun k av aE q h=>by
 obtain ⟨(aw:List I.ap),(v1:Int),(v2:Int),_⟩:=av
 obtain ⟨aA,_⟩:=dI h
 dsimp only at aA
 obtain ⟨rfl,_⟩:=aA
 conv=>rhs;change Option.map (α:=Unit ⊕ Int) _ (LR F (k+ 1) aw v2 (aw.length:Int));rw [<-Pz F (k+ 1) aw v2];simp only [ta,a',Pz];simp only [bY]
 kernel_rfl
noncomputable def zx (F:Nat):a2 ad:=(zm F).l 74 0 ((Y6 F).run ad F)
theorem apE (ah:aZ ad) (F:Nat) (h:(zm F).ax):(zx F).ax:=h.b7 ah rfl (by kernel_rfl) (ahn F) F
@[reducible] noncomputable def W_ (F:Nat):bS aQ:=⟨[.p (.l 134)],[],[.p (.i .i64)],[],Int,fun d=>x8 F d.1.1,fun _ r=>((r,()),())⟩
theorem ahm (F:Nat):(W_ F).Eq ad (zx F).aM (zx F).LE 74 :=fun av aE=>by
 obtain ⟨(aw:List I.ap),_⟩:=av
 conv=>rhs;change Option.map (α:=Int) _ (x8 F aw);simp only [x8,a',Pz]
 kernel_rfl
noncomputable def zI (F:Nat):a2 ad:=(zx F).f 74 ((W_ F).run ad)
theorem apP (ah:aZ ad) (F:Nat) (h:(zx F).ax):(zI F).ax:=h.rt ah rfl (by kernel_rfl) (ahm F)
@[reducible] noncomputable def Zw (_:Nat):a5 aQ:=⟨[3,5,8,9,10,23,24,25],[.p (.R 0),.p (.B 1),.p (.l 134),.p (.i .i64),.p (.i .i64),.p (.R 3),.p (.i .i64),.p (.i .i64)],[.r 134 false,.c 134 [.s,.s,.R 2,.R 3],.r 136 true,.r 131 true],
  [⟨⟨.nm,[3,5,8,9,10],[.p (.R 0),.p (.B 1),.p (.l 134),.p (.i .i64),.p (.i .i64)],[.r 134 false,.c 134 [.s,.s,.R 2,.R 3],.r 136 true,.r 131 true]⟩,List I.Method,fun d r=>(((),(),d.1.2.2.1,d.1.2.2.2.1,d.1.2.2.2.2.1,()),(d.2.1,(d.2.2.1.1,d.2.2.1.2.1,(),(),()),d.2.2.2.1,r,()))⟩],
  fun k d=>nV k d.2.2.2.2.1 d.1.2.2.2.2.2.2.1 d.1.2.2.2.2.2.2.2.1⟩
theorem ah6 (F:Nat):(Zw F).bU.bP ad (zI F).aM ((zI F).LE 75) (bR ad.P 75) 2 (bT ad.P 75 2):=a5.b5 (fun d=>rfl) fun k av aE q h=>by
 obtain ⟨_,_,(aw:List I.ap),(v1:Int),(v2:Int),_,(aV:Int),(v4:Int),_⟩:=av
 obtain ⟨(a6:List I.ap),⟨(v6:List UInt8),(bk:List UInt8),_,_,_⟩,(bn:List I.Field),(br:List I.Method),_⟩:=aE
 conv=>rhs;change Option.map (α:=List I.Method) _ (nV (k+ 1) br aV v4);simp only [nV,a',QW,QX];simp only [bY]
 kernel_rfl
noncomputable def zT (F:Nat):a2 ad:=(zI F).l 75 2 ((Zw F).run ad F)
theorem ap0 (ah:aZ ad) (F:Nat) (h:(zI F).ax):(zT F).ax:=h.b7 ah rfl (by kernel_rfl) (ah6 F) F
noncomputable def Md (F:Nat) (k:Nat) (bf:List I.ap) (wh:List I.ap) (tS:Int) (ao:Int):=c2 ((bf.length:Int)=ao/\True) (nU F bf k wh tS)
theorem PW (F:Nat) (k:Nat) (bf:List I.ap) (wh:List I.ap) (tS:Int):nU F bf k wh tS=Md F k bf wh tS (bf.length:Int):=(dg ⟨rfl,trivial⟩).symm
@[reducible] noncomputable def Zv (F:Nat):a5 aQ:=⟨[3,8,9,10],[.p (.R 0),.p (.l 134),.p (.i .i64),.p (.i .i64)],[.r 134 false],
  [⟨⟨.nm,[3],[.p (.R 0)],[.r 134 false]⟩,List I.ap,fun _ r=>(((),()),(r,()))⟩],
  fun k d=>Md F k d.1.2.1 d.2.1 d.1.2.2.2.1 d.1.2.2.1⟩
theorem ah5 (F:Nat):(Zv F).bU.bP ad (zT F).aM ((zT F).LE 75) (bR ad.P 75) 0 (bT ad.P 75 0):=a5.b5 (fun d=>df) fun k av aE q h=>by
 obtain ⟨_,(aw:List I.ap),(v1:Int),(v2:Int),_⟩:=av
 obtain ⟨(aV:List I.ap),_⟩:=aE
 obtain ⟨aA,_⟩:=dI h
 dsimp only at aA
 obtain ⟨rfl,_⟩:=aA
 conv=>rhs;change Option.map (α:=List I.ap) _ (Md F (k+ 1) aw aV v2 (aw.length:Int));rw [<-PW F (k+ 1) aw aV v2];simp only [nU,a',PW,QV,QY];simp only [bY]
 kernel_rfl
noncomputable def z4 (F:Nat):a2 ad:=(zT F).l 75 0 ((Zv F).run ad F)
theorem ap' (ah:aZ ad) (F:Nat) (h:(zT F).ax):(z4 F).ax:=h.b7 ah rfl (by kernel_rfl) (ah5 F) F
@[reducible] noncomputable def Xt (F:Nat):bS aQ:=⟨[.p (.l 134)],[],[.p (.l 134)],[],List I.ap,fun d=>yi F d.1.1,fun _ r=>((r,()),())⟩
theorem ah4 (F:Nat):(Xt F).Eq ad (z4 F).aM (z4 F).LE 75 :=fun av aE=>by
 obtain ⟨(aw:List I.ap),_⟩:=av
 conv=>rhs;change Option.map (α:=List I.ap) _ (yi F aw);simp only [yi,a',PW]
 kernel_rfl
noncomputable def Ad (F:Nat):a2 ad:=(z4 F).f 75 ((Xt F).run ad)
theorem aqk (ah:aZ ad) (F:Nat) (h:(z4 F).ax):(Ad F).ax:=h.rt ah rfl (by kernel_rfl) (ah4 F)
noncomputable def L4 (k:Nat) (aT:I.bi) (lO:List ((List UInt8) × Int)) (n0:Int) (ao:Int) (a0:List I.ap):=c2 ((aT.l.length:Int)=ao/\(aT.l:List I.ap)=a0/\True) (a4 (lM aT k lO n0))
theorem PL (k:Nat) (aT:I.bi) (lO:List ((List UInt8) × Int)) (n0:Int):a4 (lM aT k lO n0)=L4 k (⟨aT.l,[],aT.c'⟩:I.bi) lO n0 (aT.l.length:Int) aT.l:=(show a4 (lM aT k lO n0)=a4 (lM (⟨aT.l,[],aT.c'⟩:I.bi) k lO n0) by kernel_rfl).trans (dg ⟨rfl,rfl,trivial⟩).symm
@[reducible] noncomputable def Zl (_:Nat):a5 aQ:=⟨[0,14,15,16],[.p (.B 0),.p (.l 134),.p (.i .i64),.p (.i .i64)],[.c 117 [.l 134,.M 1,.R 2],.m 9 3,.r 3 true],
  [⟨⟨.nm,[0],[.p (.B 0)],[.c 117 [.l 134,.M 1,.R 2],.m 9 3,.r 3 true]⟩,List ((List UInt8) × Int),fun d r=>(((),()),((d.2.1.1,(),(),()),r,d.2.2.2.1,()))⟩,
   ⟨⟨.rt,[2],[.p (.i .i64)],[.c 117 [.l 134,.M 1,.R 2],.m 9 3,.r 3 true]⟩,Int × I.bi,fun d r=>((r.1,()),((d.2.1.1,(),(),()),r.2.b8,d.2.2.2.1,()))⟩],
  fun k d=>L4 k (⟨d.1.2.1,[],d.2.2.2.1⟩:I.bi) d.2.2.1 d.1.2.2.2.1 d.1.2.2.1 d.2.1.1⟩
theorem ahR (F:Nat):(Zl F).bU.bP ad (Ad F).aM ((Ad F).LE 76) (bR ad.P 76) 0 (bT ad.P 76 0):=a5.b5 (fun d=>df) fun k av aE q h=>by
 obtain ⟨_,(aw:List I.ap),(v1:Int),(v2:Int),_⟩:=av
 obtain ⟨⟨(aV:List I.ap),_,_,_⟩,(v4:List ((List UInt8) × Int)),(a6:List Int),_⟩:=aE
 obtain ⟨aA,_⟩:=dI h
 dsimp only at aA
 obtain ⟨rfl,rfl,_⟩:=aA
 conv=>rhs;change Option.map (α:=(List ((List UInt8) × Int)) ⊕ (Int × I.bi)) _ (L4 (k+ 1) (⟨aw,[],a6⟩:I.bi) v4 v2 (aw.length:Int) (aw));rw [<-PL (k+ 1) (⟨aw,[],a6⟩:I.bi) v4 v2];simp only [lM,a',PL];simp only [bY]
 kernel_rfl
noncomputable def Ap (F:Nat):a2 ad:=(Ad F).l 76 0 ((Zl F).run ad F)
theorem aqv (ah:aZ ad) (F:Nat) (h:(Ad F).ax):(Ap F).ax:=h.b7 ah rfl (by kernel_rfl) (ahR F) F
@[reducible] noncomputable def Xo (F:Nat):bS aQ:=⟨[.p (.B 0)],[.c 117 [.l 134,.M 1,.R 2],.m 9 3,.r 3 true],[.p (.i .i64)],[.c 117 [.l 134,.M 1,.R 2],.m 9 3,.r 3 true],Int × I.bi,fun d=>wi F (⟨d.2.1.1,d.2.2.1,d.2.2.2.1⟩:I.bi),fun d r=>((r.1,()),((d.2.1.1,(),(),()),r.2.b8,d.2.2.2.1,()))⟩
theorem ahQ (F:Nat):(Xo F).Eq ad (Ap F).aM (Ap F).LE 76 :=fun av aE=>by
 obtain ⟨_,_⟩:=av
 obtain ⟨⟨(aw:List I.ap),_,_,_⟩,(v1:List ((List UInt8) × Int)),(v2:List Int),_⟩:=aE
 conv=>rhs;change Option.map (α:=Int × I.bi) _ (wi F (⟨aw,v1,v2⟩:I.bi));simp only [wi,a',PL]
 kernel_rfl
noncomputable def AA (F:Nat):a2 ad:=(Ap F).f 76 ((Xo F).run ad)
theorem aqG (ah:aZ ad) (F:Nat) (h:(Ap F).ax):(AA F).ax:=h.rt ah rfl (by kernel_rfl) (ahQ F)
noncomputable def LW (k:Nat) (aT:I.bi) (tT:Int) (ao:Int) (a0:List I.ap):=c2 ((aT.l.length:Int)=ao/\(aT.l:List I.ap)=a0/\True) (a4 (q5 aT k tT))
theorem PD (k:Nat) (aT:I.bi) (tT:Int):a4 (q5 aT k tT)=LW k aT tT (aT.l.length:Int) aT.l:=(dg ⟨rfl,rfl,trivial⟩).symm
@[reducible] noncomputable def Zb (_:Nat):a5 aQ:=⟨[0,14,15,16],[.p (.B 0),.p (.l 134),.p (.i .i64),.p (.i .i64)],[.c 117 [.l 134,.M 1,.R 2],.m 9 3,.r 3 true],
  [⟨⟨.nm,[0],[.p (.B 0)],[.c 117 [.l 134,.M 1,.R 2],.m 9 3,.r 3 true]⟩,Unit,fun d _=>(((),()),((d.2.1.1,(),(),()),d.2.2.1,d.2.2.2.1,()))⟩,
   ⟨⟨.rt,[2],[.p (.i .i64)],[.c 117 [.l 134,.M 1,.R 2],.m 9 3,.r 3 true]⟩,Int × I.bi,fun d r=>((r.1,()),((d.2.1.1,(),(),()),d.2.2.1,r.2.c',()))⟩],
  fun k d=>LW k (⟨d.1.2.1,d.2.2.1,d.2.2.2.1⟩:I.bi) d.1.2.2.2.1 d.1.2.2.1 d.2.1.1⟩
theorem ahE (F:Nat):(Zb F).bU.bP ad (AA F).aM ((AA F).LE 77) (bR ad.P 77) 0 (bT ad.P 77 0):=a5.b5 (fun d=>df) fun k av aE q h=>by
 obtain ⟨_,(aw:List I.ap),(v1:Int),(v2:Int),_⟩:=av
 obtain ⟨⟨(aV:List I.ap),_,_,_⟩,(v4:List ((List UInt8) × Int)),(a6:List Int),_⟩:=aE
 obtain ⟨aA,_⟩:=dI h
 dsimp only at aA
 obtain ⟨rfl,rfl,_⟩:=aA
 conv=>rhs;change Option.map (α:=Unit ⊕ (Int × I.bi)) _ (LW (k+ 1) (⟨aw,v4,a6⟩:I.bi) v2 (aw.length:Int) (aw));rw [<-PD (k+ 1) (⟨aw,v4,a6⟩:I.bi) v2];simp only [q5,a',PD];simp only [bY]
 kernel_rfl
noncomputable def AL (F:Nat):a2 ad:=(AA F).l 77 0 ((Zb F).run ad F)
theorem aqR (ah:aZ ad) (F:Nat) (h:(AA F).ax):(AL F).ax:=h.b7 ah rfl (by kernel_rfl) (ahE F) F
noncomputable def LX (k:Nat) (aT:I.bi) (o_:List Int) (pi:Int) (ao:Int) (a0:List I.ap):=c2 ((aT.l.length:Int)=ao/\(aT.l:List I.ap)=a0/\True) (a4 (ka aT k o_ pi))
theorem PE (k:Nat) (aT:I.bi) (o_:List Int) (pi:Int):a4 (ka aT k o_ pi)=LX k (⟨aT.l,aT.b8,[]⟩:I.bi) o_ pi (aT.l.length:Int) aT.l:=(show a4 (ka aT k o_ pi)=a4 (ka (⟨aT.l,aT.b8,[]⟩:I.bi) k o_ pi) by kernel_rfl).trans (dg ⟨rfl,rfl,trivial⟩).symm
@[reducible] noncomputable def Zc (_:Nat):a5 aQ:=⟨[0,31,32,33],[.p (.B 0),.p (.l 134),.p (.i .i64),.p (.i .i64)],[.c 117 [.l 134,.M 1,.R 2],.m 9 3,.r 3 false],
  [⟨⟨.nm,[0],[.p (.B 0)],[.c 117 [.l 134,.M 1,.R 2],.m 9 3,.r 3 false]⟩,List Int,fun d r=>(((),()),((d.2.1.1,(),(),()),d.2.2.1,r,()))⟩,
   ⟨⟨.rt,[2],[.p (.i .i64)],[.c 117 [.l 134,.M 1,.R 2],.m 9 3,.r 3 false]⟩,Int × I.bi,fun d r=>((r.1,()),((d.2.1.1,(),(),()),d.2.2.1,r.2.c',()))⟩],
  fun k d=>LX k (⟨d.1.2.1,d.2.2.1,[]⟩:I.bi) d.2.2.2.1 d.1.2.2.2.1 d.1.2.2.1 d.2.1.1⟩
theorem ahF (F:Nat):(Zc F).bU.bP ad (AL F).aM ((AL F).LE 77) (bR ad.P 77) 2 (bT ad.P 77 2):=a5.b5 (fun d=>df) fun k av aE q h=>by
 obtain ⟨_,(aw:List I.ap),(v1:Int),(v2:Int),_⟩:=av
 obtain ⟨⟨(aV:List I.ap),_,_,_⟩,(v4:List ((List UInt8) × Int)),(a6:List Int),_⟩:=aE
 obtain ⟨aA,_⟩:=dI h
 dsimp only at aA
 obtain ⟨rfl,rfl,_⟩:=aA
 conv=>rhs;change Option.map (α:=(List Int) ⊕ (Int × I.bi)) _ (LX (k+ 1) (⟨aw,v4,[]⟩:I.bi) a6 v2 (aw.length:Int) (aw));rw [<-PE (k+ 1) (⟨aw,v4,[]⟩:I.bi) a6 v2];simp only [ka,a',PE];simp only [bY]
 kernel_rfl
noncomputable def AZ (F:Nat):a2 ad:=(AL F).l 77 2 ((Zc F).run ad F)
theorem aq3 (ah:aZ ad) (F:Nat) (h:(AL F).ax):(AZ F).ax:=h.b7 ah rfl (by kernel_rfl) (ahF F) F
noncomputable def LZ (k:Nat) (aT:I.bi) (gY:List Int) (rb:Int) (rc:Int) (ao:Int) (a0:Int):=c2 ((aT.l.length:Int)=ao/\(aT.l.length:Int)=a0/\True) (pa aT gY k rb rc)
theorem PG (k:Nat) (aT:I.bi) (gY:List Int) (rb:Int) (rc:Int):pa aT gY k rb rc=LZ k (⟨aT.l,aT.b8,[]⟩:I.bi) gY rb rc (aT.l.length:Int) (aT.l.length:Int):=(show pa aT gY k rb rc=pa (⟨aT.l,aT.b8,[]⟩:I.bi) gY k rb rc by kernel_rfl).trans (dg ⟨rfl,rfl,trivial⟩).symm
@[reducible] noncomputable def Zf (_:Nat):a5 aQ:=⟨[0,10,69,70,78,79],[.p (.B 0),.p (.i .i64),.p (.i .i64),.p (.i .i64),.p (.i .i64),.p (.i .i64)],[.c 117 [.l 134,.M 1,.R 2],.m 9 3,.r 3 true],
  [⟨⟨.nm,[0,10,69,70],[.p (.B 0),.p (.i .i64),.p (.i .i64),.p (.i .i64)],[.c 117 [.l 134,.M 1,.R 2],.m 9 3,.r 3 true]⟩,Int,fun d r=>(((),r,d.1.2.2.1,d.1.2.2.2.1,()),((d.2.1.1,(),(),()),d.2.2.1,d.2.2.2.1,()))⟩],
  fun k d=>LZ k (⟨d.2.1.1,d.2.2.1,[]⟩:I.bi) d.2.2.2.1 d.1.2.1 d.1.2.2.2.2.2.1 d.1.2.2.1 d.1.2.2.2.2.1⟩
theorem ahH (F:Nat):(Zf F).bU.bP ad (AZ F).aM ((AZ F).LE 77) (bR ad.P 77) 7 (bT ad.P 77 7):=a5.b5 (fun d=>df) fun k av aE q h=>by
 obtain ⟨_,(aw:Int),(v1:Int),(v2:Int),(aV:Int),(v4:Int),_⟩:=av
 obtain ⟨⟨(a6:List I.ap),_,_,_⟩,(v6:List ((List UInt8) × Int)),(bk:List Int),_⟩:=aE
 obtain ⟨aA,_⟩:=dI h
 dsimp only at aA
 obtain ⟨rfl,rfl,_⟩:=aA
 conv=>rhs;change Option.map (α:=Int) _ (LZ (k+ 1) (⟨a6,v6,[]⟩:I.bi) bk aw v4 (a6.length:Int) (a6.length:Int));rw [<-PG (k+ 1) (⟨a6,v6,[]⟩:I.bi) bk aw v4];simp only [pa,a',PG];simp only [bY]
 kernel_rfl
noncomputable def A6 (F:Nat):a2 ad:=(AZ F).l 77 7 ((Zf F).run ad F)
theorem aq_ (ah:aZ ad) (F:Nat) (h:(AZ F).ax):(A6 F).ax:=h.b7 ah rfl (by kernel_rfl) (ahH F) F
noncomputable def LY (F:Nat) (k:Nat) (aT:I.bi) (gY:List Int) (pf:Int) (dn:Int):=c2 ((aT.l.length:Int)=dn/\True) (a4 (nP F aT gY k pf))
theorem PF (F:Nat) (k:Nat) (aT:I.bi) (gY:List Int) (pf:Int):a4 (nP F aT gY k pf)=LY F k (⟨aT.l,aT.b8,[]⟩:I.bi) gY pf (aT.l.length:Int):=(show a4 (nP F aT gY k pf)=a4 (nP F (⟨aT.l,aT.b8,[]⟩:I.bi) gY k pf) by kernel_rfl).trans (dg ⟨rfl,trivial⟩).symm
@[reducible] noncomputable def Zd (F:Nat):a5 aQ:=⟨[0,69,70],[.p (.B 0),.p (.i .i64),.p (.i .i64)],[.c 117 [.l 134,.M 1,.R 2],.m 9 3,.r 3 true],
  [⟨⟨.nm,[],[],[.c 117 [.l 134,.M 1,.R 2],.m 9 3,.r 3 true]⟩,Unit,fun d _=>((),((d.2.1.1,(),(),()),d.2.2.1,d.2.2.2.1,()))⟩,
   ⟨⟨.rt,[2],[.p (.i .i64)],[.c 117 [.l 134,.M 1,.R 2],.m 9 3,.r 3 true]⟩,Int × I.bi,fun d r=>((r.1,()),((d.2.1.1,(),(),()),d.2.2.1,r.2.c',()))⟩],
  fun k d=>LY F k (⟨d.2.1.1,d.2.2.1,[]⟩:I.bi) d.2.2.2.1 d.1.2.2.1 d.1.2.1⟩
theorem ahG (F:Nat):(Zd F).bU.bP ad (A6 F).aM ((A6 F).LE 77) (bR ad.P 77) 5 (bT ad.P 77 5):=a5.b5 (fun d=>df) fun k av aE q h=>by
 obtain ⟨_,(aw:Int),(v1:Int),_⟩:=av
 obtain ⟨⟨(v2:List I.ap),_,_,_⟩,(aV:List ((List UInt8) × Int)),(v4:List Int),_⟩:=aE
 obtain ⟨aA,_⟩:=dI h
 dsimp only at aA
 obtain ⟨rfl,_⟩:=aA
 conv=>rhs;change Option.map (α:=Unit ⊕ (Int × I.bi)) _ (LY F (k+ 1) (⟨v2,aV,[]⟩:I.bi) v4 v1 (v2.length:Int));rw [<-PF F (k+ 1) (⟨v2,aV,[]⟩:I.bi) v4 v1];simp only [nP,a',PG,PF];simp only [bY]
 kernel_rfl
noncomputable def A7 (F:Nat):a2 ad:=(A6 F).l 77 5 ((Zd F).run ad F)
theorem aq' (ah:aZ ad) (F:Nat) (h:(A6 F).ax):(A7 F).ax:=h.b7 ah rfl (by kernel_rfl) (ahG F) F
@[reducible] noncomputable def Xj (F:Nat):bS aQ:=⟨[.p (.B 0)],[.c 117 [.l 134,.M 1,.R 2],.m 9 3,.r 3 false],[.p (.i .i64)],[.c 117 [.l 134,.M 1,.R 2],.m 9 3,.r 3 false],Int × I.bi,fun d=>D' F (⟨d.2.1.1,d.2.2.1,d.2.2.2.1⟩:I.bi),fun d r=>((r.1,()),((d.2.1.1,(),(),()),d.2.2.1,r.2.c',()))⟩
theorem ahD (F:Nat):(Xj F).Eq ad (A7 F).aM (A7 F).LE 77 :=fun av aE=>by
 obtain ⟨_,_⟩:=av
 obtain ⟨⟨(aw:List I.ap),_,_,_⟩,(v1:List ((List UInt8) × Int)),(v2:List Int),_⟩:=aE
 conv=>rhs;change Option.map (α:=Int × I.bi) _ (D' F (⟨aw,v1,v2⟩:I.bi));simp only [D',a',PD,PE,PF]
 kernel_rfl
noncomputable def A8 (F:Nat):a2 ad:=(A7 F).f 77 ((Xj F).run ad)
theorem ara (ah:aZ ad) (F:Nat) (h:(A7 F).ax):(A8 F).ax:=h.rt ah rfl (by kernel_rfl) (ahD F)
@[reducible] noncomputable def Xl (F:Nat):bS aQ:=⟨[.p (.B 0)],[.c 117 [.l 134,.M 1,.l 3],.m 9 3],[.p (.i .i64)],[.c 117 [.l 134,.M 1,.l 3],.m 9 3],Int,fun d=>Ea F (⟨d.2.1.1,d.2.2.1,d.2.1.2.2.1⟩:I.bi),fun d r=>((r,()),((d.2.1.1,(),d.2.1.2.2.1,()),d.2.2.1,()))⟩
theorem ahK (F:Nat):(Xl F).Eq ad (A8 F).aM (A8 F).LE 78 :=fun av aE=>by
 obtain ⟨_,_⟩:=av
 obtain ⟨⟨(aw:List I.ap),_,(v1:List Int),_⟩,(v2:List ((List UInt8) × Int)),_⟩:=aE
 conv=>rhs;change Option.map (α:=Int) _ (Ea F (⟨aw,v2,v1⟩:I.bi));simp only [Ea,a']
 kernel_rfl
noncomputable def A9 (F:Nat):a2 ad:=(A8 F).f 78 ((Xl F).run ad)
theorem arb (ah:aZ ad) (F:Nat) (h:(A8 F).ax):(A9 F).ax:=h.rt ah rfl (by kernel_rfl) (ahK F)
@[reducible] noncomputable def Xs (_:Nat):bS aQ:=⟨[.a [.i .i64,.s],.p (.B 0)],[.c 120 [.R 1],.r 9 false],[],[.c 120 [.R 1],.r 9 false],List (List UInt8),fun d=>tx (⟨d.1.1.1,d.1.1.2.1⟩:I.Kind) d.2.2.1,fun _ r=>((),(((),()),r,()))⟩
theorem ahX (F:Nat):(Xs F).Eq ad (A9 F).aM (A9 F).LE 112 :=fun av aE=>by
 obtain ⟨⟨(aw:Int),(v1:List UInt8),_⟩,_,_⟩:=av
 obtain ⟨⟨_,_⟩,(v2:List (List UInt8)),_⟩:=aE
 conv=>rhs;change Option.map (α:=List (List UInt8)) _ (tx (⟨aw,v1⟩:I.Kind) v2);simp only [tx,a']
 kernel_rfl
noncomputable def A_ (F:Nat):a2 ad:=(A9 F).f 112 ((Xs F).run ad)
theorem arc (ah:aZ ad) (F:Nat) (h:(A9 F).ax):(A_ F).ax:=h.rt ah rfl (by kernel_rfl) (ahX F)
noncomputable def L9 (k:Nat) (fy:I.ap) (wc:List (List UInt8)) (tO:Int) (ch:Int) (aeD:List I.Field):=c2 ((fy.Fields.length:Int)=ch/\(fy.Fields:List I.Field)=aeD/\True) (q8 fy k wc tO)
theorem PR (k:Nat) (fy:I.ap) (wc:List (List UInt8)) (tO:Int):q8 fy k wc tO=L9 k fy wc tO (fy.Fields.length:Int) fy.Fields:=(dg ⟨rfl,rfl,trivial⟩).symm
@[reducible] noncomputable def Zq (_:Nat):a5 aQ:=⟨[0,3,4,6,23,24,25,30,31,32],[.p (.B 0),.p (.B 2),.f 112 [.B 2],.p (.B 4),.p (.l 134),.p (.i .i64),.p (.i .i64),.p (.l 136),.p (.i .i64),.p (.i .i64)],[.c 117 [.l 134,.M 1,.l 3],.m 9 3,.c 120 [.R 3],.r 9 false,.c 134 [.s,.s,.l 136,.l 131]],
  [⟨⟨.nm,[0,3,4,6,23,24,25],[.p (.B 0),.p (.B 2),.f 112 [.B 2],.p (.B 4),.p (.l 134),.p (.i .i64),.p (.i .i64)],[.c 117 [.l 134,.M 1,.l 3],.m 9 3,.c 120 [.R 3],.r 9 false,.c 134 [.s,.s,.l 136,.l 131]]⟩,List (List UInt8),fun d r=>(((),(),((),()),(),d.1.2.2.2.2.1,d.1.2.2.2.2.2.1,d.1.2.2.2.2.2.2.1,()),((d.2.1.1,(),d.2.1.2.2.1,()),d.2.2.1,((),()),r,(d.2.2.2.2.2.1.1,d.2.2.2.2.2.1.2.1,d.2.2.2.2.2.1.2.2.1,d.2.2.2.2.2.1.2.2.2.1,()),()))⟩],
  fun k d=>L9 k (⟨d.2.2.2.2.2.1.1,d.2.2.2.2.2.1.2.1,d.1.2.2.2.2.2.2.2.1,d.2.2.2.2.2.1.2.2.2.1⟩:I.ap) d.2.2.2.2.1 d.1.2.2.2.2.2.2.2.2.2.1 d.1.2.2.2.2.2.2.2.2.1 d.2.2.2.2.2.1.2.2.1⟩
theorem ahZ (F:Nat):(Zq F).bU.bP ad (A_ F).aM ((A_ F).LE 79) (bR ad.P 79) 2 (bT ad.P 79 2):=a5.b5 (fun d=>df) fun k av aE q h=>by
 obtain ⟨_,_,⟨_,_⟩,_,(aw:List I.ap),(v1:Int),(v2:Int),(aV:List I.Field),(v4:Int),(a6:Int),_⟩:=av
 obtain ⟨⟨(v6:List I.ap),_,(bk:List Int),_⟩,(bn:List ((List UInt8) × Int)),⟨_,_⟩,(br:List (List UInt8)),⟨(v10:List UInt8),(v11:List UInt8),(bV:List I.Field),(b9:List I.Method),_⟩,_⟩:=aE
 obtain ⟨aA,_⟩:=dI h
 dsimp only at aA
 obtain ⟨rfl,rfl,_⟩:=aA
 conv=>rhs;change Option.map (α:=List (List UInt8)) _ (L9 (k+ 1) (⟨v10,v11,aV,b9⟩:I.ap) br a6 (aV.length:Int) (aV));rw [<-PR (k+ 1) (⟨v10,v11,aV,b9⟩:I.ap) br a6];simp only [q8,a',PR];simp only [bY]
 kernel_rfl
noncomputable def A' (F:Nat):a2 ad:=(A_ F).l 79 2 ((Zq F).run ad F)
theorem ard (ah:aZ ad) (F:Nat) (h:(A_ F).ax):(A' F).ax:=h.b7 ah rfl (by kernel_rfl) (ahZ F) F
noncomputable def Ma (k:Nat) (fm:I.Method) (wg:List (List UInt8)) (tP:Int) (jY:Int) (aeP:List I.Kind):=c2 ((fm.cC.length:Int)=jY/\(fm.cC:List I.Kind)=aeP/\True) (q9 fm k wg tP)
theorem PT (k:Nat) (fm:I.Method) (wg:List (List UInt8)) (tP:Int):q9 fm k wg tP=Ma k fm wg tP (fm.cC.length:Int) fm.cC:=(dg ⟨rfl,rfl,trivial⟩).symm
@[reducible] noncomputable def Zs (_:Nat):a5 aQ:=⟨[0,3,4,10,23,24,25,42,43,44,49,50,51],[.p (.B 0),.p (.B 2),.f 112 [.B 2],.p (.B 4),.p (.l 134),.p (.i .i64),.p (.i .i64),.p (.l 131),.p (.i .i64),.p (.i .i64),.p (.l 128),.p (.i .i64),.p (.i .i64)],[.c 117 [.l 134,.M 1,.l 3],.m 9 3,.c 120 [.R 3],.r 9 false,.c 131 [.s,.b,.l 128,.i .i64,.s,.i .i64,.i .i64,.s,.l 157]],
  [⟨⟨.nm,[0,3,4,10,23,24,25,42,43,44],[.p (.B 0),.p (.B 2),.f 112 [.B 2],.p (.B 4),.p (.l 134),.p (.i .i64),.p (.i .i64),.p (.l 131),.p (.i .i64),.p (.i .i64)],[.c 117 [.l 134,.M 1,.l 3],.m 9 3,.c 120 [.R 3],.r 9 false,.c 131 [.s,.b,.l 128,.i .i64,.s,.i .i64,.i .i64,.s,.l 157]]⟩,List (List UInt8),fun d r=>(((),(),((),()),(),d.1.2.2.2.2.1,d.1.2.2.2.2.2.1,d.1.2.2.2.2.2.2.1,d.1.2.2.2.2.2.2.2.1,d.1.2.2.2.2.2.2.2.2.1,d.1.2.2.2.2.2.2.2.2.2.1,()),((d.2.1.1,(),d.2.1.2.2.1,()),d.2.2.1,((),()),r,(d.2.2.2.2.2.1.1,d.2.2.2.2.2.1.2.1,d.2.2.2.2.2.1.2.2.1,d.2.2.2.2.2.1.2.2.2.1,d.2.2.2.2.2.1.2.2.2.2.1,d.2.2.2.2.2.1.2.2.2.2.2.1,d.2.2.2.2.2.1.2.2.2.2.2.2.1,d.2.2.2.2.2.1.2.2.2.2.2.2.2.1,d.2.2.2.2.2.1.2.2.2.2.2.2.2.2.1,()),()))⟩],
  fun k d=>Ma k (⟨d.2.2.2.2.2.1.1,d.2.2.2.2.2.1.2.1,d.1.2.2.2.2.2.2.2.2.2.2.1,(⟨d.2.2.2.2.2.1.2.2.2.1,d.2.2.2.2.2.1.2.2.2.2.1⟩:I.Kind),d.2.2.2.2.2.1.2.2.2.2.2.1,d.2.2.2.2.2.1.2.2.2.2.2.2.1,d.2.2.2.2.2.1.2.2.2.2.2.2.2.1,d.2.2.2.2.2.1.2.2.2.2.2.2.2.2.1⟩:I.Method) d.2.2.2.2.1 d.1.2.2.2.2.2.2.2.2.2.2.2.2.1 d.1.2.2.2.2.2.2.2.2.2.2.2.1 d.2.2.2.2.2.1.2.2.1⟩
theorem ah1 (F:Nat):(Zs F).bU.bP ad (A' F).aM ((A' F).LE 79) (bR ad.P 79) 6 (bT ad.P 79 6):=a5.b5 (fun d=>df) fun k av aE q h=>by
 obtain ⟨_,_,⟨_,_⟩,_,(aw:List I.ap),(v1:Int),(v2:Int),(aV:List I.Method),(v4:Int),(a6:Int),(v6:List I.Kind),(bk:Int),(bn:Int),_⟩:=av
 obtain ⟨⟨(br:List I.ap),_,(v10:List Int),_⟩,(v11:List ((List UInt8) × Int)),⟨_,_⟩,(bV:List (List UInt8)),⟨(b9:List UInt8),(cl:Bool),(c4:List I.Kind),(eG:Int),(e9:List UInt8),(im:Int),(uA:Int),(v20:List UInt8),(wW:List I.Handler),_⟩,_⟩:=aE
 obtain ⟨aA,_⟩:=dI h
 dsimp only at aA
 obtain ⟨rfl,rfl,_⟩:=aA
 conv=>rhs;change Option.map (α:=List (List UInt8)) _ (Ma (k+ 1) (⟨b9,cl,v6,(⟨eG,e9⟩:I.Kind),im,uA,v20,wW⟩:I.Method) bV bn (v6.length:Int) (v6));rw [<-PT (k+ 1) (⟨b9,cl,v6,(⟨eG,e9⟩:I.Kind),im,uA,v20,wW⟩:I.Method) bV bn];simp only [q9,a',PT];simp only [bY]
 kernel_rfl
noncomputable def Ba (F:Nat):a2 ad:=(A' F).l 79 6 ((Zs F).run ad F)
theorem arf (ah:aZ ad) (F:Nat) (h:(A' F).ax):(Ba F).ax:=h.b7 ah rfl (by kernel_rfl) (ah1 F) F
noncomputable def Mb (k:Nat) (fm:I.Method) (qV:List (List UInt8)) (pq:Int) (jY:Int):=c2 ((fm.cF.length:Int)=jY/\True) (nT fm k qV pq)
theorem PU (k:Nat) (fm:I.Method) (qV:List (List UInt8)) (pq:Int):nT fm k qV pq=Mb k (⟨[],false,[],(⟨0,[]⟩:I.Kind),0,0,[],fm.cF⟩:I.Method) qV pq (fm.cF.length:Int):=(show nT fm k qV pq=nT (⟨[],false,[],(⟨0,[]⟩:I.Kind),0,0,[],fm.cF⟩:I.Method) k qV pq by kernel_rfl).trans (dg ⟨rfl,trivial⟩).symm
@[reducible] noncomputable def Zt (_:Nat):a5 aQ:=⟨[0,3,4,23,24,25,42,43,44,64,65,66],[.p (.B 0),.p (.B 2),.f 112 [.B 2],.p (.l 134),.p (.i .i64),.p (.i .i64),.p (.l 131),.p (.i .i64),.p (.i .i64),.p (.l 157),.p (.i .i64),.p (.i .i64)],[.c 117 [.l 134,.M 1,.l 3],.m 9 3,.c 120 [.R 3],.r 9 false],
  [⟨⟨.nm,[0,3,4,23,24,25,42,43,44],[.p (.B 0),.p (.B 2),.f 112 [.B 2],.p (.l 134),.p (.i .i64),.p (.i .i64),.p (.l 131),.p (.i .i64),.p (.i .i64)],[.c 117 [.l 134,.M 1,.l 3],.m 9 3,.c 120 [.R 3],.r 9 false]⟩,List (List UInt8),fun d r=>(((),(),((),()),d.1.2.2.2.1,d.1.2.2.2.2.1,d.1.2.2.2.2.2.1,d.1.2.2.2.2.2.2.1,d.1.2.2.2.2.2.2.2.1,d.1.2.2.2.2.2.2.2.2.1,()),((d.2.1.1,(),d.2.1.2.2.1,()),d.2.2.1,((),()),r,()))⟩],
  fun k d=>Mb k (⟨[],false,[],(⟨0,[]⟩:I.Kind),0,0,[],d.1.2.2.2.2.2.2.2.2.2.1⟩:I.Method) d.2.2.2.2.1 d.1.2.2.2.2.2.2.2.2.2.2.2.1 d.1.2.2.2.2.2.2.2.2.2.2.1⟩
theorem ah2 (F:Nat):(Zt F).bU.bP ad (Ba F).aM ((Ba F).LE 79) (bR ad.P 79) 8 (bT ad.P 79 8):=a5.b5 (fun d=>df) fun k av aE q h=>by
 obtain ⟨_,_,⟨_,_⟩,(aw:List I.ap),(v1:Int),(v2:Int),(aV:List I.Method),(v4:Int),(a6:Int),(v6:List I.Handler),(bk:Int),(bn:Int),_⟩:=av
 obtain ⟨⟨(br:List I.ap),_,(v10:List Int),_⟩,(v11:List ((List UInt8) × Int)),⟨_,_⟩,(bV:List (List UInt8)),_⟩:=aE
 obtain ⟨aA,_⟩:=dI h
 dsimp only at aA
 obtain ⟨rfl,_⟩:=aA
 conv=>rhs;change Option.map (α:=List (List UInt8)) _ (Mb (k+ 1) (⟨[],false,[],(⟨0,[]⟩:I.Kind),0,0,[],v6⟩:I.Method) bV bn (v6.length:Int));rw [<-PU (k+ 1) (⟨[],false,[],(⟨0,[]⟩:I.Kind),0,0,[],v6⟩:I.Method) bV bn];simp only [nT,a',PU];simp only [bY]
 kernel_rfl
noncomputable def Bb (F:Nat):a2 ad:=(Ba F).l 79 8 ((Zt F).run ad F)
theorem arh (ah:aZ ad) (F:Nat) (h:(Ba F).ax):(Bb F).ax:=h.b7 ah rfl (by kernel_rfl) (ah2 F) F
noncomputable def L_ (F:Nat) (k:Nat) (fy:I.ap) (qU:List (List UInt8)) (pn:Int) (ch:Int):=c2 ((fy.bh.length:Int)=ch/\True) (nS F fy k qU pn)
theorem PS (F:Nat) (k:Nat) (fy:I.ap) (qU:List (List UInt8)) (pn:Int):nS F fy k qU pn=L_ F k (⟨[],[],[],fy.bh⟩:I.ap) qU pn (fy.bh.length:Int):=(show nS F fy k qU pn=nS F (⟨[],[],[],fy.bh⟩:I.ap) k qU pn by kernel_rfl).trans (dg ⟨rfl,trivial⟩).symm
@[reducible] noncomputable def Zr (F:Nat):a5 aQ:=⟨[0,3,4,23,24,25,42,43,44],[.p (.B 0),.p (.B 2),.f 112 [.B 2],.p (.l 134),.p (.i .i64),.p (.i .i64),.p (.l 131),.p (.i .i64),.p (.i .i64)],[.c 117 [.l 134,.M 1,.l 3],.m 9 3,.c 120 [.R 3],.r 9 false],
  [⟨⟨.nm,[0,3,4,23,24,25],[.p (.B 0),.p (.B 2),.f 112 [.B 2],.p (.l 134),.p (.i .i64),.p (.i .i64)],[.c 117 [.l 134,.M 1,.l 3],.m 9 3,.c 120 [.R 3],.r 9 false]⟩,List (List UInt8),fun d r=>(((),(),((),()),d.1.2.2.2.1,d.1.2.2.2.2.1,d.1.2.2.2.2.2.1,()),((d.2.1.1,(),d.2.1.2.2.1,()),d.2.2.1,((),()),r,()))⟩],
  fun k d=>L_ F k (⟨[],[],[],d.1.2.2.2.2.2.2.1⟩:I.ap) d.2.2.2.2.1 d.1.2.2.2.2.2.2.2.2.1 d.1.2.2.2.2.2.2.2.1⟩
theorem ah0 (F:Nat):(Zr F).bU.bP ad (Bb F).aM ((Bb F).LE 79) (bR ad.P 79) 4 (bT ad.P 79 4):=a5.b5 (fun d=>df) fun k av aE q h=>by
 obtain ⟨_,_,⟨_,_⟩,(aw:List I.ap),(v1:Int),(v2:Int),(aV:List I.Method),(v4:Int),(a6:Int),_⟩:=av
 obtain ⟨⟨(v6:List I.ap),_,(bk:List Int),_⟩,(bn:List ((List UInt8) × Int)),⟨_,_⟩,(br:List (List UInt8)),_⟩:=aE
 obtain ⟨aA,_⟩:=dI h
 dsimp only at aA
 obtain ⟨rfl,_⟩:=aA
 conv=>rhs;change Option.map (α:=List (List UInt8)) _ (L_ F (k+ 1) (⟨[],[],[],aV⟩:I.ap) br a6 (aV.length:Int));rw [<-PS F (k+ 1) (⟨[],[],[],aV⟩:I.ap) br a6];simp only [nS,a',PT,PU,PS];simp only [bY]
 kernel_rfl
noncomputable def Bc (F:Nat):a2 ad:=(Bb F).l 79 4 ((Zr F).run ad F)
theorem ari (ah:aZ ad) (F:Nat) (h:(Bb F).ax):(Bc F).ax:=h.b7 ah rfl (by kernel_rfl) (ah0 F) F
noncomputable def L8 (F:Nat) (k:Nat) (aT:I.bi) (wb:List (List UInt8)) (tM:Int) (ao:Int) (a0:List I.ap):=c2 ((aT.l.length:Int)=ao/\(aT.l:List I.ap)=a0/\True) (q7 F aT k wb tM)
theorem PQ (F:Nat) (k:Nat) (aT:I.bi) (wb:List (List UInt8)) (tM:Int):q7 F aT k wb tM=L8 F k aT wb tM (aT.l.length:Int) aT.l:=(dg ⟨rfl,rfl,trivial⟩).symm
@[reducible] noncomputable def Zp (F:Nat):a5 aQ:=⟨[0,3,4,23,24,25],[.p (.B 0),.p (.B 2),.f 112 [.B 2],.p (.l 134),.p (.i .i64),.p (.i .i64)],[.c 117 [.l 134,.M 1,.l 3],.m 9 3,.c 120 [.R 3],.r 9 false],
  [⟨⟨.nm,[0,3],[.p (.B 0),.p (.B 2)],[.c 117 [.l 134,.M 1,.l 3],.m 9 3,.c 120 [.R 3],.r 9 false]⟩,List (List UInt8),fun d r=>(((),(),()),((d.2.1.1,(),d.2.1.2.2.1,()),d.2.2.1,((),()),r,()))⟩],
  fun k d=>L8 F k (⟨d.1.2.2.2.1,d.2.2.1,d.2.1.2.2.1⟩:I.bi) d.2.2.2.2.1 d.1.2.2.2.2.2.1 d.1.2.2.2.2.1 d.2.1.1⟩
theorem ahY (F:Nat):(Zp F).bU.bP ad (Bc F).aM ((Bc F).LE 79) (bR ad.P 79) 0 (bT ad.P 79 0):=a5.b5 (fun d=>df) fun k av aE q h=>by
 obtain ⟨_,_,⟨_,_⟩,(aw:List I.ap),(v1:Int),(v2:Int),_⟩:=av
 obtain ⟨⟨(aV:List I.ap),_,(v4:List Int),_⟩,(a6:List ((List UInt8) × Int)),⟨_,_⟩,(v6:List (List UInt8)),_⟩:=aE
 obtain ⟨aA,_⟩:=dI h
 dsimp only at aA
 obtain ⟨rfl,rfl,_⟩:=aA
 conv=>rhs;change Option.map (α:=List (List UInt8)) _ (L8 F (k+ 1) (⟨aw,a6,v4⟩:I.bi) v6 v2 (aw.length:Int) (aw));rw [<-PQ F (k+ 1) (⟨aw,a6,v4⟩:I.bi) v6 v2];simp only [q7,a',PR,PS,PQ];simp only [bY]
 kernel_rfl
noncomputable def Bf (F:Nat):a2 ad:=(Bc F).l 79 0 ((Zp F).run ad F)
theorem ark (ah:aZ ad) (F:Nat) (h:(Bc F).ax):(Bf F).ax:=h.b7 ah rfl (by kernel_rfl) (ahY F) F
noncomputable def Mc (k:Nat) (aT:I.bi) (mE:List (List UInt8)) (tQ:Int) (dn:Int):=c2 ((mE.length:Int)=dn/\True) (a4 (tz aT mE k tQ))
theorem PV (k:Nat) (aT:I.bi) (mE:List (List UInt8)) (tQ:Int):a4 (tz aT mE k tQ)=Mc k aT mE tQ (mE.length:Int):=(dg ⟨rfl,trivial⟩).symm
@[reducible] noncomputable def Zu (_:Nat):a5 aQ:=⟨[0,78,79,80],[.p (.B 0),.p (.R 2),.p (.i .i64),.p (.i .i64)],[.c 117 [.l 134,.M 1,.l 3],.m 9 3,.r 9 true],
  [⟨⟨.nm,[],[],[.c 117 [.l 134,.M 1,.l 3],.m 9 3,.d]⟩,Unit,fun d _=>((),((d.2.1.1,(),d.2.1.2.2.1,()),d.2.2.1,(),()))⟩,
   ⟨⟨.rt,[2],[.p (.i .i64)],[.c 117 [.l 134,.M 1,.l 3],.m 9 3,.d]⟩,Int,fun d r=>((r,()),((d.2.1.1,(),d.2.1.2.2.1,()),d.2.2.1,(),()))⟩],
  fun k d=>Mc k (⟨d.2.1.1,d.2.2.1,d.2.1.2.2.1⟩:I.bi) d.2.2.2.1 d.1.2.2.2.1 d.1.2.2.1⟩
theorem ah3 (F:Nat):(Zu F).bU.bP ad (Bf F).aM ((Bf F).LE 79) (bR ad.P 79) 10 (bT ad.P 79 10):=a5.b5 (fun d=>df) fun k av aE q h=>by
 obtain ⟨_,_,(aw:Int),(v1:Int),_⟩:=av
 obtain ⟨⟨(v2:List I.ap),_,(aV:List Int),_⟩,(v4:List ((List UInt8) × Int)),(a6:List (List UInt8)),_⟩:=aE
 obtain ⟨aA,_⟩:=dI h
 dsimp only at aA
 obtain ⟨rfl,_⟩:=aA
 conv=>rhs;change Option.map (α:=Unit ⊕ Int) _ (Mc (k+ 1) (⟨v2,v4,aV⟩:I.bi) a6 v1 (a6.length:Int));rw [<-PV (k+ 1) (⟨v2,v4,aV⟩:I.bi) a6 v1];simp only [tz,a',PV];simp only [bY]
 kernel_rfl
noncomputable def Bg (F:Nat):a2 ad:=(Bf F).l 79 10 ((Zu F).run ad F)
theorem arl (ah:aZ ad) (F:Nat) (h:(Bf F).ax):(Bg F).ax:=h.b7 ah rfl (by kernel_rfl) (ah3 F) F
@[reducible] noncomputable def Xr (F:Nat):bS aQ:=⟨[.p (.B 0)],[.c 117 [.l 134,.M 1,.l 3],.m 9 3],[.p (.i .i64)],[.c 117 [.l 134,.M 1,.l 3],.m 9 3],Int,fun d=>yh F (⟨d.2.1.1,d.2.2.1,d.2.1.2.2.1⟩:I.bi),fun d r=>((r,()),((d.2.1.1,(),d.2.1.2.2.1,()),d.2.2.1,()))⟩
theorem ahW (F:Nat):(Xr F).Eq ad (Bg F).aM (Bg F).LE 79 :=fun av aE=>by
 obtain ⟨_,_⟩:=av
 obtain ⟨⟨(aw:List I.ap),_,(v1:List Int),_⟩,(v2:List ((List UInt8) × Int)),_⟩:=aE
 conv=>rhs;change Option.map (α:=Int) _ (yh F (⟨aw,v2,v1⟩:I.bi));simp only [yh,a',PQ,PV]
 kernel_rfl
noncomputable def Bh (F:Nat):a2 ad:=(Bg F).f 79 ((Xr F).run ad)
theorem arm (ah:aZ ad) (F:Nat) (h:(Bg F).ax):(Bh F).ax:=h.rt ah rfl (by kernel_rfl) (ahW F)
noncomputable def Mf (k:Nat) (bf:List (List UInt8)) (wm:List ((List UInt8) × Bool)) (tJ:Int) (ao:List (List UInt8)) (aq:Int):=c2 ((bf:List (List UInt8))=ao/\(bf.length:Int)=aq/\True) (tA bf k wm tJ)
theorem PX (k:Nat) (bf:List (List UInt8)) (wm:List ((List UInt8) × Bool)) (tJ:Int):tA bf k wm tJ=Mf k bf wm tJ bf (bf.length:Int):=(dg ⟨rfl,rfl,trivial⟩).symm
@[reducible] noncomputable def Zx (_:Nat):a5 aQ:=⟨[0,3,7,8,9],[.p (.l 9),.p (.M 0),.p (.l 9),.p (.i .i64),.p (.i .i64)],[.m 9 4],
  [⟨⟨.nm,[0,3],[.p (.l 9),.p (.M 0)],[.m 9 4]⟩,List ((List UInt8) × Bool),fun d r=>((d.1.1,(),()),(r,()))⟩],
  fun k d=>Mf k d.1.1 d.2.1 d.1.2.2.2.2.1 d.1.2.2.1 d.1.2.2.2.1⟩
theorem ah9 (F:Nat):(Zx F).bU.bP ad (Bh F).aM ((Bh F).LE 113) (bR ad.P 113) 0 (bT ad.P 113 0):=a5.b5 (fun d=>df) fun k av aE q h=>by
 obtain ⟨(aw:List (List UInt8)),_,(v1:List (List UInt8)),(v2:Int),(aV:Int),_⟩:=av
 obtain ⟨(v4:List ((List UInt8) × Bool)),_⟩:=aE
 obtain ⟨aA,_⟩:=dI h
 dsimp only at aA
 obtain ⟨rfl,rfl,_⟩:=aA
 conv=>rhs;change Option.map (α:=List ((List UInt8) × Bool)) _ (Mf (k+ 1) aw v4 aV (aw) (aw.length:Int));rw [<-PX (k+ 1) aw v4 aV];simp only [tA,a',PX];simp only [bY]
 kernel_rfl
noncomputable def Bi (F:Nat):a2 ad:=(Bh F).l 113 0 ((Zx F).run ad F)
theorem arn (ah:aZ ad) (F:Nat) (h:(Bh F).ax):(Bi F).ax:=h.b7 ah rfl (by kernel_rfl) (ah9 F) F
@[reducible] noncomputable def Xv (F:Nat):bS aQ:=⟨[.p (.l 9)],[],[.p (.b)],[],Bool,fun d=>wl F d.1.1,fun _ r=>((r,()),())⟩
theorem ah8 (F:Nat):(Xv F).Eq ad (Bi F).aM (Bi F).LE 113 :=fun av aE=>by
 obtain ⟨(aw:List (List UInt8)),_⟩:=av
 conv=>rhs;change Option.map (α:=Bool) _ (wl F aw);simp only [wl,a',PX]
 kernel_rfl
noncomputable def Bj (F:Nat):a2 ad:=(Bi F).f 113 ((Xv F).run ad)
theorem aro (ah:aZ ad) (F:Nat) (h:(Bi F).ax):(Bj F).ax:=h.rt ah rfl (by kernel_rfl) (ah8 F)
noncomputable def L6 (k:Nat) (lT:List I.Field) (wa:List (List UInt8)) (tL:Int) (a0:Int) (aeK:List (List UInt8)):=c2 ((lT.length:Int)=a0/\([]:List (List UInt8))=aeK/\True) (q6 lT k wa tL)
theorem PO (k:Nat) (lT:List I.Field) (wa:List (List UInt8)) (tL:Int):q6 lT k wa tL=L6 k lT wa tL (lT.length:Int) []:=(dg ⟨rfl,rfl,trivial⟩).symm
@[reducible] noncomputable def Zn (_:Nat):a5 aQ:=⟨[0,4,5,6,14,15,16,23,24,25],[.p (.B 0),.p (.B 2),.p (.R 3),.p (.R 4),.p (.l 134),.p (.i .i64),.p (.i .i64),.p (.R 5),.p (.i .i64),.p (.i .i64)],[.c 117 [.l 134,.M 1,.l 3],.m 9 3,.c 134 [.s,.s,.l 136,.l 131],.r 9 false,.r 9 false,.r 136 true],
  [⟨⟨.nm,[0,4,5,6,14,15,16],[.p (.B 0),.p (.B 2),.p (.R 3),.p (.R 4),.p (.l 134),.p (.i .i64),.p (.i .i64)],[.c 117 [.l 134,.M 1,.l 3],.m 9 3,.c 134 [.s,.s,.l 136,.l 131],.r 9 false,.r 9 false,.d]⟩,List (List UInt8),fun d r=>(((),(),(),(),d.1.2.2.2.2.1,d.1.2.2.2.2.2.1,d.1.2.2.2.2.2.2.1,()),((d.2.1.1,(),d.2.1.2.2.1,()),d.2.2.1,(d.2.2.2.1.1,d.2.2.2.1.2.1,d.2.2.2.1.2.2.1,d.2.2.2.1.2.2.2.1,()),r,d.2.2.2.2.2.1,(),()))⟩],
  fun k d=>L6 k d.2.2.2.2.2.2.1 d.2.2.2.2.1 d.1.2.2.2.2.2.2.2.2.2.1 d.1.2.2.2.2.2.2.2.2.1 d.2.2.2.2.2.1⟩
theorem ahU (F:Nat):(Zn F).bU.bP ad (Bj F).aM ((Bj F).LE 80) (bR ad.P 80) 2 (bT ad.P 80 2):=a5.b5 (fun d=>df) fun k av aE q h=>by
 obtain ⟨_,_,_,_,(aw:List I.ap),(v1:Int),(v2:Int),_,(aV:Int),(v4:Int),_⟩:=av
 obtain ⟨⟨(a6:List I.ap),_,(v6:List Int),_⟩,(bk:List ((List UInt8) × Int)),⟨(bn:List UInt8),(br:List UInt8),(v10:List I.Field),(v11:List I.Method),_⟩,(bV:List (List UInt8)),(b9:List (List UInt8)),(cl:List I.Field),_⟩:=aE
 obtain ⟨aA,_⟩:=dI h
 dsimp only at aA
 obtain ⟨rfl,rfl,_⟩:=aA
 conv=>rhs;change Option.map (α:=List (List UInt8)) _ (L6 (k+ 1) cl bV v4 (cl.length:Int) ([]));rw [<-PO (k+ 1) cl bV v4];simp only [q6,a',PO];simp only [bY]
 kernel_rfl
noncomputable def Bk (F:Nat):a2 ad:=(Bj F).l 80 2 ((Zn F).run ad F)
theorem arp (ah:aZ ad) (F:Nat) (h:(Bj F).ax):(Bk F).ax:=h.b7 ah rfl (by kernel_rfl) (ahU F) F
noncomputable def L7 (k:Nat) (ko:I.ap) (qT:List (List UInt8)) (pk:Int) (ch:Int):=c2 ((ko.bh.length:Int)=ch/\True) (nR ko k qT pk)
theorem PP (k:Nat) (ko:I.ap) (qT:List (List UInt8)) (pk:Int):nR ko k qT pk=L7 k (⟨[],[],[],ko.bh⟩:I.ap) qT pk (ko.bh.length:Int):=(show nR ko k qT pk=nR (⟨[],[],[],ko.bh⟩:I.ap) k qT pk by kernel_rfl).trans (dg ⟨rfl,trivial⟩).symm
@[reducible] noncomputable def Zo (_:Nat):a5 aQ:=⟨[0,5,6,14,15,16,36,37,38],[.p (.B 0),.p (.R 2),.p (.R 3),.p (.l 134),.p (.i .i64),.p (.i .i64),.p (.l 131),.p (.i .i64),.p (.i .i64)],[.c 117 [.l 134,.M 1,.l 3],.m 9 3,.r 9 false,.r 9 false],
  [⟨⟨.nm,[0,5,6,14,15,16],[.p (.B 0),.p (.R 2),.p (.R 3),.p (.l 134),.p (.i .i64),.p (.i .i64)],[.c 117 [.l 134,.M 1,.l 3],.m 9 3,.r 9 false,.r 9 false]⟩,List (List UInt8),fun d r=>(((),(),(),d.1.2.2.2.1,d.1.2.2.2.2.1,d.1.2.2.2.2.2.1,()),((d.2.1.1,(),d.2.1.2.2.1,()),d.2.2.1,d.2.2.2.1,r,()))⟩],
  fun k d=>L7 k (⟨[],[],[],d.1.2.2.2.2.2.2.1⟩:I.ap) d.2.2.2.2.1 d.1.2.2.2.2.2.2.2.2.1 d.1.2.2.2.2.2.2.2.1⟩
theorem ahV (F:Nat):(Zo F).bU.bP ad (Bk F).aM ((Bk F).LE 80) (bR ad.P 80) 4 (bT ad.P 80 4):=a5.b5 (fun d=>df) fun k av aE q h=>by
 obtain ⟨_,_,_,(aw:List I.ap),(v1:Int),(v2:Int),(aV:List I.Method),(v4:Int),(a6:Int),_⟩:=av
 obtain ⟨⟨(v6:List I.ap),_,(bk:List Int),_⟩,(bn:List ((List UInt8) × Int)),(br:List (List UInt8)),(v10:List (List UInt8)),_⟩:=aE
 obtain ⟨aA,_⟩:=dI h
 dsimp only at aA
 obtain ⟨rfl,_⟩:=aA
 conv=>rhs;change Option.map (α:=List (List UInt8)) _ (L7 (k+ 1) (⟨[],[],[],aV⟩:I.ap) v10 a6 (aV.length:Int));rw [<-PP (k+ 1) (⟨[],[],[],aV⟩:I.ap) v10 a6];simp only [nR,a',PP];simp only [bY]
 kernel_rfl
noncomputable def Bl (F:Nat):a2 ad:=(Bk F).l 80 4 ((Zo F).run ad F)
theorem arq (ah:aZ ad) (F:Nat) (h:(Bk F).ax):(Bl F).ax:=h.b7 ah rfl (by kernel_rfl) (ahV F) F
noncomputable def L5 (F:Nat) (k:Nat) (aT:I.bi) (rh:Int) (ao:Int) (a0:List I.ap):=c2 ((aT.l.length:Int)=ao/\(aT.l:List I.ap)=a0/\True) (a4 (tu F aT k rh))
theorem PN (F:Nat) (k:Nat) (aT:I.bi) (rh:Int):a4 (tu F aT k rh)=L5 F k aT rh (aT.l.length:Int) aT.l:=(dg ⟨rfl,rfl,trivial⟩).symm
@[reducible] noncomputable def Zm (F:Nat):a5 aQ:=⟨[0,14,15,16],[.p (.B 0),.p (.l 134),.p (.i .i64),.p (.i .i64)],[.c 117 [.l 134,.M 1,.l 3],.m 9 3],
  [⟨⟨.nm,[],[],[.c 117 [.l 134,.M 1,.l 3],.m 9 3]⟩,Unit,fun d _=>((),((d.2.1.1,(),d.2.1.2.2.1,()),d.2.2.1,()))⟩,
   ⟨⟨.rt,[2],[.p (.i .i64)],[.c 117 [.l 134,.M 1,.l 3],.m 9 3]⟩,Int,fun d r=>((r,()),((d.2.1.1,(),d.2.1.2.2.1,()),d.2.2.1,()))⟩],
  fun k d=>L5 F k (⟨d.1.2.1,d.2.2.1,d.2.1.2.2.1⟩:I.bi) d.1.2.2.2.1 d.1.2.2.1 d.2.1.1⟩
theorem ahT (F:Nat):(Zm F).bU.bP ad (Bl F).aM ((Bl F).LE 80) (bR ad.P 80) 0 (bT ad.P 80 0):=a5.b5 (fun d=>df) fun k av aE q h=>by
 obtain ⟨_,(aw:List I.ap),(v1:Int),(v2:Int),_⟩:=av
 obtain ⟨⟨(aV:List I.ap),_,(v4:List Int),_⟩,(a6:List ((List UInt8) × Int)),_⟩:=aE
 obtain ⟨aA,_⟩:=dI h
 dsimp only at aA
 obtain ⟨rfl,rfl,_⟩:=aA
 conv=>rhs;change Option.map (α:=Unit ⊕ Int) _ (L5 F (k+ 1) (⟨aw,a6,v4⟩:I.bi) v2 (aw.length:Int) (aw));rw [<-PN F (k+ 1) (⟨aw,a6,v4⟩:I.bi) v2];simp only [tu,a',PO,PP,PN];simp only [bY]
 kernel_rfl
noncomputable def Bm (F:Nat):a2 ad:=(Bl F).l 80 0 ((Zm F).run ad F)
theorem arr (ah:aZ ad) (F:Nat) (h:(Bl F).ax):(Bm F).ax:=h.b7 ah rfl (by kernel_rfl) (ahT F) F
@[reducible] noncomputable def Xp (F:Nat):bS aQ:=⟨[.p (.B 0)],[.c 117 [.l 134,.M 1,.l 3],.m 9 3],[.p (.i .i64)],[.c 117 [.l 134,.M 1,.l 3],.m 9 3],Int,fun d=>yg F (⟨d.2.1.1,d.2.2.1,d.2.1.2.2.1⟩:I.bi),fun d r=>((r,()),((d.2.1.1,(),d.2.1.2.2.1,()),d.2.2.1,()))⟩
theorem ahS (F:Nat):(Xp F).Eq ad (Bm F).aM (Bm F).LE 80 :=fun av aE=>by
 obtain ⟨_,_⟩:=av
 obtain ⟨⟨(aw:List I.ap),_,(v1:List Int),_⟩,(v2:List ((List UInt8) × Int)),_⟩:=aE
 conv=>rhs;change Option.map (α:=Int) _ (yg F (⟨aw,v2,v1⟩:I.bi));simp only [yg,a',PN]
 kernel_rfl
noncomputable def Bn (F:Nat):a2 ad:=(Bm F).f 80 ((Xp F).run ad)
theorem ars (ah:aZ ad) (F:Nat) (h:(Bm F).ax):(Bn F).ax:=h.rt ah rfl (by kernel_rfl) (ahS F)
@[reducible] noncomputable def Zg (_:Nat):a5 aQ:=⟨[0,1,5],[.p (.B 0),.p (.i .i64),.p (.R 2)],[.c 117 [.l 134,.M 1,.l 3],.m 9 3,.r 3 false],
  [⟨⟨.nm,[5],[.p (.R 2)],[.c 117 [.l 134,.M 1,.l 3],.m 9 3,.r 3 false]⟩,List Int,fun d r=>(((),()),((d.2.1.1,(),d.2.1.2.2.1,()),d.2.2.1,r,()))⟩],
  fun k d=>mJ (⟨d.2.1.1,d.2.2.1,d.2.1.2.2.1⟩:I.bi) k d.2.2.2.1 d.1.2.1⟩
theorem ahJ (F:Nat):(Zg F).bU.bP ad (Bn F).aM ((Bn F).LE 114) (bR ad.P 114) 0 (bT ad.P 114 0):=a5.b5 (fun d=>rfl) fun k av aE q h=>by
 obtain ⟨_,(aw:Int),_,_⟩:=av
 obtain ⟨⟨(v1:List I.ap),_,(v2:List Int),_⟩,(aV:List ((List UInt8) × Int)),(v4:List Int),_⟩:=aE
 conv=>rhs;change Option.map (α:=List Int) _ (mJ (⟨v1,aV,v2⟩:I.bi) (k+ 1) v4 aw);simp only [mJ,a'];simp only [bY]
 kernel_rfl
noncomputable def Bo (F:Nat):a2 ad:=(Bn F).l 114 0 ((Zg F).run ad F)
theorem art (ah:aZ ad) (F:Nat) (h:(Bn F).ax):(Bo F).ax:=h.b7 ah rfl (by kernel_rfl) (ahJ F) F
@[reducible] noncomputable def Xk (F:Nat):bS aQ:=⟨[.p (.B 0),.p (.i .i64)],[.c 117 [.l 134,.M 1,.l 3],.m 9 3],[.p (.l 3)],[.c 117 [.l 134,.M 1,.l 3],.m 9 3],List Int,fun d=>mI F (⟨d.2.1.1,d.2.2.1,d.2.1.2.2.1⟩:I.bi) d.1.2.1,fun d r=>((r,()),((d.2.1.1,(),d.2.1.2.2.1,()),d.2.2.1,()))⟩
theorem ahI (F:Nat):(Xk F).Eq ad (Bo F).aM (Bo F).LE 114 :=fun av aE=>by
 obtain ⟨_,(aw:Int),_⟩:=av
 obtain ⟨⟨(v1:List I.ap),_,(v2:List Int),_⟩,(aV:List ((List UInt8) × Int)),_⟩:=aE
 conv=>rhs;change Option.map (α:=List Int) _ (mI F (⟨v1,aV,v2⟩:I.bi) aw);simp only [mI,a']
 kernel_rfl
noncomputable def Bq (F:Nat):a2 ad:=(Bo F).f 114 ((Xk F).run ad)
theorem arv (ah:aZ ad) (F:Nat) (h:(Bo F).ax):(Bq F).ax:=h.rt ah rfl (by kernel_rfl) (ahI F)
noncomputable def Mn (k:Nat) (bX:List I.Kind) (cp:List I.Kind) (c0:Int) (aq:Int):=c2 ((bX.length:Int)=aq/\True) (a4 (wQ bX cp k c0))
theorem P5 (k:Nat) (bX:List I.Kind) (cp:List I.Kind) (c0:Int):a4 (wQ bX cp k c0)=Mn k bX cp c0 (bX.length:Int):=(dg ⟨rfl,trivial⟩).symm
@[reducible] noncomputable def ZF (_:Nat):a5 aQ:=⟨[0,1,12,13],[.p (.l 128),.p (.l 128),.p (.i .i64),.p (.i .i64)],[],
  [⟨⟨.nm,[],[],[]⟩,Unit,fun _ _=>((),())⟩,
   ⟨⟨.rt,[4],[.p (.b)],[]⟩,Bool,fun _ r=>((r,()),())⟩],
  fun k d=>Mn k d.1.1 d.1.2.1 d.1.2.2.2.1 d.1.2.2.1⟩
theorem aiq (F:Nat):(ZF F).bU.bP ad (Bq F).aM ((Bq F).LE 143) (bR ad.P 143) 0 (bT ad.P 143 0):=a5.b5 (fun d=>df) fun k av aE q h=>by
 obtain ⟨(aw:List I.Kind),(v1:List I.Kind),(v2:Int),(aV:Int),_⟩:=av
 obtain ⟨aA,_⟩:=dI h
 dsimp only at aA
 obtain ⟨rfl,_⟩:=aA
 conv=>rhs;change Option.map (α:=Unit ⊕ Bool) _ (Mn (k+ 1) aw v1 aV (aw.length:Int));rw [<-P5 (k+ 1) aw v1 aV];simp only [wQ,a',P5];simp only [bY]
 kernel_rfl
noncomputable def Br (F:Nat):a2 ad:=(Bq F).l 143 0 ((ZF F).run ad F)
theorem arw (ah:aZ ad) (F:Nat) (h:(Bq F).ax):(Br F).ax:=h.b7 ah rfl (by kernel_rfl) (aiq F) F
@[reducible] noncomputable def XF (F:Nat):bS aQ:=⟨[.p (.l 128),.p (.l 128)],[],[.p (.b)],[],Bool,fun d=>yR F d.1.1 d.1.2.1,fun _ r=>((r,()),())⟩
theorem aip (F:Nat):(XF F).Eq ad (Br F).aM (Br F).LE 143 :=fun av aE=>by
 obtain ⟨(aw:List I.Kind),(v1:List I.Kind),_⟩:=av
 conv=>rhs;change Option.map (α:=Bool) _ (yR F aw v1);simp only [yR,a',P5]
 kernel_rfl
noncomputable def Bs (F:Nat):a2 ad:=(Br F).f 143 ((XF F).run ad)
theorem arx (ah:aZ ad) (F:Nat) (h:(Br F).ax):(Bs F).ax:=h.rt ah rfl (by kernel_rfl) (aip F)
@[reducible] noncomputable def Xi (F:Nat):bS aQ:=⟨[.a [.s,.b,.l 128,.i .i64,.s,.i .i64,.i .i64,.s,.l 157],.a [.s,.b,.l 128,.i .i64,.s,.i .i64,.i .i64,.s,.l 157]],[],[.p (.b)],[],Bool,fun d=>D_ F (⟨d.1.1.1,d.1.1.2.1,d.1.1.2.2.1,(⟨d.1.1.2.2.2.1,d.1.1.2.2.2.2.1⟩:I.Kind),d.1.1.2.2.2.2.2.1,d.1.1.2.2.2.2.2.2.1,d.1.1.2.2.2.2.2.2.2.1,d.1.1.2.2.2.2.2.2.2.2.1⟩:I.Method) (⟨d.1.2.1.1,d.1.2.1.2.1,d.1.2.1.2.2.1,(⟨d.1.2.1.2.2.2.1,d.1.2.1.2.2.2.2.1⟩:I.Kind),d.1.2.1.2.2.2.2.2.1,d.1.2.1.2.2.2.2.2.2.1,d.1.2.1.2.2.2.2.2.2.2.1,d.1.2.1.2.2.2.2.2.2.2.2.1⟩:I.Method),fun _ r=>((r,()),())⟩
theorem ahC (F:Nat):(Xi F).Eq ad (Bs F).aM (Bs F).LE 115 :=fun av aE=>by
 obtain ⟨⟨(aw:List UInt8),(v1:Bool),(v2:List I.Kind),(aV:Int),(v4:List UInt8),(a6:Int),(v6:Int),(bk:List UInt8),(bn:List I.Handler),_⟩,⟨(br:List UInt8),(v10:Bool),(v11:List I.Kind),(bV:Int),(b9:List UInt8),(cl:Int),(c4:Int),(eG:List UInt8),(e9:List I.Handler),_⟩,_⟩:=av
 conv=>rhs;change Option.map (α:=Bool) _ (D_ F (⟨aw,v1,v2,(⟨aV,v4⟩:I.Kind),a6,v6,bk,bn⟩:I.Method) (⟨br,v10,v11,(⟨bV,b9⟩:I.Kind),cl,c4,eG,e9⟩:I.Method));simp only [D_,a',aoD]
 kernel_rfl
noncomputable def Bt (F:Nat):a2 ad:=(Bs F).f 115 ((Xi F).run ad)
theorem ary (ah:aZ ad) (F:Nat) (h:(Bs F).ax):(Bt F).ax:=h.rt ah rfl (by kernel_rfl) (ahC F)
noncomputable def L3 (F:Nat) (k:Nat) (hH:I.Method) (jL:I.ap) (nY:Int) (xK:Int):=c2 ((jL.bh.length:Int)=xK/\True) (a4 (nQ F hH jL k nY))
theorem PK (F:Nat) (k:Nat) (hH:I.Method) (jL:I.ap) (nY:Int):a4 (nQ F hH jL k nY)=L3 F k hH (⟨[],[],[],jL.bh⟩:I.ap) nY (jL.bh.length:Int):=(show a4 (nQ F hH jL k nY)=a4 (nQ F hH (⟨[],[],[],jL.bh⟩:I.ap) k nY) by kernel_rfl).trans (dg ⟨rfl,trivial⟩).symm
@[reducible] noncomputable def Zk (F:Nat):a5 aQ:=⟨[0,4,6,8,14,15,16,24,25,26,31,32,33,44,45,46],[.p (.B 0),.p (.B 2),.p (.i .i64),.p (.B 3),.p (.l 134),.p (.i .i64),.p (.i .i64),.p (.l 3),.p (.i .i64),.p (.i .i64),.p (.l 131),.p (.i .i64),.p (.i .i64),.p (.l 131),.p (.i .i64),.p (.i .i64)],[.c 117 [.l 134,.M 1,.l 3],.m 9 3,.c 134 [.s,.s,.l 136,.l 131],.c 131 [.s,.b,.l 128,.i .i64,.s,.i .i64,.i .i64,.s,.l 157]],
  [⟨⟨.nm,[0,4,6,14,15,16,24,25,26,31,32,33],[.p (.B 0),.p (.B 2),.p (.i .i64),.p (.l 134),.p (.i .i64),.p (.i .i64),.p (.l 3),.p (.i .i64),.p (.i .i64),.p (.l 131),.p (.i .i64),.p (.i .i64)],[.c 117 [.l 134,.M 1,.l 3],.m 9 3,.c 134 [.s,.s,.l 136,.l 131],.c 131 [.s,.b,.l 128,.i .i64,.s,.i .i64,.i .i64,.s,.l 157]]⟩,Unit,fun d _=>(((),(),d.1.2.2.1,d.1.2.2.2.2.1,d.1.2.2.2.2.2.1,d.1.2.2.2.2.2.2.1,d.1.2.2.2.2.2.2.2.1,d.1.2.2.2.2.2.2.2.2.1,d.1.2.2.2.2.2.2.2.2.2.1,d.1.2.2.2.2.2.2.2.2.2.2.1,d.1.2.2.2.2.2.2.2.2.2.2.2.1,d.1.2.2.2.2.2.2.2.2.2.2.2.2.1,()),((d.2.1.1,(),d.2.1.2.2.1,()),d.2.2.1,(d.2.2.2.1.1,d.2.2.2.1.2.1,d.2.2.2.1.2.2.1,d.2.2.2.1.2.2.2.1,()),(d.2.2.2.2.1.1,d.2.2.2.2.1.2.1,d.2.2.2.2.1.2.2.1,d.2.2.2.2.1.2.2.2.1,d.2.2.2.2.1.2.2.2.2.1,d.2.2.2.2.1.2.2.2.2.2.1,d.2.2.2.2.1.2.2.2.2.2.2.1,d.2.2.2.2.1.2.2.2.2.2.2.2.1,d.2.2.2.2.1.2.2.2.2.2.2.2.2.1,()),()))⟩,
   ⟨⟨.rt,[2],[.p (.i .i64)],[.c 117 [.l 134,.M 1,.l 3],.m 9 3,.d,.d]⟩,Int,fun d r=>((r,()),((d.2.1.1,(),d.2.1.2.2.1,()),d.2.2.1,(),(),()))⟩],
  fun k d=>L3 F k (⟨d.2.2.2.2.1.1,d.2.2.2.2.1.2.1,d.2.2.2.2.1.2.2.1,(⟨d.2.2.2.2.1.2.2.2.1,d.2.2.2.2.1.2.2.2.2.1⟩:I.Kind),d.2.2.2.2.1.2.2.2.2.2.1,d.2.2.2.2.1.2.2.2.2.2.2.1,d.2.2.2.2.1.2.2.2.2.2.2.2.1,d.2.2.2.2.1.2.2.2.2.2.2.2.2.1⟩:I.Method) (⟨[],[],[],d.1.2.2.2.2.2.2.2.2.2.2.2.2.2.1⟩:I.ap) d.1.2.2.2.2.2.2.2.2.2.2.2.2.2.2.2.1 d.1.2.2.2.2.2.2.2.2.2.2.2.2.2.2.1⟩
theorem ahP (F:Nat):(Zk F).bU.bP ad (Bt F).aM ((Bt F).LE 81) (bR ad.P 81) 6 (bT ad.P 81 6):=a5.b5 (fun d=>df) fun k av aE q h=>by
 obtain ⟨_,_,(aw:Int),_,(v1:List I.ap),(v2:Int),(aV:Int),(v4:List Int),(a6:Int),(v6:Int),(bk:List I.Method),(bn:Int),(br:Int),(v10:List I.Method),(v11:Int),(bV:Int),_⟩:=av
 obtain ⟨⟨(b9:List I.ap),_,(cl:List Int),_⟩,(c4:List ((List UInt8) × Int)),⟨(eG:List UInt8),(e9:List UInt8),(im:List I.Field),(uA:List I.Method),_⟩,⟨(v20:List UInt8),(wW:Bool),(Jg:List I.Kind),(Jh:Int),(Ji:List UInt8),(Jj:Int),(Jk:Int),(Jl:List UInt8),(Jm:List I.Handler),_⟩,_⟩:=aE
 obtain ⟨aA,_⟩:=dI h
 dsimp only at aA
 obtain ⟨rfl,_⟩:=aA
 conv=>rhs;change Option.map (α:=Unit ⊕ Int) _ (L3 F (k+ 1) (⟨v20,wW,Jg,(⟨Jh,Ji⟩:I.Kind),Jj,Jk,Jl,Jm⟩:I.Method) (⟨[],[],[],v10⟩:I.ap) bV (v10.length:Int));rw [<-PK F (k+ 1) (⟨v20,wW,Jg,(⟨Jh,Ji⟩:I.Kind),Jj,Jk,Jl,Jm⟩:I.Method) (⟨[],[],[],v10⟩:I.ap) bV];simp only [nQ,a',PK];simp only [bY]
 kernel_rfl
noncomputable def Bu (F:Nat):a2 ad:=(Bt F).l 81 6 ((Zk F).run ad F)
theorem arz (ah:aZ ad) (F:Nat) (h:(Bt F).ax):(Bu F).ax:=h.b7 ah rfl (by kernel_rfl) (ahP F) F
noncomputable def L2 (F:Nat) (k:Nat) (aT:I.bi) (g3:I.ap) (rJ:Int) (tH:Int) (aq:Int) (afo:Int) (xJ:List I.ap) (aeR:List I.Method):=c2 ((aT.l.length:Int)=aq/\(g3.bh.length:Int)=afo/\(aT.l:List I.ap)=xJ/\(g3.bh:List I.Method)=aeR/\True) (a4 (tt F aT g3 rJ k tH))
theorem PJ (F:Nat) (k:Nat) (aT:I.bi) (g3:I.ap) (rJ:Int) (tH:Int):a4 (tt F aT g3 rJ k tH)=L2 F k aT g3 rJ tH (aT.l.length:Int) (g3.bh.length:Int) aT.l g3.bh:=(dg ⟨rfl,rfl,rfl,rfl,trivial⟩).symm
@[reducible] noncomputable def Zj (F:Nat):a5 aQ:=⟨[0,4,6,14,15,16,24,25,26,31,32,33],[.p (.B 0),.p (.B 2),.p (.i .i64),.p (.l 134),.p (.i .i64),.p (.i .i64),.p (.l 3),.p (.i .i64),.p (.i .i64),.p (.l 131),.p (.i .i64),.p (.i .i64)],[.c 117 [.l 134,.M 1,.l 3],.m 9 3,.c 134 [.s,.s,.l 136,.l 131]],
  [⟨⟨.nm,[0,4,14,15,16,24,25,26],[.p (.B 0),.p (.B 2),.p (.l 134),.p (.i .i64),.p (.i .i64),.p (.l 3),.p (.i .i64),.p (.i .i64)],[.c 117 [.l 134,.M 1,.l 3],.m 9 3,.c 134 [.s,.s,.l 136,.l 131]]⟩,Unit,fun d _=>(((),(),d.1.2.2.2.1,d.1.2.2.2.2.1,d.1.2.2.2.2.2.1,d.1.2.2.2.2.2.2.1,d.1.2.2.2.2.2.2.2.1,d.1.2.2.2.2.2.2.2.2.1,()),((d.2.1.1,(),d.2.1.2.2.1,()),d.2.2.1,(d.2.2.2.1.1,d.2.2.2.1.2.1,d.2.2.2.1.2.2.1,d.2.2.2.1.2.2.2.1,()),()))⟩,
   ⟨⟨.rt,[2],[.p (.i .i64)],[.c 117 [.l 134,.M 1,.l 3],.m 9 3,.d]⟩,Int,fun d r=>((r,()),((d.2.1.1,(),d.2.1.2.2.1,()),d.2.2.1,(),()))⟩],
  fun k d=>L2 F k (⟨d.1.2.2.2.1,d.2.2.1,d.2.1.2.2.1⟩:I.bi) (⟨d.2.2.2.1.1,d.2.2.2.1.2.1,d.2.2.2.1.2.2.1,d.1.2.2.2.2.2.2.2.2.2.1⟩:I.ap) d.1.2.2.1 d.1.2.2.2.2.2.2.2.2.2.2.2.1 d.1.2.2.2.2.1 d.1.2.2.2.2.2.2.2.2.2.2.1 d.2.1.1 d.2.2.2.1.2.2.2.1⟩
theorem ahO (F:Nat):(Zj F).bU.bP ad (Bu F).aM ((Bu F).LE 81) (bR ad.P 81) 4 (bT ad.P 81 4):=a5.b5 (fun d=>df) fun k av aE q h=>by
 obtain ⟨_,_,(aw:Int),(v1:List I.ap),(v2:Int),(aV:Int),(v4:List Int),(a6:Int),(v6:Int),(bk:List I.Method),(bn:Int),(br:Int),_⟩:=av
 obtain ⟨⟨(v10:List I.ap),_,(v11:List Int),_⟩,(bV:List ((List UInt8) × Int)),⟨(b9:List UInt8),(cl:List UInt8),(c4:List I.Field),(eG:List I.Method),_⟩,_⟩:=aE
 obtain ⟨aA,_⟩:=dI h
 dsimp only at aA
 obtain ⟨rfl,rfl,rfl,rfl,_⟩:=aA
 conv=>rhs;change Option.map (α:=Unit ⊕ Int) _ (L2 F (k+ 1) (⟨v1,bV,v11⟩:I.bi) (⟨b9,cl,c4,bk⟩:I.ap) aw br (v1.length:Int) (bk.length:Int) (v1) (bk));rw [<-PJ F (k+ 1) (⟨v1,bV,v11⟩:I.bi) (⟨b9,cl,c4,bk⟩:I.ap) aw br];simp only [tt,a',PK,PJ];simp only [bY]
 kernel_rfl
noncomputable def Bv (F:Nat):a2 ad:=(Bu F).l 81 4 ((Zj F).run ad F)
theorem arA (ah:aZ ad) (F:Nat) (h:(Bu F).ax):(Bv F).ax:=h.b7 ah rfl (by kernel_rfl) (ahO F) F
noncomputable def L1 (F:Nat) (k:Nat) (aT:I.bi) (g3:I.ap) (mD:List Int) (tG:Int) (ao:Int) (ch:Int) (gk:List I.ap):=c2 ((aT.l.length:Int)=ao/\(mD.length:Int)=ch/\(aT.l:List I.ap)=gk/\True) (a4 (ts F aT g3 mD k tG))
theorem PI (F:Nat) (k:Nat) (aT:I.bi) (g3:I.ap) (mD:List Int) (tG:Int):a4 (ts F aT g3 mD k tG)=L1 F k aT g3 mD tG (aT.l.length:Int) (mD.length:Int) aT.l:=(dg ⟨rfl,rfl,rfl,trivial⟩).symm
@[reducible] noncomputable def Zi (F:Nat):a5 aQ:=⟨[0,4,14,15,16,24,25,26],[.p (.B 0),.p (.B 2),.p (.l 134),.p (.i .i64),.p (.i .i64),.p (.l 3),.p (.i .i64),.p (.i .i64)],[.c 117 [.l 134,.M 1,.l 3],.m 9 3,.c 134 [.s,.s,.l 136,.l 131]],
  [⟨⟨.nm,[0,14,15,16],[.p (.B 0),.p (.l 134),.p (.i .i64),.p (.i .i64)],[.c 117 [.l 134,.M 1,.l 3],.m 9 3,.c 134 [.s,.s,.l 136,.l 131]]⟩,Unit,fun d _=>(((),d.1.2.2.1,d.1.2.2.2.1,d.1.2.2.2.2.1,()),((d.2.1.1,(),d.2.1.2.2.1,()),d.2.2.1,(d.2.2.2.1.1,d.2.2.2.1.2.1,d.2.2.2.1.2.2.1,d.2.2.2.1.2.2.2.1,()),()))⟩,
   ⟨⟨.rt,[2],[.p (.i .i64)],[.c 117 [.l 134,.M 1,.l 3],.m 9 3,.d]⟩,Int,fun d r=>((r,()),((d.2.1.1,(),d.2.1.2.2.1,()),d.2.2.1,(),()))⟩],
  fun k d=>L1 F k (⟨d.1.2.2.1,d.2.2.1,d.2.1.2.2.1⟩:I.bi) (⟨d.2.2.2.1.1,d.2.2.2.1.2.1,d.2.2.2.1.2.2.1,d.2.2.2.1.2.2.2.1⟩:I.ap) d.1.2.2.2.2.2.1 d.1.2.2.2.2.2.2.2.1 d.1.2.2.2.1 d.1.2.2.2.2.2.2.1 d.2.1.1⟩
theorem ahN (F:Nat):(Zi F).bU.bP ad (Bv F).aM ((Bv F).LE 81) (bR ad.P 81) 2 (bT ad.P 81 2):=a5.b5 (fun d=>df) fun k av aE q h=>by
 obtain ⟨_,_,(aw:List I.ap),(v1:Int),(v2:Int),(aV:List Int),(v4:Int),(a6:Int),_⟩:=av
 obtain ⟨⟨(v6:List I.ap),_,(bk:List Int),_⟩,(bn:List ((List UInt8) × Int)),⟨(br:List UInt8),(v10:List UInt8),(v11:List I.Field),(bV:List I.Method),_⟩,_⟩:=aE
 obtain ⟨aA,_⟩:=dI h
 dsimp only at aA
 obtain ⟨rfl,rfl,rfl,_⟩:=aA
 conv=>rhs;change Option.map (α:=Unit ⊕ Int) _ (L1 F (k+ 1) (⟨aw,bn,bk⟩:I.bi) (⟨br,v10,v11,bV⟩:I.ap) aV a6 (aw.length:Int) (aV.length:Int) (aw));rw [<-PI F (k+ 1) (⟨aw,bn,bk⟩:I.bi) (⟨br,v10,v11,bV⟩:I.ap) aV a6];simp only [ts,a',PJ,PI];simp only [bY]
 kernel_rfl
noncomputable def Bw (F:Nat):a2 ad:=(Bv F).l 81 2 ((Zi F).run ad F)
theorem arB (ah:aZ ad) (F:Nat) (h:(Bv F).ax):(Bw F).ax:=h.b7 ah rfl (by kernel_rfl) (ahN F) F
noncomputable def L0 (F:Nat) (k:Nat) (aT:I.bi) (ra:Int) (ao:Int) (a0:List I.ap):=c2 ((aT.l.length:Int)=ao/\(aT.l:List I.ap)=a0/\True) (a4 (tr F aT k ra))
theorem PH (F:Nat) (k:Nat) (aT:I.bi) (ra:Int):a4 (tr F aT k ra)=L0 F k aT ra (aT.l.length:Int) aT.l:=(dg ⟨rfl,rfl,trivial⟩).symm
@[reducible] noncomputable def Zh (F:Nat):a5 aQ:=⟨[0,14,15,16],[.p (.B 0),.p (.l 134),.p (.i .i64),.p (.i .i64)],[.c 117 [.l 134,.M 1,.l 3],.m 9 3],
  [⟨⟨.nm,[],[],[.c 117 [.l 134,.M 1,.l 3],.m 9 3]⟩,Unit,fun d _=>((),((d.2.1.1,(),d.2.1.2.2.1,()),d.2.2.1,()))⟩,
   ⟨⟨.rt,[2],[.p (.i .i64)],[.c 117 [.l 134,.M 1,.l 3],.m 9 3]⟩,Int,fun d r=>((r,()),((d.2.1.1,(),d.2.1.2.2.1,()),d.2.2.1,()))⟩],
  fun k d=>L0 F k (⟨d.1.2.1,d.2.2.1,d.2.1.2.2.1⟩:I.bi) d.1.2.2.2.1 d.1.2.2.1 d.2.1.1⟩
theorem ahM (F:Nat):(Zh F).bU.bP ad (Bw F).aM ((Bw F).LE 81) (bR ad.P 81) 0 (bT ad.P 81 0):=a5.b5 (fun d=>df) fun k av aE q h=>by
 obtain ⟨_,(aw:List I.ap),(v1:Int),(v2:Int),_⟩:=av
 obtain ⟨⟨(aV:List I.ap),_,(v4:List Int),_⟩,(a6:List ((List UInt8) × Int)),_⟩:=aE
 obtain ⟨aA,_⟩:=dI h
 dsimp only at aA
 obtain ⟨rfl,rfl,_⟩:=aA
 conv=>rhs;change Option.map (α:=Unit ⊕ Int) _ (L0 F (k+ 1) (⟨aw,a6,v4⟩:I.bi) v2 (aw.length:Int) (aw));rw [<-PH F (k+ 1) (⟨aw,a6,v4⟩:I.bi) v2];simp only [tr,a',PI,PH];simp only [bY]
 kernel_rfl
noncomputable def Bx (F:Nat):a2 ad:=(Bw F).l 81 0 ((Zh F).run ad F)
theorem arC (ah:aZ ad) (F:Nat) (h:(Bw F).ax):(Bx F).ax:=h.b7 ah rfl (by kernel_rfl) (ahM F) F
@[reducible] noncomputable def Xn (F:Nat):bS aQ:=⟨[.p (.B 0)],[.c 117 [.l 134,.M 1,.l 3],.m 9 3],[.p (.i .i64)],[.c 117 [.l 134,.M 1,.l 3],.m 9 3],Int,fun d=>yf F (⟨d.2.1.1,d.2.2.1,d.2.1.2.2.1⟩:I.bi),fun d r=>((r,()),((d.2.1.1,(),d.2.1.2.2.1,()),d.2.2.1,()))⟩
theorem ahL (F:Nat):(Xn F).Eq ad (Bx F).aM (Bx F).LE 81 :=fun av aE=>by
 obtain ⟨_,_⟩:=av
 obtain ⟨⟨(aw:List I.ap),_,(v1:List Int),_⟩,(v2:List ((List UInt8) × Int)),_⟩:=aE
 conv=>rhs;change Option.map (α:=Int) _ (yf F (⟨aw,v2,v1⟩:I.bi));simp only [yf,a',PH]
 kernel_rfl
noncomputable def By (F:Nat):a2 ad:=(Bx F).f 81 ((Xn F).run ad)
theorem arD (ah:aZ ad) (F:Nat) (h:(Bx F).ax):(By F).ax:=h.rt ah rfl (by kernel_rfl) (ahL F)
noncomputable def LV (F:Nat) (k:Nat) (fw:List I.ap) (g1:Int × I.bi) (gy:Int × I.bi) (qN:List (List I.Target)) (qO:List (List (List UInt8))) (qP:List (List I.Field)) (mP:Int) (dn:Int) (aq:List I.ap) (a0:List Int) (ch:List (List I.Field)) (dt:List (List (List UInt8))) (gk:List (List I.Target)) (xJ:List I.ap) (xK:List Int):=c2 ((fw.length:Int)=dn/\([]:List I.ap)=aq/\([]:List Int)=a0/\([]:List (List I.Field))=ch/\([]:List (List (List UInt8)))=dt/\([]:List (List I.Target))=gk/\(fw:List I.ap)=xJ/\(gy.2.c':List Int)=xK/\True) (a4 (k1 F fw g1 gy k qN qO qP mP))
theorem PC (F:Nat) (k:Nat) (fw:List I.ap) (g1:Int × I.bi) (gy:Int × I.bi) (qN:List (List I.Target)) (qO:List (List (List UInt8))) (qP:List (List I.Field)) (mP:Int):a4 (k1 F fw g1 gy k qN qO qP mP)=LV F k fw (0,(⟨[],g1.2.b8,[]⟩:I.bi)) (0,(⟨[],[],gy.2.c'⟩:I.bi)) qN qO qP mP (fw.length:Int) [] [] [] [] [] fw gy.2.c':=(show a4 (k1 F fw g1 gy k qN qO qP mP)=a4 (k1 F fw (0,(⟨[],g1.2.b8,[]⟩:I.bi)) (0,(⟨[],[],gy.2.c'⟩:I.bi)) k qN qO qP mP) by kernel_rfl).trans (dg ⟨rfl,rfl,rfl,rfl,rfl,rfl,rfl,rfl,trivial⟩).symm
@[reducible] noncomputable def Za (F:Nat):a5 aQ:=⟨[2,5,9,62,63],[.p (.B 0),.p (.B 1),.p (.B 3),.p (.i .i64),.p (.i .i64)],[.c 30 [.l 134,.l 3,.l 124,.l 120,.l 121],.c 117 [.l 134,.M 2,.l 3],.m 9 3,.c 30 [.l 134,.l 3,.R 4,.R 5,.R 6],.r 124 false,.r 120 false,.r 121 false],
  [⟨⟨.nm,[2,9],[.p (.B 0),.p (.B 3)],[.c 30 [.l 134,.l 3,.l 124,.l 120,.l 121],.c 117 [.l 134,.M 2,.l 3],.m 9 3,.c 30 [.l 134,.l 3,.R 4,.R 5,.R 6],.r 124 false,.r 120 false,.r 121 false]⟩,(List (List I.Target)) × (List (List (List UInt8))) × (List (List I.Field)),fun d r=>(((),(),()),((d.2.1.1,d.2.1.2.1,d.2.1.2.2.1,d.2.1.2.2.2.1,d.2.1.2.2.2.2.1,()),(d.2.2.1.1,(),d.2.2.1.2.2.1,()),d.2.2.2.1,(d.2.2.2.2.1.1,d.2.2.2.2.1.2.1,(),(),(),()),r.2.2,r.2.1,r.1,()))⟩,
   ⟨⟨.rt,[2,3],[.p (.B 0),.p (.i .i64)],[.c 30 [.l 134,.l 3,.l 124,.l 120,.l 121],.d,.d,.d,.d,.d,.d]⟩,I.aH × Int,fun _ r=>(((),r.2,()),((r.1.bJ,r.1.bB,r.1.Fields,r.1.Names,r.1.bC,()),(),(),(),(),(),(),()))⟩],
  fun k d=>LV F k d.2.2.1.1 (0,(⟨[],d.2.2.2.1,[]⟩:I.bi)) (0,(⟨[],[],d.2.2.1.2.2.1⟩:I.bi)) d.2.2.2.2.2.2.2.1 d.2.2.2.2.2.2.1 d.2.2.2.2.2.1 d.1.2.2.2.2.1 d.1.2.2.2.1 d.2.1.1 d.2.1.2.1 d.2.1.2.2.1 d.2.1.2.2.2.1 d.2.1.2.2.2.2.1 d.2.2.2.2.1.1 d.2.2.2.2.1.2.1⟩
theorem ahB (F:Nat):(Za F).bU.bP ad (By F).aM ((By F).LE 46) (bR ad.P 46) 2 (bT ad.P 46 2):=a5.b5 (fun d=>df) fun k av aE q h=>by
 obtain ⟨_,_,_,(aw:Int),(v1:Int),_⟩:=av
 obtain ⟨⟨(v2:List I.ap),(aV:List Int),(v4:List (List I.Field)),(a6:List (List (List UInt8))),(v6:List (List I.Target)),_⟩,⟨(bk:List I.ap),_,(bn:List Int),_⟩,(br:List ((List UInt8) × Int)),⟨(v10:List I.ap),(v11:List Int),_,_,_,_⟩,(bV:List (List I.Field)),(b9:List (List (List UInt8))),(cl:List (List I.Target)),_⟩:=aE
 obtain ⟨aA,_⟩:=dI h
 dsimp only at aA
 obtain ⟨rfl,rfl,rfl,rfl,rfl,rfl,rfl,rfl,_⟩:=aA
 conv=>rhs;change Option.map (α:=((List (List I.Target)) × (List (List (List UInt8))) × (List (List I.Field))) ⊕ (I.aH × Int)) _ (LV F (k+ 1) bk (0,(⟨[],br,[]⟩:I.bi)) (0,(⟨[],[],bn⟩:I.bi)) cl b9 bV v1 (bk.length:Int) ([]) ([]) ([]) ([]) ([]) (bk) ((0,(⟨[],[],bn⟩:I.bi)).2.c'));rw [<-PC F (k+ 1) bk (0,(⟨[],br,[]⟩:I.bi)) (0,(⟨[],[],bn⟩:I.bi)) cl b9 bV v1];simp only [k1,a',PC];simp only [bY]
 kernel_rfl
noncomputable def Bz (F:Nat):a2 ad:=(By F).l 46 2 ((Za F).run ad F)
theorem arE (ah:aZ ad) (F:Nat) (h:(By F).ax):(Bz F).ax:=h.b7 ah rfl (by kernel_rfl) (ahB F) F
@[reducible] noncomputable def Xh (F:Nat):bS aQ:=⟨[.p (.l 134)],[],[.a [.l 134,.l 3,.l 124,.l 120,.l 121],.p (.i .i64)],[],I.aH × Int,fun d=>tp F d.1.1,fun _ r=>(((r.1.bJ,r.1.bB,r.1.Fields,r.1.Names,r.1.bC,()),r.2,()),())⟩
theorem ahA (F:Nat):(Xh F).Eq ad (Bz F).aM (Bz F).LE 46 :=fun av aE=>by
 obtain ⟨(aw:List I.ap),_⟩:=av
 conv=>rhs;change Option.map (α:=I.aH × Int) _ (tp F aw);simp only [tp,a',PC]
 kernel_rfl
noncomputable def BB (F:Nat):a2 ad:=(Bz F).f 46 ((Xh F).run ad)
theorem arG (ah:aZ ad) (F:Nat) (h:(Bz F).ax):(BB F).ax:=h.rt ah rfl (by kernel_rfl) (ahA F)
noncomputable def Mp (k:Nat) (bX:List Int) (cp:List Int) (c0:Int) (aq:Int):=c2 ((bX.length:Int)=aq/\True) (a4 (uo bX cp k c0))
theorem P7 (k:Nat) (bX:List Int) (cp:List Int) (c0:Int):a4 (uo bX cp k c0)=Mp k bX cp c0 (bX.length:Int):=(dg ⟨rfl,trivial⟩).symm
@[reducible] noncomputable def ZH (_:Nat):a5 aQ:=⟨[0,1,12,13],[.p (.l 3),.p (.l 3),.p (.i .i64),.p (.i .i64)],[],
  [⟨⟨.nm,[],[],[]⟩,Unit,fun _ _=>((),())⟩,
   ⟨⟨.rt,[4],[.p (.b)],[]⟩,Bool,fun _ r=>((r,()),())⟩],
  fun k d=>Mp k d.1.1 d.1.2.1 d.1.2.2.2.1 d.1.2.2.1⟩
theorem aiu (F:Nat):(ZH F).bU.bP ad (BB F).aM ((BB F).LE 126) (bR ad.P 126) 0 (bT ad.P 126 0):=a5.b5 (fun d=>df) fun k av aE q h=>by
 obtain ⟨(aw:List Int),(v1:List Int),(v2:Int),(aV:Int),_⟩:=av
 obtain ⟨aA,_⟩:=dI h
 dsimp only at aA
 obtain ⟨rfl,_⟩:=aA
 conv=>rhs;change Option.map (α:=Unit ⊕ Bool) _ (Mp (k+ 1) aw v1 aV (aw.length:Int));rw [<-P7 (k+ 1) aw v1 aV];simp only [uo,a',P7];simp only [bY]
 kernel_rfl
noncomputable def BC (F:Nat):a2 ad:=(BB F).l 126 0 ((ZH F).run ad F)
theorem arH (ah:aZ ad) (F:Nat) (h:(BB F).ax):(BC F).ax:=h.b7 ah rfl (by kernel_rfl) (aiu F) F
@[reducible] noncomputable def XH (F:Nat):bS aQ:=⟨[.p (.l 3),.p (.l 3)],[],[.p (.b)],[],Bool,fun d=>yT F d.1.1 d.1.2.1,fun _ r=>((r,()),())⟩
theorem ait (F:Nat):(XH F).Eq ad (BC F).aM (BC F).LE 126 :=fun av aE=>by
 obtain ⟨(aw:List Int),(v1:List Int),_⟩:=av
 conv=>rhs;change Option.map (α:=Bool) _ (yT F aw v1);simp only [yT,a',P7]
 kernel_rfl
noncomputable def BD (F:Nat):a2 ad:=(BC F).f 126 ((XH F).run ad)
theorem arI (ah:aZ ad) (F:Nat) (h:(BC F).ax):(BD F).ax:=h.rt ah rfl (by kernel_rfl) (ait F)
noncomputable def Mm (k:Nat) (bX:List I.Field) (cp:List I.Field) (c0:Int) (aq:Int):=c2 ((bX.length:Int)=aq/\True) (a4 (ul bX cp k c0))
theorem P4 (k:Nat) (bX:List I.Field) (cp:List I.Field) (c0:Int):a4 (ul bX cp k c0)=Mm k bX cp c0 (bX.length:Int):=(dg ⟨rfl,trivial⟩).symm
@[reducible] noncomputable def ZE (_:Nat):a5 aQ:=⟨[0,1,12,13],[.p (.l 136),.p (.l 136),.p (.i .i64),.p (.i .i64)],[],
  [⟨⟨.nm,[],[],[]⟩,Unit,fun _ _=>((),())⟩,
   ⟨⟨.rt,[4],[.p (.b)],[]⟩,Bool,fun _ r=>((r,()),())⟩],
  fun k d=>Mm k d.1.1 d.1.2.1 d.1.2.2.2.1 d.1.2.2.1⟩
theorem aio (F:Nat):(ZE F).bU.bP ad (BD F).aM ((BD F).LE 128) (bR ad.P 128) 0 (bT ad.P 128 0):=a5.b5 (fun d=>df) fun k av aE q h=>by
 obtain ⟨(aw:List I.Field),(v1:List I.Field),(v2:Int),(aV:Int),_⟩:=av
 obtain ⟨aA,_⟩:=dI h
 dsimp only at aA
 obtain ⟨rfl,_⟩:=aA
 conv=>rhs;change Option.map (α:=Unit ⊕ Bool) _ (Mm (k+ 1) aw v1 aV (aw.length:Int));rw [<-P4 (k+ 1) aw v1 aV];simp only [ul,a',P4];simp only [bY]
 kernel_rfl
noncomputable def BE (F:Nat):a2 ad:=(BD F).l 128 0 ((ZE F).run ad F)
theorem arJ (ah:aZ ad) (F:Nat) (h:(BD F).ax):(BE F).ax:=h.b7 ah rfl (by kernel_rfl) (aio F) F
@[reducible] noncomputable def XE (F:Nat):bS aQ:=⟨[.p (.l 136),.p (.l 136)],[],[.p (.b)],[],Bool,fun d=>yQ F d.1.1 d.1.2.1,fun _ r=>((r,()),())⟩
theorem ain (F:Nat):(XE F).Eq ad (BE F).aM (BE F).LE 128 :=fun av aE=>by
 obtain ⟨(aw:List I.Field),(v1:List I.Field),_⟩:=av
 conv=>rhs;change Option.map (α:=Bool) _ (yQ F aw v1);simp only [yQ,a',P4]
 kernel_rfl
noncomputable def BF (F:Nat):a2 ad:=(BE F).f 128 ((XE F).run ad)
theorem arK (ah:aZ ad) (F:Nat) (h:(BE F).ax):(BF F).ax:=h.rt ah rfl (by kernel_rfl) (ain F)
noncomputable def Mj (F:Nat) (k:Nat) (bX:List (List I.Field)) (cp:List (List I.Field)) (fu:Int) (aq:Int):=c2 ((bX.length:Int)=aq/\True) (a4 (ui F bX cp k fu))
theorem P1 (F:Nat) (k:Nat) (bX:List (List I.Field)) (cp:List (List I.Field)) (fu:Int):a4 (ui F bX cp k fu)=Mj F k bX cp fu (bX.length:Int):=(dg ⟨rfl,trivial⟩).symm
@[reducible] noncomputable def ZB (F:Nat):a5 aQ:=⟨[1,2,15,16,17],[.p (.l 124),.f 128 [],.p (.l 124),.p (.i .i64),.p (.i .i64)],[],
  [⟨⟨.nm,[],[],[]⟩,Unit,fun _ _=>((),())⟩,
   ⟨⟨.rt,[6],[.p (.b)],[]⟩,Bool,fun _ r=>((r,()),())⟩],
  fun k d=>Mj F k d.1.2.2.1 d.1.1 d.1.2.2.2.2.1 d.1.2.2.2.1⟩
theorem aii (F:Nat):(ZB F).bU.bP ad (BF F).aM ((BF F).LE 127) (bR ad.P 127) 0 (bT ad.P 127 0):=a5.b5 (fun d=>df) fun k av aE q h=>by
 obtain ⟨(aw:List (List I.Field)),_,(v1:List (List I.Field)),(v2:Int),(aV:Int),_⟩:=av
 obtain ⟨aA,_⟩:=dI h
 dsimp only at aA
 obtain ⟨rfl,_⟩:=aA
 conv=>rhs;change Option.map (α:=Unit ⊕ Bool) _ (Mj F (k+ 1) v1 aw aV (v1.length:Int));rw [<-P1 F (k+ 1) v1 aw aV];simp only [ui,a',P1];simp only [bY]
 kernel_rfl
noncomputable def BG (F:Nat):a2 ad:=(BF F).l 127 0 ((ZB F).run ad F)
theorem arL (ah:aZ ad) (F:Nat) (h:(BF F).ax):(BG F).ax:=h.b7 ah rfl (by kernel_rfl) (aii F) F
@[reducible] noncomputable def XB (F:Nat):bS aQ:=⟨[.p (.l 124),.p (.l 124),.f 128 []],[],[.p (.b)],[],Bool,fun d=>yN F d.1.1 d.1.2.1,fun _ r=>((r,()),())⟩
theorem aih (F:Nat):(XB F).Eq ad (BG F).aM (BG F).LE 127 :=fun av aE=>by
 obtain ⟨(aw:List (List I.Field)),(v1:List (List I.Field)),_,_⟩:=av
 conv=>rhs;change Option.map (α:=Bool) _ (yN F aw v1);simp only [yN,a',P1]
 kernel_rfl
noncomputable def BH (F:Nat):a2 ad:=(BG F).f 127 ((XB F).run ad)
theorem arM (ah:aZ ad) (F:Nat) (h:(BG F).ax):(BH F).ax:=h.rt ah rfl (by kernel_rfl) (aih F)
noncomputable def Mq (k:Nat) (bX:List (List UInt8)) (cp:List (List UInt8)) (c0:Int) (aq:Int):=c2 ((bX.length:Int)=aq/\True) (a4 (uq bX cp k c0))
theorem P8 (k:Nat) (bX:List (List UInt8)) (cp:List (List UInt8)) (c0:Int):a4 (uq bX cp k c0)=Mq k bX cp c0 (bX.length:Int):=(dg ⟨rfl,trivial⟩).symm
@[reducible] noncomputable def ZI (_:Nat):a5 aQ:=⟨[0,1,12,13],[.p (.l 9),.p (.l 9),.p (.i .i64),.p (.i .i64)],[],
  [⟨⟨.nm,[],[],[]⟩,Unit,fun _ _=>((),())⟩,
   ⟨⟨.rt,[4],[.p (.b)],[]⟩,Bool,fun _ r=>((r,()),())⟩],
  fun k d=>Mq k d.1.1 d.1.2.1 d.1.2.2.2.1 d.1.2.2.1⟩
theorem aiw (F:Nat):(ZI F).bU.bP ad (BH F).aM ((BH F).LE 130) (bR ad.P 130) 0 (bT ad.P 130 0):=a5.b5 (fun d=>df) fun k av aE q h=>by
 obtain ⟨(aw:List (List UInt8)),(v1:List (List UInt8)),(v2:Int),(aV:Int),_⟩:=av
 obtain ⟨aA,_⟩:=dI h
 dsimp only at aA
 obtain ⟨rfl,_⟩:=aA
 conv=>rhs;change Option.map (α:=Unit ⊕ Bool) _ (Mq (k+ 1) aw v1 aV (aw.length:Int));rw [<-P8 (k+ 1) aw v1 aV];simp only [uq,a',P8];simp only [bY]
 kernel_rfl
noncomputable def BI (F:Nat):a2 ad:=(BH F).l 130 0 ((ZI F).run ad F)
theorem arN (ah:aZ ad) (F:Nat) (h:(BH F).ax):(BI F).ax:=h.b7 ah rfl (by kernel_rfl) (aiw F) F
@[reducible] noncomputable def XI (F:Nat):bS aQ:=⟨[.p (.l 9),.p (.l 9)],[],[.p (.b)],[],Bool,fun d=>yU F d.1.1 d.1.2.1,fun _ r=>((r,()),())⟩
theorem aiv (F:Nat):(XI F).Eq ad (BI F).aM (BI F).LE 130 :=fun av aE=>by
 obtain ⟨(aw:List (List UInt8)),(v1:List (List UInt8)),_⟩:=av
 conv=>rhs;change Option.map (α:=Bool) _ (yU F aw v1);simp only [yU,a',P8]
 kernel_rfl
noncomputable def BJ (F:Nat):a2 ad:=(BI F).f 130 ((XI F).run ad)
theorem arO (ah:aZ ad) (F:Nat) (h:(BI F).ax):(BJ F).ax:=h.rt ah rfl (by kernel_rfl) (aiv F)
noncomputable def Ml (F:Nat) (k:Nat) (bX:List (List (List UInt8))) (cp:List (List (List UInt8))) (fu:Int) (aq:Int):=c2 ((bX.length:Int)=aq/\True) (a4 (uk F bX cp k fu))
theorem P3 (F:Nat) (k:Nat) (bX:List (List (List UInt8))) (cp:List (List (List UInt8))) (fu:Int):a4 (uk F bX cp k fu)=Ml F k bX cp fu (bX.length:Int):=(dg ⟨rfl,trivial⟩).symm
@[reducible] noncomputable def ZD (F:Nat):a5 aQ:=⟨[1,2,15,16,17],[.p (.l 120),.f 130 [],.p (.l 120),.p (.i .i64),.p (.i .i64)],[],
  [⟨⟨.nm,[],[],[]⟩,Unit,fun _ _=>((),())⟩,
   ⟨⟨.rt,[6],[.p (.b)],[]⟩,Bool,fun _ r=>((r,()),())⟩],
  fun k d=>Ml F k d.1.2.2.1 d.1.1 d.1.2.2.2.2.1 d.1.2.2.2.1⟩
theorem aim (F:Nat):(ZD F).bU.bP ad (BJ F).aM ((BJ F).LE 129) (bR ad.P 129) 0 (bT ad.P 129 0):=a5.b5 (fun d=>df) fun k av aE q h=>by
 obtain ⟨(aw:List (List (List UInt8))),_,(v1:List (List (List UInt8))),(v2:Int),(aV:Int),_⟩:=av
 obtain ⟨aA,_⟩:=dI h
 dsimp only at aA
 obtain ⟨rfl,_⟩:=aA
 conv=>rhs;change Option.map (α:=Unit ⊕ Bool) _ (Ml F (k+ 1) v1 aw aV (v1.length:Int));rw [<-P3 F (k+ 1) v1 aw aV];simp only [uk,a',P3];simp only [bY]
 kernel_rfl
noncomputable def BK (F:Nat):a2 ad:=(BJ F).l 129 0 ((ZD F).run ad F)
theorem arP (ah:aZ ad) (F:Nat) (h:(BJ F).ax):(BK F).ax:=h.b7 ah rfl (by kernel_rfl) (aim F) F
@[reducible] noncomputable def XD (F:Nat):bS aQ:=⟨[.p (.l 120),.p (.l 120),.f 130 []],[],[.p (.b)],[],Bool,fun d=>yP F d.1.1 d.1.2.1,fun _ r=>((r,()),())⟩
theorem ail (F:Nat):(XD F).Eq ad (BK F).aM (BK F).LE 129 :=fun av aE=>by
 obtain ⟨(aw:List (List (List UInt8))),(v1:List (List (List UInt8))),_,_⟩:=av
 conv=>rhs;change Option.map (α:=Bool) _ (yP F aw v1);simp only [yP,a',P3]
 kernel_rfl
noncomputable def BM (F:Nat):a2 ad:=(BK F).f 129 ((XD F).run ad)
theorem arR (ah:aZ ad) (F:Nat) (h:(BK F).ax):(BM F).ax:=h.rt ah rfl (by kernel_rfl) (ail F)
noncomputable def Mo (k:Nat) (bX:List I.Target) (cp:List I.Target) (c0:Int) (aq:Int):=c2 ((bX.length:Int)=aq/\True) (a4 (um bX cp k c0))
theorem P6 (k:Nat) (bX:List I.Target) (cp:List I.Target) (c0:Int):a4 (um bX cp k c0)=Mo k bX cp c0 (bX.length:Int):=(dg ⟨rfl,trivial⟩).symm
@[reducible] noncomputable def ZG (_:Nat):a5 aQ:=⟨[0,1,12,13],[.p (.l 166),.p (.l 166),.p (.i .i64),.p (.i .i64)],[],
  [⟨⟨.nm,[],[],[]⟩,Unit,fun _ _=>((),())⟩,
   ⟨⟨.rt,[4],[.p (.b)],[]⟩,Bool,fun _ r=>((r,()),())⟩],
  fun k d=>Mo k d.1.1 d.1.2.1 d.1.2.2.2.1 d.1.2.2.1⟩
theorem ais (F:Nat):(ZG F).bU.bP ad (BM F).aM ((BM F).LE 132) (bR ad.P 132) 0 (bT ad.P 132 0):=a5.b5 (fun d=>df) fun k av aE q h=>by
 obtain ⟨(aw:List I.Target),(v1:List I.Target),(v2:Int),(aV:Int),_⟩:=av
 obtain ⟨aA,_⟩:=dI h
 dsimp only at aA
 obtain ⟨rfl,_⟩:=aA
 conv=>rhs;change Option.map (α:=Unit ⊕ Bool) _ (Mo (k+ 1) aw v1 aV (aw.length:Int));rw [<-P6 (k+ 1) aw v1 aV];simp only [um,a',P6];simp only [bY]
 kernel_rfl
noncomputable def BN (F:Nat):a2 ad:=(BM F).l 132 0 ((ZG F).run ad F)
theorem arS (ah:aZ ad) (F:Nat) (h:(BM F).ax):(BN F).ax:=h.b7 ah rfl (by kernel_rfl) (ais F) F
@[reducible] noncomputable def XG (F:Nat):bS aQ:=⟨[.p (.l 166),.p (.l 166)],[],[.p (.b)],[],Bool,fun d=>yS F d.1.1 d.1.2.1,fun _ r=>((r,()),())⟩
theorem air (F:Nat):(XG F).Eq ad (BN F).aM (BN F).LE 132 :=fun av aE=>by
 obtain ⟨(aw:List I.Target),(v1:List I.Target),_⟩:=av
 conv=>rhs;change Option.map (α:=Bool) _ (yS F aw v1);simp only [yS,a',P6]
 kernel_rfl
noncomputable def BO (F:Nat):a2 ad:=(BN F).f 132 ((XG F).run ad)
theorem arT (ah:aZ ad) (F:Nat) (h:(BN F).ax):(BO F).ax:=h.rt ah rfl (by kernel_rfl) (air F)
noncomputable def Mk (F:Nat) (k:Nat) (bX:List (List I.Target)) (cp:List (List I.Target)) (fu:Int) (aq:Int):=c2 ((bX.length:Int)=aq/\True) (a4 (uj F bX cp k fu))
theorem P2 (F:Nat) (k:Nat) (bX:List (List I.Target)) (cp:List (List I.Target)) (fu:Int):a4 (uj F bX cp k fu)=Mk F k bX cp fu (bX.length:Int):=(dg ⟨rfl,trivial⟩).symm
@[reducible] noncomputable def ZC (F:Nat):a5 aQ:=⟨[1,2,15,16,17],[.p (.l 121),.f 132 [],.p (.l 121),.p (.i .i64),.p (.i .i64)],[],
  [⟨⟨.nm,[],[],[]⟩,Unit,fun _ _=>((),())⟩,
   ⟨⟨.rt,[6],[.p (.b)],[]⟩,Bool,fun _ r=>((r,()),())⟩],
  fun k d=>Mk F k d.1.2.2.1 d.1.1 d.1.2.2.2.2.1 d.1.2.2.2.1⟩
theorem aik (F:Nat):(ZC F).bU.bP ad (BO F).aM ((BO F).LE 131) (bR ad.P 131) 0 (bT ad.P 131 0):=a5.b5 (fun d=>df) fun k av aE q h=>by
 obtain ⟨(aw:List (List I.Target)),_,(v1:List (List I.Target)),(v2:Int),(aV:Int),_⟩:=av
 obtain ⟨aA,_⟩:=dI h
 dsimp only at aA
 obtain ⟨rfl,_⟩:=aA
 conv=>rhs;change Option.map (α:=Unit ⊕ Bool) _ (Mk F (k+ 1) v1 aw aV (v1.length:Int));rw [<-P2 F (k+ 1) v1 aw aV];simp only [uj,a',P2];simp only [bY]
 kernel_rfl
noncomputable def BP (F:Nat):a2 ad:=(BO F).l 131 0 ((ZC F).run ad F)
theorem arU (ah:aZ ad) (F:Nat) (h:(BO F).ax):(BP F).ax:=h.b7 ah rfl (by kernel_rfl) (aik F) F
@[reducible] noncomputable def XC (F:Nat):bS aQ:=⟨[.p (.l 121),.p (.l 121),.f 132 []],[],[.p (.b)],[],Bool,fun d=>yO F d.1.1 d.1.2.1,fun _ r=>((r,()),())⟩
theorem aij (F:Nat):(XC F).Eq ad (BP F).aM (BP F).LE 131 :=fun av aE=>by
 obtain ⟨(aw:List (List I.Target)),(v1:List (List I.Target)),_,_⟩:=av
 conv=>rhs;change Option.map (α:=Bool) _ (yO F aw v1);simp only [yO,a',P2]
 kernel_rfl
noncomputable def BQ (F:Nat):a2 ad:=(BP F).f 131 ((XC F).run ad)
theorem arV (ah:aZ ad) (F:Nat) (h:(BP F).ax):(BQ F).ax:=h.rt ah rfl (by kernel_rfl) (aij F)
@[reducible] noncomputable def Xu (F:Nat):bS aQ:=⟨[.a [.l 134,.l 3,.l 124,.l 120,.l 121],.a [.l 134,.l 3,.l 124,.l 120,.l 121]],[],[.p (.b)],[],Bool,fun d=>wk F (⟨d.1.1.1,d.1.1.2.1,d.1.1.2.2.1,d.1.1.2.2.2.1,d.1.1.2.2.2.2.1⟩:I.aH) (⟨d.1.2.1.1,d.1.2.1.2.1,d.1.2.1.2.2.1,d.1.2.1.2.2.2.1,d.1.2.1.2.2.2.2.1⟩:I.aH),fun _ r=>((r,()),())⟩
theorem ah7 (F:Nat):(Xu F).Eq ad (BQ F).aM (BQ F).LE 100 :=fun av aE=>by
 obtain ⟨⟨(aw:List I.ap),(v1:List Int),(v2:List (List I.Field)),(aV:List (List (List UInt8))),(v4:List (List I.Target)),_⟩,⟨(a6:List I.ap),(v6:List Int),(bk:List (List I.Field)),(bn:List (List (List UInt8))),(br:List (List I.Target)),_⟩,_⟩:=av
 conv=>rhs;change Option.map (α:=Bool) _ (wk F (⟨aw,v1,v2,aV,v4⟩:I.aH) (⟨a6,v6,bk,bn,br⟩:I.aH));simp only [wk,a']
 kernel_rfl
noncomputable def BR (F:Nat):a2 ad:=(BQ F).f 100 ((Xu F).run ad)
theorem arW (ah:aZ ad) (F:Nat) (h:(BQ F).ax):(BR F).ax:=h.rt ah rfl (by kernel_rfl) (ah7 F)
@[reducible] noncomputable def Xg (F:Nat):bS aQ:=⟨[.a [.l 134,.l 3,.l 124,.l 120,.l 121]],[],[.p (.i .i64)],[],Int,fun d=>mH F (⟨d.1.1.1,d.1.1.2.1,d.1.1.2.2.1,d.1.1.2.2.2.1,d.1.1.2.2.2.2.1⟩:I.aH),fun _ r=>((r,()),())⟩
theorem ahz (F:Nat):(Xg F).Eq ad (BR F).aM (BR F).LE 64 :=fun av aE=>by
 obtain ⟨⟨(aw:List I.ap),(v1:List Int),(v2:List (List I.Field)),(aV:List (List (List UInt8))),(v4:List (List I.Target)),_⟩,_⟩:=av
 conv=>rhs;change Option.map (α:=Int) _ (mH F (⟨aw,v1,v2,aV,v4⟩:I.aH));simp only [mH,a']
 kernel_rfl
noncomputable def BS (F:Nat):a2 ad:=(BR F).f 64 ((Xg F).run ad)
theorem arX (ah:aZ ad) (F:Nat) (h:(BR F).ax):(BS F).ax:=h.rt ah rfl (by kernel_rfl) (ahz F)
@[reducible] noncomputable def W9 (_:Nat):bS aQ:=⟨[.p (.i .i64),.p (.i .i64),.p (.i .i64)],[],[.p (.b)],[],Bool,fun d=>kT d.1.1 d.1.2.1 d.1.2.2.1,fun _ r=>((r,()),())⟩
theorem ahl (F:Nat):(W9 F).Eq ad (BS F).aM (BS F).LE 84 :=fun av aE=>by
 obtain ⟨(aw:Int),(v1:Int),(v2:Int),_⟩:=av
 conv=>rhs;change Option.map (α:=Bool) _ (kT aw v1 v2);simp only [kT,a']
 kernel_rfl
noncomputable def BT (F:Nat):a2 ad:=(BS F).f 84 ((W9 F).run ad)
theorem arY (ah:aZ ad) (F:Nat) (h:(BS F).ax):(BT F).ax:=h.rt ah rfl (by kernel_rfl) (ahl F)
@[reducible] noncomputable def W8 (_:Nat):bS aQ:=⟨[.a [.l 3,.i .i64,.i .i64,.i .i64,.i .i64,.l 3,.i .i64]],[],[.p (.i .i64)],[],Int,fun d=>vE (⟨d.1.1.1,d.1.1.2.1,d.1.1.2.2.1,d.1.1.2.2.2.1,d.1.1.2.2.2.2.1,d.1.1.2.2.2.2.2.1,d.1.1.2.2.2.2.2.2.1⟩:I.aU),fun _ r=>((r,()),())⟩
theorem ahk (F:Nat):(W8 F).Eq ad (BT F).aM (BT F).LE 101 :=fun av aE=>by
 obtain ⟨⟨(aw:List Int),(v1:Int),(v2:Int),(aV:Int),(v4:Int),(a6:List Int),(v6:Int),_⟩,_⟩:=av
 conv=>rhs;change Option.map (α:=Int) _ (vE (⟨aw,v1,v2,aV,v4,a6,v6⟩:I.aU));simp only [vE,a']
 kernel_rfl
noncomputable def BU (F:Nat):a2 ad:=(BT F).f 101 ((W8 F).run ad)
theorem arZ (ah:aZ ad) (F:Nat) (h:(BT F).ax):(BU F).ax:=h.rt ah rfl (by kernel_rfl) (ahk F)
@[reducible] noncomputable def WU (_:Nat):bS aQ:=⟨[.a [.l 134,.l 3,.l 124,.l 120,.l 121],.p (.i .i64)],[],[.p (.b)],[],Bool,fun d=>oW (⟨(⟨d.1.1.1,d.1.1.2.1,d.1.1.2.2.1,d.1.1.2.2.2.1,d.1.1.2.2.2.2.1⟩:I.aH)⟩:I.bM) d.1.2.1,fun _ r=>((r,()),())⟩
theorem ag1 (F:Nat):(WU F).Eq ad (BU F).aM (BU F).LE 92 :=fun av aE=>by
 obtain ⟨⟨(aw:List I.ap),(v1:List Int),(v2:List (List I.Field)),(aV:List (List (List UInt8))),(v4:List (List I.Target)),_⟩,(a6:Int),_⟩:=av
 conv=>rhs;change Option.map (α:=Bool) _ (oW (⟨(⟨aw,v1,v2,aV,v4⟩:I.aH)⟩:I.bM) a6);simp only [oW,a']
 kernel_rfl
noncomputable def BV (F:Nat):a2 ad:=(BU F).f 92 ((WU F).run ad)
theorem ar0 (ah:aZ ad) (F:Nat) (h:(BU F).ax):(BV F).ax:=h.rt ah rfl (by kernel_rfl) (ag1 F)
@[reducible] noncomputable def WV (_:Nat):bS aQ:=⟨[.a [.l 134,.l 3,.l 124,.l 120,.l 121],.p (.i .i64),.p (.i .i64)],[],[.p (.b)],[],Bool,fun d=>oX (⟨(⟨d.1.1.1,d.1.1.2.1,d.1.1.2.2.1,d.1.1.2.2.2.1,d.1.1.2.2.2.2.1⟩:I.aH)⟩:I.bM) d.1.2.1 d.1.2.2.1,fun _ r=>((r,()),())⟩
theorem ag2 (F:Nat):(WV F).Eq ad (BV F).aM (BV F).LE 93 :=fun av aE=>by
 obtain ⟨⟨(aw:List I.ap),(v1:List Int),(v2:List (List I.Field)),(aV:List (List (List UInt8))),(v4:List (List I.Target)),_⟩,(a6:Int),(v6:Int),_⟩:=av
 conv=>rhs;change Option.map (α:=Bool) _ (oX (⟨(⟨aw,v1,v2,aV,v4⟩:I.aH)⟩:I.bM) a6 v6);simp only [oX,a']
 kernel_rfl
noncomputable def BX (F:Nat):a2 ad:=(BV F).f 93 ((WV F).run ad)
theorem ar2 (ah:aZ ad) (F:Nat) (h:(BV F).ax):(BX F).ax:=h.rt ah rfl (by kernel_rfl) (ag2 F)
noncomputable def LO (k:Nat) (hY:Int) (aG:I.bb) (qR:List Int) (mL:List (Int × Bool)) (kc:Int):=c2 (True) (a4 (lC hY aG k qR mL kc))
theorem Pw (k:Nat) (hY:Int) (aG:I.bb) (qR:List Int) (mL:List (Int × Bool)) (kc:Int):a4 (lC hY aG k qR mL kc)=LO k hY (⟨(⟨aG.H.Words,aG.H.aW,aG.H.a9,aG.H.bq,aG.H.bm,aG.H.bg,aG.H.Next⟩:I.aU),(⟨(⟨aG.S.K.bJ,aG.S.K.bB,aG.S.K.Fields,aG.S.K.Names,aG.S.K.bC⟩:I.aH)⟩:I.bM),aG.aW,aG.a9,[]⟩:I.bb) qR mL kc:=(show a4 (lC hY aG k qR mL kc)=a4 (lC hY (⟨(⟨aG.H.Words,aG.H.aW,aG.H.a9,aG.H.bq,aG.H.bm,aG.H.bg,aG.H.Next⟩:I.aU),(⟨(⟨aG.S.K.bJ,aG.S.K.bB,aG.S.K.Fields,aG.S.K.Names,aG.S.K.bC⟩:I.aH)⟩:I.bM),aG.aW,aG.a9,[]⟩:I.bb) k qR mL kc) by kernel_rfl).trans (dg trivial).symm
@[reducible] noncomputable def Y3 (_:Nat):a5 aQ:=⟨[0,2,8,9],[.p (.B 0),.p (.i .i64),.p (.R 2),.p (.i .i64)],[.c 72 [.l 3,.i .i64,.i .i64,.i .i64,.i .i64,.l 3,.i .i64,.l 134,.l 3,.l 124,.l 120,.l 121,.l 3,.l 3,.M 1],.m 3 4,.r 3 false],
  [⟨⟨.nm,[8],[.p (.R 2)],[.c 72 [.l 3,.i .i64,.i .i64,.i .i64,.i .i64,.l 3,.i .i64,.l 134,.l 3,.l 124,.l 120,.l 121,.l 3,.l 3,.M 1],.m 3 4,.r 3 false]⟩,(List Int) × (List (Int × Bool)),fun d r=>(((),()),((d.2.1.1,d.2.1.2.1,d.2.1.2.2.1,d.2.1.2.2.2.1,d.2.1.2.2.2.2.1,d.2.1.2.2.2.2.2.1,d.2.1.2.2.2.2.2.2.1,d.2.1.2.2.2.2.2.2.2.1,d.2.1.2.2.2.2.2.2.2.2.1,d.2.1.2.2.2.2.2.2.2.2.2.1,d.2.1.2.2.2.2.2.2.2.2.2.2.1,d.2.1.2.2.2.2.2.2.2.2.2.2.2.1,d.2.1.2.2.2.2.2.2.2.2.2.2.2.2.1,d.2.1.2.2.2.2.2.2.2.2.2.2.2.2.2.1,(),()),r.2,r.1,()))⟩,
   ⟨⟨.rt,[6,7],[.p (.l 3),.p (.b)],[.c 72 [.l 3,.i .i64,.i .i64,.i .i64,.i .i64,.l 3,.i .i64,.l 134,.l 3,.l 124,.l 120,.l 121,.l 3,.l 3,.M 1],.m 3 4,.d]⟩,(List Int) × Bool × I.bb,fun d r=>((r.1,r.2.1,()),((d.2.1.1,d.2.1.2.1,d.2.1.2.2.1,d.2.1.2.2.2.1,d.2.1.2.2.2.2.1,d.2.1.2.2.2.2.2.1,d.2.1.2.2.2.2.2.2.1,d.2.1.2.2.2.2.2.2.2.1,d.2.1.2.2.2.2.2.2.2.2.1,d.2.1.2.2.2.2.2.2.2.2.2.1,d.2.1.2.2.2.2.2.2.2.2.2.2.1,d.2.1.2.2.2.2.2.2.2.2.2.2.2.1,d.2.1.2.2.2.2.2.2.2.2.2.2.2.2.1,d.2.1.2.2.2.2.2.2.2.2.2.2.2.2.2.1,(),()),r.2.2.dK,(),()))⟩],
  fun k d=>LO k d.1.2.1 (⟨(⟨d.2.1.1,d.2.1.2.1,d.2.1.2.2.1,d.2.1.2.2.2.1,d.2.1.2.2.2.2.1,d.2.1.2.2.2.2.2.1,d.2.1.2.2.2.2.2.2.1⟩:I.aU),(⟨(⟨d.2.1.2.2.2.2.2.2.2.1,d.2.1.2.2.2.2.2.2.2.2.1,d.2.1.2.2.2.2.2.2.2.2.2.1,d.2.1.2.2.2.2.2.2.2.2.2.2.1,d.2.1.2.2.2.2.2.2.2.2.2.2.2.1⟩:I.aH)⟩:I.bM),d.2.1.2.2.2.2.2.2.2.2.2.2.2.2.1,d.2.1.2.2.2.2.2.2.2.2.2.2.2.2.2.1,[]⟩:I.bb) d.2.2.2.1 d.2.2.1 d.1.2.2.2.1⟩
theorem ahe (F:Nat):(Y3 F).bU.bP ad (BX F).aM ((BX F).LE 102) (bR ad.P 102) 0 (bT ad.P 102 0):=a5.b5 (fun d=>df) fun k av aE q h=>by
 obtain ⟨_,(aw:Int),_,(v1:Int),_⟩:=av
 obtain ⟨⟨(v2:List Int),(aV:Int),(v4:Int),(a6:Int),(v6:Int),(bk:List Int),(bn:Int),(br:List I.ap),(v10:List Int),(v11:List (List I.Field)),(bV:List (List (List UInt8))),(b9:List (List I.Target)),(cl:List Int),(c4:List Int),_,_⟩,(eG:List (Int × Bool)),(e9:List Int),_⟩:=aE
 conv=>rhs;change Option.map (α:=((List Int) × (List (Int × Bool))) ⊕ ((List Int) × Bool × I.bb)) _ (LO (k+ 1) aw (⟨(⟨v2,aV,v4,a6,v6,bk,bn⟩:I.aU),(⟨(⟨br,v10,v11,bV,b9⟩:I.aH)⟩:I.bM),cl,c4,[]⟩:I.bb) e9 eG v1);rw [<-Pw (k+ 1) aw (⟨(⟨v2,aV,v4,a6,v6,bk,bn⟩:I.aU),(⟨(⟨br,v10,v11,bV,b9⟩:I.aH)⟩:I.bM),cl,c4,[]⟩:I.bb) e9 eG v1];simp only [lC,a',Pw];simp only [bY]
 kernel_rfl
noncomputable def BZ (F:Nat):a2 ad:=(BX F).l 102 0 ((Y3 F).run ad F)
theorem ar3 (ah:aZ ad) (F:Nat) (h:(BX F).ax):(BZ F).ax:=h.b7 ah rfl (by kernel_rfl) (ahe F) F
@[reducible] noncomputable def W4 (F:Nat):bS aQ:=⟨[.p (.B 0),.p (.i .i64),.p (.i .i64)],[.c 72 [.l 3,.i .i64,.i .i64,.i .i64,.i .i64,.l 3,.i .i64,.l 134,.l 3,.l 124,.l 120,.l 121,.l 3,.l 3,.M 1],.m 3 4],[.p (.l 3),.p (.b)],[.c 72 [.l 3,.i .i64,.i .i64,.i .i64,.i .i64,.l 3,.i .i64,.l 134,.l 3,.l 124,.l 120,.l 121,.l 3,.l 3,.M 1],.m 3 4],(List Int) × Bool × I.bb,fun d=>jp F (⟨(⟨d.2.1.1,d.2.1.2.1,d.2.1.2.2.1,d.2.1.2.2.2.1,d.2.1.2.2.2.2.1,d.2.1.2.2.2.2.2.1,d.2.1.2.2.2.2.2.2.1⟩:I.aU),(⟨(⟨d.2.1.2.2.2.2.2.2.2.1,d.2.1.2.2.2.2.2.2.2.2.1,d.2.1.2.2.2.2.2.2.2.2.2.1,d.2.1.2.2.2.2.2.2.2.2.2.2.1,d.2.1.2.2.2.2.2.2.2.2.2.2.2.1⟩:I.aH)⟩:I.bM),d.2.1.2.2.2.2.2.2.2.2.2.2.2.2.1,d.2.1.2.2.2.2.2.2.2.2.2.2.2.2.2.1,d.2.2.1⟩:I.bb) d.1.2.1 d.1.2.2.1,fun d r=>((r.1,r.2.1,()),((d.2.1.1,d.2.1.2.1,d.2.1.2.2.1,d.2.1.2.2.2.1,d.2.1.2.2.2.2.1,d.2.1.2.2.2.2.2.1,d.2.1.2.2.2.2.2.2.1,d.2.1.2.2.2.2.2.2.2.1,d.2.1.2.2.2.2.2.2.2.2.1,d.2.1.2.2.2.2.2.2.2.2.2.1,d.2.1.2.2.2.2.2.2.2.2.2.2.1,d.2.1.2.2.2.2.2.2.2.2.2.2.2.1,d.2.1.2.2.2.2.2.2.2.2.2.2.2.2.1,d.2.1.2.2.2.2.2.2.2.2.2.2.2.2.2.1,(),()),r.2.2.dK,()))⟩
theorem ahd (F:Nat):(W4 F).Eq ad (BZ F).aM (BZ F).LE 102 :=fun av aE=>by
 obtain ⟨_,(aw:Int),(v1:Int),_⟩:=av
 obtain ⟨⟨(v2:List Int),(aV:Int),(v4:Int),(a6:Int),(v6:Int),(bk:List Int),(bn:Int),(br:List I.ap),(v10:List Int),(v11:List (List I.Field)),(bV:List (List (List UInt8))),(b9:List (List I.Target)),(cl:List Int),(c4:List Int),_,_⟩,(eG:List (Int × Bool)),_⟩:=aE
 conv=>rhs;change Option.map (α:=(List Int) × Bool × I.bb) _ (jp F (⟨(⟨v2,aV,v4,a6,v6,bk,bn⟩:I.aU),(⟨(⟨br,v10,v11,bV,b9⟩:I.aH)⟩:I.bM),cl,c4,eG⟩:I.bb) aw v1);simp only [jp,a',Pw]
 kernel_rfl
noncomputable def B0 (F:Nat):a2 ad:=(BZ F).f 102 ((W4 F).run ad)
theorem ar4 (ah:aZ ad) (F:Nat) (h:(BZ F).ax):(B0 F).ax:=h.rt ah rfl (by kernel_rfl) (ahd F)
noncomputable def Mh (k:Nat) (gb:List (List Int)) (tD:Int) (tE:Int) (aq:List (List Int)) (a0:Int):=c2 ((gb:List (List Int))=aq/\(gb.length:Int)=a0/\True) (rv gb k tD tE)
theorem PZ (k:Nat) (gb:List (List Int)) (tD:Int) (tE:Int):rv gb k tD tE=Mh k gb tD tE gb (gb.length:Int):=(dg ⟨rfl,rfl,trivial⟩).symm
@[reducible] noncomputable def Zz (_:Nat):a5 aQ:=⟨[0,3,9,10,11],[.p (.l 22),.p (.i .i64),.p (.l 22),.p (.i .i64),.p (.i .i64)],[],
  [⟨⟨.nm,[0,3],[.p (.l 22),.p (.i .i64)],[]⟩,Int,fun d r=>((d.1.1,r,()),())⟩],
  fun k d=>Mh k d.1.1 d.1.2.1 d.1.2.2.2.2.1 d.1.2.2.1 d.1.2.2.2.1⟩
theorem aib (F:Nat):(Zz F).bU.bP ad (B0 F).aM ((B0 F).LE 135) (bR ad.P 135) 0 (bT ad.P 135 0):=a5.b5 (fun d=>df) fun k av aE q h=>by
 obtain ⟨(aw:List (List Int)),(v1:Int),(v2:List (List Int)),(aV:Int),(v4:Int),_⟩:=av
 obtain ⟨aA,_⟩:=dI h
 dsimp only at aA
 obtain ⟨rfl,rfl,_⟩:=aA
 conv=>rhs;change Option.map (α:=Int) _ (Mh (k+ 1) aw v1 v4 (aw) (aw.length:Int));rw [<-PZ (k+ 1) aw v1 v4];simp only [rv,a',PZ];simp only [bY]
 kernel_rfl
noncomputable def B1 (F:Nat):a2 ad:=(B0 F).l 135 0 ((Zz F).run ad F)
theorem ar5 (ah:aZ ad) (F:Nat) (h:(B0 F).ax):(B1 F).ax:=h.b7 ah rfl (by kernel_rfl) (aib F) F
noncomputable def Mi (k:Nat) (gb:List (List Int)) (v_:List Int) (tI:Int) (ao:Int):=c2 ((gb.length:Int)=ao/\True) (ry gb k v_ tI)
theorem P0 (k:Nat) (gb:List (List Int)) (v_:List Int) (tI:Int):ry gb k v_ tI=Mi k gb v_ tI (gb.length:Int):=(dg ⟨rfl,trivial⟩).symm
@[reducible] noncomputable def ZA (_:Nat):a5 aQ:=⟨[6,25,26,27],[.p (.R 0),.p (.l 22),.p (.i .i64),.p (.i .i64)],[.r 3 false],
  [⟨⟨.nm,[6],[.p (.R 0)],[.r 3 false]⟩,List Int,fun _ r=>(((),()),(r,()))⟩],
  fun k d=>Mi k d.1.2.1 d.2.1 d.1.2.2.2.1 d.1.2.2.1⟩
theorem aic (F:Nat):(ZA F).bU.bP ad (B1 F).aM ((B1 F).LE 135) (bR ad.P 135) 2 (bT ad.P 135 2):=a5.b5 (fun d=>df) fun k av aE q h=>by
 obtain ⟨_,(aw:List (List Int)),(v1:Int),(v2:Int),_⟩:=av
 obtain ⟨(aV:List Int),_⟩:=aE
 obtain ⟨aA,_⟩:=dI h
 dsimp only at aA
 obtain ⟨rfl,_⟩:=aA
 conv=>rhs;change Option.map (α:=List Int) _ (Mi (k+ 1) aw aV v2 (aw.length:Int));rw [<-P0 (k+ 1) aw aV v2];simp only [ry,a',P0];simp only [bY]
 kernel_rfl
noncomputable def B2 (F:Nat):a2 ad:=(B1 F).l 135 2 ((ZA F).run ad F)
theorem ar6 (ah:aZ ad) (F:Nat) (h:(B1 F).ax):(B2 F).ax:=h.b7 ah rfl (by kernel_rfl) (aic F) F
@[reducible] noncomputable def Xx (F:Nat):bS aQ:=⟨[.p (.l 22)],[],[.p (.l 3)],[],List Int,fun d=>wP F d.1.1,fun _ r=>((r,()),())⟩
theorem aia (F:Nat):(Xx F).Eq ad (B2 F).aM (B2 F).LE 135 :=fun av aE=>by
 obtain ⟨(aw:List (List Int)),_⟩:=av
 conv=>rhs;change Option.map (α:=List Int) _ (wP F aw);simp only [wP,a',PZ,P0,I0]
 kernel_rfl
noncomputable def B3 (F:Nat):a2 ad:=(B2 F).f 135 ((Xx F).run ad)
theorem ar7 (ah:aZ ad) (F:Nat) (h:(B2 F).ax):(B3 F).ax:=h.rt ah rfl (by kernel_rfl) (aia F)
@[reducible] noncomputable def WX (F:Nat):bS aQ:=⟨[.p (.B 0)],[.c 72 [.l 3,.i .i64,.i .i64,.i .i64,.i .i64,.l 3,.i .i64,.l 134,.l 3,.l 124,.l 120,.l 121,.l 3,.l 3,.M 1],.m 3 4],[.p (.l 3)],[.c 72 [.l 3,.i .i64,.i .i64,.i .i64,.i .i64,.l 3,.i .i64,.l 134,.l 3,.l 124,.l 120,.l 121,.l 3,.l 3,.M 1],.m 3 4],List Int,fun d=>qw F (⟨(⟨d.2.1.1,d.2.1.2.1,d.2.1.2.2.1,d.2.1.2.2.2.1,d.2.1.2.2.2.2.1,d.2.1.2.2.2.2.2.1,d.2.1.2.2.2.2.2.2.1⟩:I.aU),(⟨(⟨d.2.1.2.2.2.2.2.2.2.1,d.2.1.2.2.2.2.2.2.2.2.1,d.2.1.2.2.2.2.2.2.2.2.2.1,d.2.1.2.2.2.2.2.2.2.2.2.2.1,d.2.1.2.2.2.2.2.2.2.2.2.2.2.1⟩:I.aH)⟩:I.bM),d.2.1.2.2.2.2.2.2.2.2.2.2.2.2.1,d.2.1.2.2.2.2.2.2.2.2.2.2.2.2.2.1,d.2.2.1⟩:I.bb),fun d r=>((r,()),((d.2.1.1,d.2.1.2.1,d.2.1.2.2.1,d.2.1.2.2.2.1,d.2.1.2.2.2.2.1,d.2.1.2.2.2.2.2.1,d.2.1.2.2.2.2.2.2.1,d.2.1.2.2.2.2.2.2.2.1,d.2.1.2.2.2.2.2.2.2.2.1,d.2.1.2.2.2.2.2.2.2.2.2.1,d.2.1.2.2.2.2.2.2.2.2.2.2.1,d.2.1.2.2.2.2.2.2.2.2.2.2.2.1,d.2.1.2.2.2.2.2.2.2.2.2.2.2.2.1,d.2.1.2.2.2.2.2.2.2.2.2.2.2.2.2.1,(),()),d.2.2.1,()))⟩
theorem ag4 (F:Nat):(WX F).Eq ad (B3 F).aM (B3 F).LE 133 :=fun av aE=>by
 obtain ⟨_,_⟩:=av
 obtain ⟨⟨(aw:List Int),(v1:Int),(v2:Int),(aV:Int),(v4:Int),(a6:List Int),(v6:Int),(bk:List I.ap),(bn:List Int),(br:List (List I.Field)),(v10:List (List (List UInt8))),(v11:List (List I.Target)),(bV:List Int),(b9:List Int),_,_⟩,(cl:List (Int × Bool)),_⟩:=aE
 conv=>rhs;change Option.map (α:=List Int) _ (qw F (⟨(⟨aw,v1,v2,aV,v4,a6,v6⟩:I.aU),(⟨(⟨bk,bn,br,v10,v11⟩:I.aH)⟩:I.bM),bV,b9,cl⟩:I.bb));simp only [qw,a']
 kernel_rfl
noncomputable def B4 (F:Nat):a2 ad:=(B3 F).f 133 ((WX F).run ad)
theorem ar8 (ah:aZ ad) (F:Nat) (h:(B3 F).ax):(B4 F).ax:=h.rt ah rfl (by kernel_rfl) (ag4 F)
noncomputable def LL (k:Nat) (aG:I.bb) (ga:List Int) (wo:List (Int × Bool)) (tW:Int) (ao:Int):=c2 ((ga.length:Int)=ao/\True) (a4 (qx aG ga k wo tW))
theorem Pt (k:Nat) (aG:I.bb) (ga:List Int) (wo:List (Int × Bool)) (tW:Int):a4 (qx aG ga k wo tW)=LL k aG ga wo tW (ga.length:Int):=(dg ⟨rfl,trivial⟩).symm
@[reducible] noncomputable def Y0 (_:Nat):a5 aQ:=⟨[0,3,9,10,11],[.p (.B 0),.p (.M 2),.p (.l 3),.p (.i .i64),.p (.i .i64)],[.c 72 [.l 3,.i .i64,.i .i64,.i .i64,.i .i64,.l 3,.i .i64,.l 134,.l 3,.l 124,.l 120,.l 121,.l 3,.l 3,.M 1],.m 3 4,.m 3 4],
  [⟨⟨.nm,[0,3],[.p (.B 0),.p (.M 2)],[.c 72 [.l 3,.i .i64,.i .i64,.i .i64,.i .i64,.l 3,.i .i64,.l 134,.l 3,.l 124,.l 120,.l 121,.l 3,.l 3,.M 1],.m 3 4,.m 3 4]⟩,List (Int × Bool),fun d r=>(((),(),()),((d.2.1.1,d.2.1.2.1,d.2.1.2.2.1,d.2.1.2.2.2.1,d.2.1.2.2.2.2.1,d.2.1.2.2.2.2.2.1,d.2.1.2.2.2.2.2.2.1,d.2.1.2.2.2.2.2.2.2.1,d.2.1.2.2.2.2.2.2.2.2.1,d.2.1.2.2.2.2.2.2.2.2.2.1,d.2.1.2.2.2.2.2.2.2.2.2.2.1,d.2.1.2.2.2.2.2.2.2.2.2.2.2.1,d.2.1.2.2.2.2.2.2.2.2.2.2.2.2.1,d.2.1.2.2.2.2.2.2.2.2.2.2.2.2.2.1,(),()),d.2.2.1,r,()))⟩,
   ⟨⟨.rt,[2],[.p (.i .i64)],[.c 72 [.l 3,.i .i64,.i .i64,.i .i64,.i .i64,.l 3,.i .i64,.l 134,.l 3,.l 124,.l 120,.l 121,.l 3,.l 3,.M 1],.m 3 4,.d]⟩,Int,fun d r=>((r,()),((d.2.1.1,d.2.1.2.1,d.2.1.2.2.1,d.2.1.2.2.2.1,d.2.1.2.2.2.2.1,d.2.1.2.2.2.2.2.1,d.2.1.2.2.2.2.2.2.1,d.2.1.2.2.2.2.2.2.2.1,d.2.1.2.2.2.2.2.2.2.2.1,d.2.1.2.2.2.2.2.2.2.2.2.1,d.2.1.2.2.2.2.2.2.2.2.2.2.1,d.2.1.2.2.2.2.2.2.2.2.2.2.2.1,d.2.1.2.2.2.2.2.2.2.2.2.2.2.2.1,d.2.1.2.2.2.2.2.2.2.2.2.2.2.2.2.1,(),()),d.2.2.1,(),()))⟩],
  fun k d=>LL k (⟨(⟨d.2.1.1,d.2.1.2.1,d.2.1.2.2.1,d.2.1.2.2.2.1,d.2.1.2.2.2.2.1,d.2.1.2.2.2.2.2.1,d.2.1.2.2.2.2.2.2.1⟩:I.aU),(⟨(⟨d.2.1.2.2.2.2.2.2.2.1,d.2.1.2.2.2.2.2.2.2.2.1,d.2.1.2.2.2.2.2.2.2.2.2.1,d.2.1.2.2.2.2.2.2.2.2.2.2.1,d.2.1.2.2.2.2.2.2.2.2.2.2.2.1⟩:I.aH)⟩:I.bM),d.2.1.2.2.2.2.2.2.2.2.2.2.2.2.1,d.2.1.2.2.2.2.2.2.2.2.2.2.2.2.2.1,d.2.2.1⟩:I.bb) d.1.2.2.1 d.2.2.2.1 d.1.2.2.2.2.1 d.1.2.2.2.1⟩
theorem ag_ (F:Nat):(Y0 F).bU.bP ad (B4 F).aM ((B4 F).LE 103) (bR ad.P 103) 0 (bT ad.P 103 0):=a5.b5 (fun d=>df) fun k av aE q h=>by
 obtain ⟨_,_,(aw:List Int),(v1:Int),(v2:Int),_⟩:=av
 obtain ⟨⟨(aV:List Int),(v4:Int),(a6:Int),(v6:Int),(bk:Int),(bn:List Int),(br:Int),(v10:List I.ap),(v11:List Int),(bV:List (List I.Field)),(b9:List (List (List UInt8))),(cl:List (List I.Target)),(c4:List Int),(eG:List Int),_,_⟩,(e9:List (Int × Bool)),(im:List (Int × Bool)),_⟩:=aE
 obtain ⟨aA,_⟩:=dI h
 dsimp only at aA
 obtain ⟨rfl,_⟩:=aA
 conv=>rhs;change Option.map (α:=(List (Int × Bool)) ⊕ Int) _ (LL (k+ 1) (⟨(⟨aV,v4,a6,v6,bk,bn,br⟩:I.aU),(⟨(⟨v10,v11,bV,b9,cl⟩:I.aH)⟩:I.bM),c4,eG,e9⟩:I.bb) aw im v2 (aw.length:Int));rw [<-Pt (k+ 1) (⟨(⟨aV,v4,a6,v6,bk,bn,br⟩:I.aU),(⟨(⟨v10,v11,bV,b9,cl⟩:I.aH)⟩:I.bM),c4,eG,e9⟩:I.bb) aw im v2];simp only [qx,a',Pt];simp only [bY]
 kernel_rfl
noncomputable def B5 (F:Nat):a2 ad:=(B4 F).l 103 0 ((Y0 F).run ad F)
theorem ar9 (ah:aZ ad) (F:Nat) (h:(B4 F).ax):(B5 F).ax:=h.b7 ah rfl (by kernel_rfl) (ag_ F) F
@[reducible] noncomputable def W1 (F:Nat):bS aQ:=⟨[.p (.B 0)],[.c 72 [.l 3,.i .i64,.i .i64,.i .i64,.i .i64,.l 3,.i .i64,.l 134,.l 3,.l 124,.l 120,.l 121,.l 3,.l 3,.M 1],.m 3 4],[.p (.i .i64)],[.c 72 [.l 3,.i .i64,.i .i64,.i .i64,.i .i64,.l 3,.i .i64,.l 134,.l 3,.l 124,.l 120,.l 121,.l 3,.l 3,.M 1],.m 3 4],Int,fun d=>vB F (⟨(⟨d.2.1.1,d.2.1.2.1,d.2.1.2.2.1,d.2.1.2.2.2.1,d.2.1.2.2.2.2.1,d.2.1.2.2.2.2.2.1,d.2.1.2.2.2.2.2.2.1⟩:I.aU),(⟨(⟨d.2.1.2.2.2.2.2.2.2.1,d.2.1.2.2.2.2.2.2.2.2.1,d.2.1.2.2.2.2.2.2.2.2.2.1,d.2.1.2.2.2.2.2.2.2.2.2.2.1,d.2.1.2.2.2.2.2.2.2.2.2.2.2.1⟩:I.aH)⟩:I.bM),d.2.1.2.2.2.2.2.2.2.2.2.2.2.2.1,d.2.1.2.2.2.2.2.2.2.2.2.2.2.2.2.1,d.2.2.1⟩:I.bb),fun d r=>((r,()),((d.2.1.1,d.2.1.2.1,d.2.1.2.2.1,d.2.1.2.2.2.1,d.2.1.2.2.2.2.1,d.2.1.2.2.2.2.2.1,d.2.1.2.2.2.2.2.2.1,d.2.1.2.2.2.2.2.2.2.1,d.2.1.2.2.2.2.2.2.2.2.1,d.2.1.2.2.2.2.2.2.2.2.2.1,d.2.1.2.2.2.2.2.2.2.2.2.2.1,d.2.1.2.2.2.2.2.2.2.2.2.2.2.1,d.2.1.2.2.2.2.2.2.2.2.2.2.2.2.1,d.2.1.2.2.2.2.2.2.2.2.2.2.2.2.2.1,(),()),d.2.2.1,()))⟩
theorem ag9 (F:Nat):(W1 F).Eq ad (B5 F).aM (B5 F).LE 103 :=fun av aE=>by
 obtain ⟨_,_⟩:=av
 obtain ⟨⟨(aw:List Int),(v1:Int),(v2:Int),(aV:Int),(v4:Int),(a6:List Int),(v6:Int),(bk:List I.ap),(bn:List Int),(br:List (List I.Field)),(v10:List (List (List UInt8))),(v11:List (List I.Target)),(bV:List Int),(b9:List Int),_,_⟩,(cl:List (Int × Bool)),_⟩:=aE
 conv=>rhs;change Option.map (α:=Int) _ (vB F (⟨(⟨aw,v1,v2,aV,v4,a6,v6⟩:I.aU),(⟨(⟨bk,bn,br,v10,v11⟩:I.aH)⟩:I.bM),bV,b9,cl⟩:I.bb));simp only [vB,a',Pt]
 kernel_rfl
noncomputable def B6 (F:Nat):a2 ad:=(B5 F).f 103 ((W1 F).run ad)
theorem ar_ (ah:aZ ad) (F:Nat) (h:(B5 F).ax):(B6 F).ax:=h.rt ah rfl (by kernel_rfl) (ag9 F)
@[reducible] noncomputable def WW (_:Nat):bS aQ:=⟨[.a [.l 134,.l 3,.l 124,.l 120,.l 121],.p (.i .i64),.p (.i .i64)],[],[.p (.b)],[],Bool,fun d=>vz (⟨(⟨d.1.1.1,d.1.1.2.1,d.1.1.2.2.1,d.1.1.2.2.2.1,d.1.1.2.2.2.2.1⟩:I.aH)⟩:I.bM) d.1.2.1 d.1.2.2.1,fun _ r=>((r,()),())⟩
theorem ag3 (F:Nat):(WW F).Eq ad (B6 F).aM (B6 F).LE 99 :=fun av aE=>by
 obtain ⟨⟨(aw:List I.ap),(v1:List Int),(v2:List (List I.Field)),(aV:List (List (List UInt8))),(v4:List (List I.Target)),_⟩,(a6:Int),(v6:Int),_⟩:=av
 conv=>rhs;change Option.map (α:=Bool) _ (vz (⟨(⟨aw,v1,v2,aV,v4⟩:I.aH)⟩:I.bM) a6 v6);simp only [vz,a']
 kernel_rfl
noncomputable def B7 (F:Nat):a2 ad:=(B6 F).f 99 ((WW F).run ad)
theorem ar' (ah:aZ ad) (F:Nat) (h:(B6 F).ax):(B7 F).ax:=h.rt ah rfl (by kernel_rfl) (ag3 F)
@[reducible] noncomputable def YZ (_:Nat):a5 aQ:=⟨[0,1,5,15,16],[.p (.B 0),.p (.i .i64),.p (.R 2),.p (.i .i64),.p (.i .i64)],[.c 72 [.l 3,.i .i64,.i .i64,.i .i64,.i .i64,.l 3,.i .i64,.l 134,.l 3,.l 124,.l 120,.l 121,.l 3,.l 3,.M 1],.m 3 4,.r 3 false],
  [⟨⟨.nm,[5],[.p (.R 2)],[.c 72 [.l 3,.i .i64,.i .i64,.i .i64,.i .i64,.l 3,.i .i64,.l 134,.l 3,.l 124,.l 120,.l 121,.l 3,.l 3,.M 1],.m 3 4,.r 3 false]⟩,List Int,fun d r=>(((),()),((d.2.1.1,d.2.1.2.1,d.2.1.2.2.1,d.2.1.2.2.2.1,d.2.1.2.2.2.2.1,d.2.1.2.2.2.2.2.1,d.2.1.2.2.2.2.2.2.1,d.2.1.2.2.2.2.2.2.2.1,d.2.1.2.2.2.2.2.2.2.2.1,d.2.1.2.2.2.2.2.2.2.2.2.1,d.2.1.2.2.2.2.2.2.2.2.2.2.1,d.2.1.2.2.2.2.2.2.2.2.2.2.2.1,d.2.1.2.2.2.2.2.2.2.2.2.2.2.2.1,d.2.1.2.2.2.2.2.2.2.2.2.2.2.2.2.1,(),()),d.2.2.1,r,()))⟩],
  fun k d=>oY d.1.2.1 (⟨(⟨d.2.1.1,d.2.1.2.1,d.2.1.2.2.1,d.2.1.2.2.2.1,d.2.1.2.2.2.2.1,d.2.1.2.2.2.2.2.1,d.2.1.2.2.2.2.2.2.1⟩:I.aU),(⟨(⟨d.2.1.2.2.2.2.2.2.2.1,d.2.1.2.2.2.2.2.2.2.2.1,d.2.1.2.2.2.2.2.2.2.2.2.1,d.2.1.2.2.2.2.2.2.2.2.2.2.1,d.2.1.2.2.2.2.2.2.2.2.2.2.2.1⟩:I.aH)⟩:I.bM),d.2.1.2.2.2.2.2.2.2.2.2.2.2.2.1,d.2.1.2.2.2.2.2.2.2.2.2.2.2.2.2.1,d.2.2.1⟩:I.bb) d.1.2.2.2.1 k d.2.2.2.1 d.1.2.2.2.2.1⟩
theorem ag8 (F:Nat):(YZ F).bU.bP ad (B7 F).aM ((B7 F).LE 134) (bR ad.P 134) 0 (bT ad.P 134 0):=a5.b5 (fun d=>rfl) fun k av aE q h=>by
 obtain ⟨_,(aw:Int),_,(v1:Int),(v2:Int),_⟩:=av
 obtain ⟨⟨(aV:List Int),(v4:Int),(a6:Int),(v6:Int),(bk:Int),(bn:List Int),(br:Int),(v10:List I.ap),(v11:List Int),(bV:List (List I.Field)),(b9:List (List (List UInt8))),(cl:List (List I.Target)),(c4:List Int),(eG:List Int),_,_⟩,(e9:List (Int × Bool)),(im:List Int),_⟩:=aE
 conv=>rhs;change Option.map (α:=List Int) _ (oY aw (⟨(⟨aV,v4,a6,v6,bk,bn,br⟩:I.aU),(⟨(⟨v10,v11,bV,b9,cl⟩:I.aH)⟩:I.bM),c4,eG,e9⟩:I.bb) v1 (k+ 1) im v2);simp only [oY,a'];simp only [bY]
 kernel_rfl
noncomputable def B9 (F:Nat):a2 ad:=(B7 F).l 134 0 ((YZ F).run ad F)
theorem asb (ah:aZ ad) (F:Nat) (h:(B7 F).ax):(B9 F).ax:=h.b7 ah rfl (by kernel_rfl) (ag8 F) F
@[reducible] noncomputable def W0 (F:Nat):bS aQ:=⟨[.p (.B 0),.p (.i .i64)],[.c 72 [.l 3,.i .i64,.i .i64,.i .i64,.i .i64,.l 3,.i .i64,.l 134,.l 3,.l 124,.l 120,.l 121,.l 3,.l 3,.M 1],.m 3 4],[.p (.l 3)],[.c 72 [.l 3,.i .i64,.i .i64,.i .i64,.i .i64,.l 3,.i .i64,.l 134,.l 3,.l 124,.l 120,.l 121,.l 3,.l 3,.M 1],.m 3 4],List Int,fun d=>lB F (⟨(⟨d.2.1.1,d.2.1.2.1,d.2.1.2.2.1,d.2.1.2.2.2.1,d.2.1.2.2.2.2.1,d.2.1.2.2.2.2.2.1,d.2.1.2.2.2.2.2.2.1⟩:I.aU),(⟨(⟨d.2.1.2.2.2.2.2.2.2.1,d.2.1.2.2.2.2.2.2.2.2.1,d.2.1.2.2.2.2.2.2.2.2.2.1,d.2.1.2.2.2.2.2.2.2.2.2.2.1,d.2.1.2.2.2.2.2.2.2.2.2.2.2.1⟩:I.aH)⟩:I.bM),d.2.1.2.2.2.2.2.2.2.2.2.2.2.2.1,d.2.1.2.2.2.2.2.2.2.2.2.2.2.2.2.1,d.2.2.1⟩:I.bb) d.1.2.1,fun d r=>((r,()),((d.2.1.1,d.2.1.2.1,d.2.1.2.2.1,d.2.1.2.2.2.1,d.2.1.2.2.2.2.1,d.2.1.2.2.2.2.2.1,d.2.1.2.2.2.2.2.2.1,d.2.1.2.2.2.2.2.2.2.1,d.2.1.2.2.2.2.2.2.2.2.1,d.2.1.2.2.2.2.2.2.2.2.2.1,d.2.1.2.2.2.2.2.2.2.2.2.2.1,d.2.1.2.2.2.2.2.2.2.2.2.2.2.1,d.2.1.2.2.2.2.2.2.2.2.2.2.2.2.1,d.2.1.2.2.2.2.2.2.2.2.2.2.2.2.2.1,(),()),d.2.2.1,()))⟩
theorem ag7 (F:Nat):(W0 F).Eq ad (B9 F).aM (B9 F).LE 134 :=fun av aE=>by
 obtain ⟨_,(aw:Int),_⟩:=av
 obtain ⟨⟨(v1:List Int),(v2:Int),(aV:Int),(v4:Int),(a6:Int),(v6:List Int),(bk:Int),(bn:List I.ap),(br:List Int),(v10:List (List I.Field)),(v11:List (List (List UInt8))),(bV:List (List I.Target)),(b9:List Int),(cl:List Int),_,_⟩,(c4:List (Int × Bool)),_⟩:=aE
 conv=>rhs;change Option.map (α:=List Int) _ (lB F (⟨(⟨v1,v2,aV,v4,a6,v6,bk⟩:I.aU),(⟨(⟨bn,br,v10,v11,bV⟩:I.aH)⟩:I.bM),b9,cl,c4⟩:I.bb) aw);simp only [lB,a']
 kernel_rfl
noncomputable def B_ (F:Nat):a2 ad:=(B9 F).f 134 ((W0 F).run ad)
theorem asc (ah:aZ ad) (F:Nat) (h:(B9 F).ax):(B_ F).ax:=h.rt ah rfl (by kernel_rfl) (ag7 F)
@[reducible] noncomputable def W6 (_:Nat):bS aQ:=⟨[.p (.i .i64)],[],[.p (.b)],[],Bool,fun d=>G5 d.1.1,fun _ r=>((r,()),())⟩
theorem ahg (F:Nat):(W6 F).Eq ad (B_ F).aM (B_ F).LE 136 :=fun av aE=>by
 obtain ⟨(aw:Int),_⟩:=av
 conv=>rhs;change Option.map (α:=Bool) _ (G5 aw);simp only [G5,a']
 kernel_rfl
noncomputable def Ca (F:Nat):a2 ad:=(B_ F).f 136 ((W6 F).run ad)
theorem asd (ah:aZ ad) (F:Nat) (h:(B_ F).ax):(Ca F).ax:=h.rt ah rfl (by kernel_rfl) (ahg F)
@[reducible] noncomputable def WZ (_:Nat):bS aQ:=⟨[.p (.B 0),.p (.i .i64)],[.c 72 [.l 3,.i .i64,.i .i64,.i .i64,.i .i64,.l 3,.i .i64,.l 134,.l 3,.l 124,.l 120,.l 121,.l 3,.l 3,.M 1],.m 3 4],[.p (.b)],[.c 72 [.l 3,.i .i64,.i .i64,.i .i64,.i .i64,.l 3,.i .i64,.l 134,.l 3,.l 124,.l 120,.l 121,.l 3,.l 3,.M 1],.m 3 4],Bool,fun d=>vA (⟨(⟨d.2.1.1,d.2.1.2.1,d.2.1.2.2.1,d.2.1.2.2.2.1,d.2.1.2.2.2.2.1,d.2.1.2.2.2.2.2.1,d.2.1.2.2.2.2.2.2.1⟩:I.aU),(⟨(⟨d.2.1.2.2.2.2.2.2.2.1,d.2.1.2.2.2.2.2.2.2.2.1,d.2.1.2.2.2.2.2.2.2.2.2.1,d.2.1.2.2.2.2.2.2.2.2.2.2.1,d.2.1.2.2.2.2.2.2.2.2.2.2.2.1⟩:I.aH)⟩:I.bM),d.2.1.2.2.2.2.2.2.2.2.2.2.2.2.1,d.2.1.2.2.2.2.2.2.2.2.2.2.2.2.2.1,d.2.2.1⟩:I.bb) d.1.2.1,fun d r=>((r,()),((d.2.1.1,d.2.1.2.1,d.2.1.2.2.1,d.2.1.2.2.2.1,d.2.1.2.2.2.2.1,d.2.1.2.2.2.2.2.1,d.2.1.2.2.2.2.2.2.1,d.2.1.2.2.2.2.2.2.2.1,d.2.1.2.2.2.2.2.2.2.2.1,d.2.1.2.2.2.2.2.2.2.2.2.1,d.2.1.2.2.2.2.2.2.2.2.2.2.1,d.2.1.2.2.2.2.2.2.2.2.2.2.2.1,d.2.1.2.2.2.2.2.2.2.2.2.2.2.2.1,d.2.1.2.2.2.2.2.2.2.2.2.2.2.2.2.1,(),()),d.2.2.1,()))⟩
theorem ag6 (F:Nat):(WZ F).Eq ad (Ca F).aM (Ca F).LE 137 :=fun av aE=>by
 obtain ⟨_,(aw:Int),_⟩:=av
 obtain ⟨⟨(v1:List Int),(v2:Int),(aV:Int),(v4:Int),(a6:Int),(v6:List Int),(bk:Int),(bn:List I.ap),(br:List Int),(v10:List (List I.Field)),(v11:List (List (List UInt8))),(bV:List (List I.Target)),(b9:List Int),(cl:List Int),_,_⟩,(c4:List (Int × Bool)),_⟩:=aE
 conv=>rhs;change Option.map (α:=Bool) _ (vA (⟨(⟨v1,v2,aV,v4,a6,v6,bk⟩:I.aU),(⟨(⟨bn,br,v10,v11,bV⟩:I.aH)⟩:I.bM),b9,cl,c4⟩:I.bb) aw);simp only [vA,a']
 kernel_rfl
noncomputable def Cb (F:Nat):a2 ad:=(Ca F).f 137 ((WZ F).run ad)
theorem ase (ah:aZ ad) (F:Nat) (h:(Ca F).ax):(Cb F).ax:=h.rt ah rfl (by kernel_rfl) (ag6 F)
@[reducible] noncomputable def W3 (_:Nat):bS aQ:=⟨[.p (.i .i64),.p (.B 0)],[.c 60 [.B 1],.c 72 [.l 3,.i .i64,.i .i64,.i .i64,.i .i64,.l 3,.i .i64,.l 134,.l 3,.l 124,.l 120,.l 121,.l 3,.l 3,.M 2],.m 3 4],[.p (.b)],[.c 60 [.B 1],.c 72 [.l 3,.i .i64,.i .i64,.i .i64,.i .i64,.l 3,.i .i64,.l 134,.l 3,.l 124,.l 120,.l 121,.l 3,.l 3,.M 2],.m 3 4],Bool,fun d=>Dh d.1.1 (⟨(⟨d.2.2.1.1,d.2.2.1.2.1,d.2.2.1.2.2.1,d.2.2.1.2.2.2.1,d.2.2.1.2.2.2.2.1,d.2.2.1.2.2.2.2.2.1,d.2.2.1.2.2.2.2.2.2.1⟩:I.aU),(⟨(⟨d.2.2.1.2.2.2.2.2.2.2.1,d.2.2.1.2.2.2.2.2.2.2.2.1,d.2.2.1.2.2.2.2.2.2.2.2.2.1,d.2.2.1.2.2.2.2.2.2.2.2.2.2.1,d.2.2.1.2.2.2.2.2.2.2.2.2.2.2.1⟩:I.aH)⟩:I.bM),d.2.2.1.2.2.2.2.2.2.2.2.2.2.2.2.1,d.2.2.1.2.2.2.2.2.2.2.2.2.2.2.2.2.1,d.2.2.2.1⟩:I.bb),fun d r=>((r,()),(((),()),(d.2.2.1.1,d.2.2.1.2.1,d.2.2.1.2.2.1,d.2.2.1.2.2.2.1,d.2.2.1.2.2.2.2.1,d.2.2.1.2.2.2.2.2.1,d.2.2.1.2.2.2.2.2.2.1,d.2.2.1.2.2.2.2.2.2.2.1,d.2.2.1.2.2.2.2.2.2.2.2.1,d.2.2.1.2.2.2.2.2.2.2.2.2.1,d.2.2.1.2.2.2.2.2.2.2.2.2.2.1,d.2.2.1.2.2.2.2.2.2.2.2.2.2.2.1,d.2.2.1.2.2.2.2.2.2.2.2.2.2.2.2.1,d.2.2.1.2.2.2.2.2.2.2.2.2.2.2.2.2.1,(),()),d.2.2.2.1,()))⟩
theorem aha (F:Nat):(W3 F).Eq ad (Cb F).aM (Cb F).LE 139 :=fun av aE=>by
 obtain ⟨(aw:Int),_,_⟩:=av
 obtain ⟨⟨_,_⟩,⟨(v1:List Int),(v2:Int),(aV:Int),(v4:Int),(a6:Int),(v6:List Int),(bk:Int),(bn:List I.ap),(br:List Int),(v10:List (List I.Field)),(v11:List (List (List UInt8))),(bV:List (List I.Target)),(b9:List Int),(cl:List Int),_,_⟩,(c4:List (Int × Bool)),_⟩:=aE
 conv=>rhs;change Option.map (α:=Bool) _ (Dh aw (⟨(⟨v1,v2,aV,v4,a6,v6,bk⟩:I.aU),(⟨(⟨bn,br,v10,v11,bV⟩:I.aH)⟩:I.bM),b9,cl,c4⟩:I.bb));simp only [Dh,a']
 kernel_rfl
noncomputable def Cc (F:Nat):a2 ad:=(Cb F).f 139 ((W3 F).run ad)
theorem asf (ah:aZ ad) (F:Nat) (h:(Cb F).ax):(Cc F).ax:=h.rt ah rfl (by kernel_rfl) (aha F)
@[reducible] noncomputable def WY (_:Nat):bS aQ:=⟨[.p (.B 0),.p (.i .i64)],[.c 72 [.l 3,.i .i64,.i .i64,.i .i64,.i .i64,.l 3,.i .i64,.l 134,.l 3,.l 124,.l 120,.l 121,.l 3,.l 3,.M 1],.m 3 4],[.p (.b)],[.c 72 [.l 3,.i .i64,.i .i64,.i .i64,.i .i64,.l 3,.i .i64,.l 134,.l 3,.l 124,.l 120,.l 121,.l 3,.l 3,.M 1],.m 3 4],Bool,fun d=>x2 (⟨(⟨d.2.1.1,d.2.1.2.1,d.2.1.2.2.1,d.2.1.2.2.2.1,d.2.1.2.2.2.2.1,d.2.1.2.2.2.2.2.1,d.2.1.2.2.2.2.2.2.1⟩:I.aU),(⟨(⟨d.2.1.2.2.2.2.2.2.2.1,d.2.1.2.2.2.2.2.2.2.2.1,d.2.1.2.2.2.2.2.2.2.2.2.1,d.2.1.2.2.2.2.2.2.2.2.2.2.1,d.2.1.2.2.2.2.2.2.2.2.2.2.2.1⟩:I.aH)⟩:I.bM),d.2.1.2.2.2.2.2.2.2.2.2.2.2.2.1,d.2.1.2.2.2.2.2.2.2.2.2.2.2.2.2.1,d.2.2.1⟩:I.bb) d.1.2.1,fun d r=>((r,()),((d.2.1.1,d.2.1.2.1,d.2.1.2.2.1,d.2.1.2.2.2.1,d.2.1.2.2.2.2.1,d.2.1.2.2.2.2.2.1,d.2.1.2.2.2.2.2.2.1,d.2.1.2.2.2.2.2.2.2.1,d.2.1.2.2.2.2.2.2.2.2.1,d.2.1.2.2.2.2.2.2.2.2.2.1,d.2.1.2.2.2.2.2.2.2.2.2.2.1,d.2.1.2.2.2.2.2.2.2.2.2.2.2.1,d.2.1.2.2.2.2.2.2.2.2.2.2.2.2.1,d.2.1.2.2.2.2.2.2.2.2.2.2.2.2.2.1,(),()),d.2.2.1,()))⟩
theorem ag5 (F:Nat):(WY F).Eq ad (Cc F).aM (Cc F).LE 68 :=fun av aE=>by
 obtain ⟨_,(aw:Int),_⟩:=av
 obtain ⟨⟨(v1:List Int),(v2:Int),(aV:Int),(v4:Int),(a6:Int),(v6:List Int),(bk:Int),(bn:List I.ap),(br:List Int),(v10:List (List I.Field)),(v11:List (List (List UInt8))),(bV:List (List I.Target)),(b9:List Int),(cl:List Int),_,_⟩,(c4:List (Int × Bool)),_⟩:=aE
 conv=>rhs;change Option.map (α:=Bool) _ (x2 (⟨(⟨v1,v2,aV,v4,a6,v6,bk⟩:I.aU),(⟨(⟨bn,br,v10,v11,bV⟩:I.aH)⟩:I.bM),b9,cl,c4⟩:I.bb) aw);simp only [x2,a']
 kernel_rfl
noncomputable def Cd (F:Nat):a2 ad:=(Cc F).f 68 ((WY F).run ad)
theorem asg (ah:aZ ad) (F:Nat) (h:(Cc F).ax):(Cd F).ax:=h.rt ah rfl (by kernel_rfl) (ag5 F)
@[reducible] noncomputable def XQ (_:Nat):bS aQ:=⟨[.p (.i .i64),.p (.B 0)],[.c 60 [.B 1],.c 72 [.l 3,.i .i64,.i .i64,.i .i64,.i .i64,.l 3,.i .i64,.l 134,.l 3,.l 124,.l 120,.l 121,.l 3,.l 3,.M 2],.m 3 4],[.p (.b)],[.c 60 [.B 1],.c 72 [.l 3,.i .i64,.i .i64,.i .i64,.i .i64,.l 3,.i .i64,.l 134,.l 3,.l 124,.l 120,.l 121,.l 3,.l 3,.M 2],.m 3 4],Bool,fun d=>JS d.1.1 (⟨(⟨d.2.2.1.1,d.2.2.1.2.1,d.2.2.1.2.2.1,d.2.2.1.2.2.2.1,d.2.2.1.2.2.2.2.1,d.2.2.1.2.2.2.2.2.1,d.2.2.1.2.2.2.2.2.2.1⟩:I.aU),(⟨(⟨d.2.2.1.2.2.2.2.2.2.2.1,d.2.2.1.2.2.2.2.2.2.2.2.1,d.2.2.1.2.2.2.2.2.2.2.2.2.1,d.2.2.1.2.2.2.2.2.2.2.2.2.2.1,d.2.2.1.2.2.2.2.2.2.2.2.2.2.2.1⟩:I.aH)⟩:I.bM),d.2.2.1.2.2.2.2.2.2.2.2.2.2.2.2.1,d.2.2.1.2.2.2.2.2.2.2.2.2.2.2.2.2.1,d.2.2.2.1⟩:I.bb),fun d r=>((r,()),(((),()),(d.2.2.1.1,d.2.2.1.2.1,d.2.2.1.2.2.1,d.2.2.1.2.2.2.1,d.2.2.1.2.2.2.2.1,d.2.2.1.2.2.2.2.2.1,d.2.2.1.2.2.2.2.2.2.1,d.2.2.1.2.2.2.2.2.2.2.1,d.2.2.1.2.2.2.2.2.2.2.2.1,d.2.2.1.2.2.2.2.2.2.2.2.2.1,d.2.2.1.2.2.2.2.2.2.2.2.2.2.1,d.2.2.1.2.2.2.2.2.2.2.2.2.2.2.1,d.2.2.1.2.2.2.2.2.2.2.2.2.2.2.2.1,d.2.2.1.2.2.2.2.2.2.2.2.2.2.2.2.2.1,(),()),d.2.2.2.1,()))⟩
theorem aiH (F:Nat):(XQ F).Eq ad (Cd F).aM (Cd F).LE 67 :=fun av aE=>by
 obtain ⟨(aw:Int),_,_⟩:=av
 obtain ⟨⟨_,_⟩,⟨(v1:List Int),(v2:Int),(aV:Int),(v4:Int),(a6:Int),(v6:List Int),(bk:Int),(bn:List I.ap),(br:List Int),(v10:List (List I.Field)),(v11:List (List (List UInt8))),(bV:List (List I.Target)),(b9:List Int),(cl:List Int),_,_⟩,(c4:List (Int × Bool)),_⟩:=aE
 conv=>rhs;change Option.map (α:=Bool) _ (JS aw (⟨(⟨v1,v2,aV,v4,a6,v6,bk⟩:I.aU),(⟨(⟨bn,br,v10,v11,bV⟩:I.aH)⟩:I.bM),b9,cl,c4⟩:I.bb));simp only [JS,a']
 kernel_rfl
noncomputable def Cf (F:Nat):a2 ad:=(Cd F).f 67 ((XQ F).run ad)
theorem ash (ah:aZ ad) (F:Nat) (h:(Cd F).ax):(Cf F).ax:=h.rt ah rfl (by kernel_rfl) (aiH F)
noncomputable def Ms (k:Nat) (s_:List Int) (rj:Int) (ao:Int):=c2 ((s_.length:Int)=ao/\True) (a4 (uu s_ k rj))
theorem P_ (k:Nat) (s_:List Int) (rj:Int):a4 (uu s_ k rj)=Ms k s_ rj (s_.length:Int):=(dg ⟨rfl,trivial⟩).symm
@[reducible] noncomputable def ZK (_:Nat):a5 aQ:=⟨[0,1,7,8],[.p (.l 3),.f 136 [],.p (.i .i64),.p (.i .i64)],[],
  [⟨⟨.nm,[],[],[]⟩,Unit,fun _ _=>((),())⟩,
   ⟨⟨.rt,[4],[.p (.i .i64)],[]⟩,Int,fun _ r=>((r,()),())⟩],
  fun k d=>Ms k d.1.1 d.1.2.2.2.1 d.1.2.2.1⟩
theorem aiA (F:Nat):(ZK F).bU.bP ad (Cf F).aM ((Cf F).LE 106) (bR ad.P 106) 0 (bT ad.P 106 0):=a5.b5 (fun d=>df) fun k av aE q h=>by
 obtain ⟨(aw:List Int),_,(v1:Int),(v2:Int),_⟩:=av
 obtain ⟨aA,_⟩:=dI h
 dsimp only at aA
 obtain ⟨rfl,_⟩:=aA
 conv=>rhs;change Option.map (α:=Unit ⊕ Int) _ (Ms (k+ 1) aw v2 (aw.length:Int));rw [<-P_ (k+ 1) aw v2];simp only [uu,a',P_];simp only [bY]
 kernel_rfl
noncomputable def Cg (F:Nat):a2 ad:=(Cf F).l 106 0 ((ZK F).run ad F)
theorem asi (ah:aZ ad) (F:Nat) (h:(Cf F).ax):(Cg F).ax:=h.b7 ah rfl (by kernel_rfl) (aiA F) F
@[reducible] noncomputable def XK (F:Nat):bS aQ:=⟨[.p (.l 3),.f 136 []],[],[.p (.i .i64)],[],Int,fun d=>E1 F d.1.1,fun _ r=>((r,()),())⟩
theorem aiz (F:Nat):(XK F).Eq ad (Cg F).aM (Cg F).LE 106 :=fun av aE=>by
 obtain ⟨(aw:List Int),_,_⟩:=av
 conv=>rhs;change Option.map (α:=Int) _ (E1 F aw);simp only [E1,a',P_]
 kernel_rfl
noncomputable def Ch (F:Nat):a2 ad:=(Cg F).f 106 ((XK F).run ad)
theorem asj (ah:aZ ad) (F:Nat) (h:(Cg F).ax):(Ch F).ax:=h.rt ah rfl (by kernel_rfl) (aiz F)
noncomputable def Mr (k:Nat) (s_:List Int) (cy:I.bb) (ii:Int) (ao:Int):=c2 ((s_.length:Int)=ao/\True) (a4 (ur s_ cy k ii))
theorem P9 (k:Nat) (s_:List Int) (cy:I.bb) (ii:Int):a4 (ur s_ cy k ii)=Mr k s_ cy ii (s_.length:Int):=(dg ⟨rfl,trivial⟩).symm
@[reducible] noncomputable def ZJ (_:Nat):a5 aQ:=⟨[0,1,7,8],[.p (.l 3),.f 139 [.B 0],.p (.i .i64),.p (.i .i64)],[.c 60 [.B 1],.c 72 [.l 3,.i .i64,.i .i64,.i .i64,.i .i64,.l 3,.i .i64,.l 134,.l 3,.l 124,.l 120,.l 121,.l 3,.l 3,.M 2],.m 3 4],
  [⟨⟨.nm,[],[],[.c 60 [.B 1],.c 72 [.l 3,.i .i64,.i .i64,.i .i64,.i .i64,.l 3,.i .i64,.l 134,.l 3,.l 124,.l 120,.l 121,.l 3,.l 3,.M 2],.m 3 4]⟩,Unit,fun d _=>((),(((),()),(d.2.2.1.1,d.2.2.1.2.1,d.2.2.1.2.2.1,d.2.2.1.2.2.2.1,d.2.2.1.2.2.2.2.1,d.2.2.1.2.2.2.2.2.1,d.2.2.1.2.2.2.2.2.2.1,d.2.2.1.2.2.2.2.2.2.2.1,d.2.2.1.2.2.2.2.2.2.2.2.1,d.2.2.1.2.2.2.2.2.2.2.2.2.1,d.2.2.1.2.2.2.2.2.2.2.2.2.2.1,d.2.2.1.2.2.2.2.2.2.2.2.2.2.2.1,d.2.2.1.2.2.2.2.2.2.2.2.2.2.2.2.1,d.2.2.1.2.2.2.2.2.2.2.2.2.2.2.2.2.1,(),()),d.2.2.2.1,()))⟩,
   ⟨⟨.rt,[4],[.p (.i .i64)],[.c 60 [.B 1],.c 72 [.l 3,.i .i64,.i .i64,.i .i64,.i .i64,.l 3,.i .i64,.l 134,.l 3,.l 124,.l 120,.l 121,.l 3,.l 3,.M 2],.m 3 4]⟩,Int,fun d r=>((r,()),(((),()),(d.2.2.1.1,d.2.2.1.2.1,d.2.2.1.2.2.1,d.2.2.1.2.2.2.1,d.2.2.1.2.2.2.2.1,d.2.2.1.2.2.2.2.2.1,d.2.2.1.2.2.2.2.2.2.1,d.2.2.1.2.2.2.2.2.2.2.1,d.2.2.1.2.2.2.2.2.2.2.2.1,d.2.2.1.2.2.2.2.2.2.2.2.2.1,d.2.2.1.2.2.2.2.2.2.2.2.2.2.1,d.2.2.1.2.2.2.2.2.2.2.2.2.2.2.1,d.2.2.1.2.2.2.2.2.2.2.2.2.2.2.2.1,d.2.2.1.2.2.2.2.2.2.2.2.2.2.2.2.2.1,(),()),d.2.2.2.1,()))⟩],
  fun k d=>Mr k d.1.1 (⟨(⟨d.2.2.1.1,d.2.2.1.2.1,d.2.2.1.2.2.1,d.2.2.1.2.2.2.1,d.2.2.1.2.2.2.2.1,d.2.2.1.2.2.2.2.2.1,d.2.2.1.2.2.2.2.2.2.1⟩:I.aU),(⟨(⟨d.2.2.1.2.2.2.2.2.2.2.1,d.2.2.1.2.2.2.2.2.2.2.2.1,d.2.2.1.2.2.2.2.2.2.2.2.2.1,d.2.2.1.2.2.2.2.2.2.2.2.2.2.1,d.2.2.1.2.2.2.2.2.2.2.2.2.2.2.1⟩:I.aH)⟩:I.bM),d.2.2.1.2.2.2.2.2.2.2.2.2.2.2.2.1,d.2.2.1.2.2.2.2.2.2.2.2.2.2.2.2.2.1,d.2.2.2.1⟩:I.bb) d.1.2.2.2.1 d.1.2.2.1⟩
theorem aiy (F:Nat):(ZJ F).bU.bP ad (Ch F).aM ((Ch F).LE 106) (bR ad.P 106) 0 (bT ad.P 106 0):=a5.b5 (fun d=>df) fun k av aE q h=>by
 obtain ⟨(aw:List Int),⟨_,_⟩,(v1:Int),(v2:Int),_⟩:=av
 obtain ⟨⟨_,_⟩,⟨(aV:List Int),(v4:Int),(a6:Int),(v6:Int),(bk:Int),(bn:List Int),(br:Int),(v10:List I.ap),(v11:List Int),(bV:List (List I.Field)),(b9:List (List (List UInt8))),(cl:List (List I.Target)),(c4:List Int),(eG:List Int),_,_⟩,(e9:List (Int × Bool)),_⟩:=aE
 obtain ⟨aA,_⟩:=dI h
 dsimp only at aA
 obtain ⟨rfl,_⟩:=aA
 conv=>rhs;change Option.map (α:=Unit ⊕ Int) _ (Mr (k+ 1) aw (⟨(⟨aV,v4,a6,v6,bk,bn,br⟩:I.aU),(⟨(⟨v10,v11,bV,b9,cl⟩:I.aH)⟩:I.bM),c4,eG,e9⟩:I.bb) v2 (aw.length:Int));rw [<-P9 (k+ 1) aw (⟨(⟨aV,v4,a6,v6,bk,bn,br⟩:I.aU),(⟨(⟨v10,v11,bV,b9,cl⟩:I.aH)⟩:I.bM),c4,eG,e9⟩:I.bb) v2];simp only [ur,a',P9];simp only [bY]
 kernel_rfl
noncomputable def Ci (F:Nat):a2 ad:=(Ch F).Ol 106 0 (ZJ F) F
theorem asl (ah:aZ ad) (F:Nat) (h:(Ch F).ax):(Ci F).ax:=h.ZV ah rfl (by kernel_rfl) (aiy F) F
@[reducible] noncomputable def XJ (F:Nat):bS aQ:=⟨[.p (.l 3),.f 139 [.B 0]],[.c 60 [.B 1],.c 72 [.l 3,.i .i64,.i .i64,.i .i64,.i .i64,.l 3,.i .i64,.l 134,.l 3,.l 124,.l 120,.l 121,.l 3,.l 3,.M 2],.m 3 4],[.p (.i .i64)],[.c 60 [.B 1],.c 72 [.l 3,.i .i64,.i .i64,.i .i64,.i .i64,.l 3,.i .i64,.l 134,.l 3,.l 124,.l 120,.l 121,.l 3,.l 3,.M 2],.m 3 4],Int,fun d=>E0 F d.1.1 (⟨(⟨d.2.2.1.1,d.2.2.1.2.1,d.2.2.1.2.2.1,d.2.2.1.2.2.2.1,d.2.2.1.2.2.2.2.1,d.2.2.1.2.2.2.2.2.1,d.2.2.1.2.2.2.2.2.2.1⟩:I.aU),(⟨(⟨d.2.2.1.2.2.2.2.2.2.2.1,d.2.2.1.2.2.2.2.2.2.2.2.1,d.2.2.1.2.2.2.2.2.2.2.2.2.1,d.2.2.1.2.2.2.2.2.2.2.2.2.2.1,d.2.2.1.2.2.2.2.2.2.2.2.2.2.2.1⟩:I.aH)⟩:I.bM),d.2.2.1.2.2.2.2.2.2.2.2.2.2.2.2.1,d.2.2.1.2.2.2.2.2.2.2.2.2.2.2.2.2.1,d.2.2.2.1⟩:I.bb),fun d r=>((r,()),(((),()),(d.2.2.1.1,d.2.2.1.2.1,d.2.2.1.2.2.1,d.2.2.1.2.2.2.1,d.2.2.1.2.2.2.2.1,d.2.2.1.2.2.2.2.2.1,d.2.2.1.2.2.2.2.2.2.1,d.2.2.1.2.2.2.2.2.2.2.1,d.2.2.1.2.2.2.2.2.2.2.2.1,d.2.2.1.2.2.2.2.2.2.2.2.2.1,d.2.2.1.2.2.2.2.2.2.2.2.2.2.1,d.2.2.1.2.2.2.2.2.2.2.2.2.2.2.1,d.2.2.1.2.2.2.2.2.2.2.2.2.2.2.2.1,d.2.2.1.2.2.2.2.2.2.2.2.2.2.2.2.2.1,(),()),d.2.2.2.1,()))⟩
theorem aix (F:Nat):(XJ F).Eq ad (Ci F).aM (Ci F).LE 106 :=fun av aE=>by
 obtain ⟨(aw:List Int),⟨_,_⟩,_⟩:=av
 obtain ⟨⟨_,_⟩,⟨(v1:List Int),(v2:Int),(aV:Int),(v4:Int),(a6:Int),(v6:List Int),(bk:Int),(bn:List I.ap),(br:List Int),(v10:List (List I.Field)),(v11:List (List (List UInt8))),(bV:List (List I.Target)),(b9:List Int),(cl:List Int),_,_⟩,(c4:List (Int × Bool)),_⟩:=aE
 conv=>rhs;change Option.map (α:=Int) _ (E0 F aw (⟨(⟨v1,v2,aV,v4,a6,v6,bk⟩:I.aU),(⟨(⟨bn,br,v10,v11,bV⟩:I.aH)⟩:I.bM),b9,cl,c4⟩:I.bb));simp only [E0,a',P9]
 kernel_rfl
noncomputable def Ck (F:Nat):a2 ad:=(Ci F).CY 106 (XJ F)
theorem asn (ah:aZ ad) (F:Nat) (h:(Ci F).ax):(Ck F).ax:=h.Gy ah rfl (by kernel_rfl) (aix F)
noncomputable def Mt (k:Nat) (s_:List Int) (cy:I.bb) (ii:Int) (ao:Int):=c2 ((s_.length:Int)=ao/\True) (a4 (E2 s_ cy k ii))
theorem P' (k:Nat) (s_:List Int) (cy:I.bb) (ii:Int):a4 (E2 s_ cy k ii)=Mt k s_ cy ii (s_.length:Int):=(dg ⟨rfl,trivial⟩).symm
@[reducible] noncomputable def ZL (_:Nat):a5 aQ:=⟨[0,1,7,8],[.p (.l 3),.f 67 [.B 0],.p (.i .i64),.p (.i .i64)],[.c 60 [.B 1],.c 72 [.l 3,.i .i64,.i .i64,.i .i64,.i .i64,.l 3,.i .i64,.l 134,.l 3,.l 124,.l 120,.l 121,.l 3,.l 3,.M 2],.m 3 4],
  [⟨⟨.nm,[],[],[.c 60 [.B 1],.c 72 [.l 3,.i .i64,.i .i64,.i .i64,.i .i64,.l 3,.i .i64,.l 134,.l 3,.l 124,.l 120,.l 121,.l 3,.l 3,.M 2],.m 3 4]⟩,Unit,fun d _=>((),(((),()),(d.2.2.1.1,d.2.2.1.2.1,d.2.2.1.2.2.1,d.2.2.1.2.2.2.1,d.2.2.1.2.2.2.2.1,d.2.2.1.2.2.2.2.2.1,d.2.2.1.2.2.2.2.2.2.1,d.2.2.1.2.2.2.2.2.2.2.1,d.2.2.1.2.2.2.2.2.2.2.2.1,d.2.2.1.2.2.2.2.2.2.2.2.2.1,d.2.2.1.2.2.2.2.2.2.2.2.2.2.1,d.2.2.1.2.2.2.2.2.2.2.2.2.2.2.1,d.2.2.1.2.2.2.2.2.2.2.2.2.2.2.2.1,d.2.2.1.2.2.2.2.2.2.2.2.2.2.2.2.2.1,(),()),d.2.2.2.1,()))⟩,
   ⟨⟨.rt,[4],[.p (.i .i64)],[.c 60 [.B 1],.c 72 [.l 3,.i .i64,.i .i64,.i .i64,.i .i64,.l 3,.i .i64,.l 134,.l 3,.l 124,.l 120,.l 121,.l 3,.l 3,.M 2],.m 3 4]⟩,Int,fun d r=>((r,()),(((),()),(d.2.2.1.1,d.2.2.1.2.1,d.2.2.1.2.2.1,d.2.2.1.2.2.2.1,d.2.2.1.2.2.2.2.1,d.2.2.1.2.2.2.2.2.1,d.2.2.1.2.2.2.2.2.2.1,d.2.2.1.2.2.2.2.2.2.2.1,d.2.2.1.2.2.2.2.2.2.2.2.1,d.2.2.1.2.2.2.2.2.2.2.2.2.1,d.2.2.1.2.2.2.2.2.2.2.2.2.2.1,d.2.2.1.2.2.2.2.2.2.2.2.2.2.2.1,d.2.2.1.2.2.2.2.2.2.2.2.2.2.2.2.1,d.2.2.1.2.2.2.2.2.2.2.2.2.2.2.2.2.1,(),()),d.2.2.2.1,()))⟩],
  fun k d=>Mt k d.1.1 (⟨(⟨d.2.2.1.1,d.2.2.1.2.1,d.2.2.1.2.2.1,d.2.2.1.2.2.2.1,d.2.2.1.2.2.2.2.1,d.2.2.1.2.2.2.2.2.1,d.2.2.1.2.2.2.2.2.2.1⟩:I.aU),(⟨(⟨d.2.2.1.2.2.2.2.2.2.2.1,d.2.2.1.2.2.2.2.2.2.2.2.1,d.2.2.1.2.2.2.2.2.2.2.2.2.1,d.2.2.1.2.2.2.2.2.2.2.2.2.2.1,d.2.2.1.2.2.2.2.2.2.2.2.2.2.2.1⟩:I.aH)⟩:I.bM),d.2.2.1.2.2.2.2.2.2.2.2.2.2.2.2.1,d.2.2.1.2.2.2.2.2.2.2.2.2.2.2.2.2.1,d.2.2.2.1⟩:I.bb) d.1.2.2.2.1 d.1.2.2.1⟩
theorem aiC (F:Nat):(ZL F).bU.bP ad (Ck F).aM ((Ck F).LE 106) (bR ad.P 106) 0 (bT ad.P 106 0):=a5.b5 (fun d=>df) fun k av aE q h=>by
 obtain ⟨(aw:List Int),⟨_,_⟩,(v1:Int),(v2:Int),_⟩:=av
 obtain ⟨⟨_,_⟩,⟨(aV:List Int),(v4:Int),(a6:Int),(v6:Int),(bk:Int),(bn:List Int),(br:Int),(v10:List I.ap),(v11:List Int),(bV:List (List I.Field)),(b9:List (List (List UInt8))),(cl:List (List I.Target)),(c4:List Int),(eG:List Int),_,_⟩,(e9:List (Int × Bool)),_⟩:=aE
 obtain ⟨aA,_⟩:=dI h
 dsimp only at aA
 obtain ⟨rfl,_⟩:=aA
 conv=>rhs;change Option.map (α:=Unit ⊕ Int) _ (Mt (k+ 1) aw (⟨(⟨aV,v4,a6,v6,bk,bn,br⟩:I.aU),(⟨(⟨v10,v11,bV,b9,cl⟩:I.aH)⟩:I.bM),c4,eG,e9⟩:I.bb) v2 (aw.length:Int));rw [<-P' (k+ 1) aw (⟨(⟨aV,v4,a6,v6,bk,bn,br⟩:I.aU),(⟨(⟨v10,v11,bV,b9,cl⟩:I.aH)⟩:I.bM),c4,eG,e9⟩:I.bb) v2];simp only [E2,a',P'];simp only [bY]
 kernel_rfl
noncomputable def Cl (F:Nat):a2 ad:=(Ck F).Ol 106 0 (ZL F) F
theorem aso (ah:aZ ad) (F:Nat) (h:(Ck F).ax):(Cl F).ax:=h.ZV ah rfl (by kernel_rfl) (aiC F) F
@[reducible] noncomputable def XL (F:Nat):bS aQ:=⟨[.p (.l 3),.f 67 [.B 0]],[.c 60 [.B 1],.c 72 [.l 3,.i .i64,.i .i64,.i .i64,.i .i64,.l 3,.i .i64,.l 134,.l 3,.l 124,.l 120,.l 121,.l 3,.l 3,.M 2],.m 3 4],[.p (.i .i64)],[.c 60 [.B 1],.c 72 [.l 3,.i .i64,.i .i64,.i .i64,.i .i64,.l 3,.i .i64,.l 134,.l 3,.l 124,.l 120,.l 121,.l 3,.l 3,.M 2],.m 3 4],Int,fun d=>I1 F d.1.1 (⟨(⟨d.2.2.1.1,d.2.2.1.2.1,d.2.2.1.2.2.1,d.2.2.1.2.2.2.1,d.2.2.1.2.2.2.2.1,d.2.2.1.2.2.2.2.2.1,d.2.2.1.2.2.2.2.2.2.1⟩:I.aU),(⟨(⟨d.2.2.1.2.2.2.2.2.2.2.1,d.2.2.1.2.2.2.2.2.2.2.2.1,d.2.2.1.2.2.2.2.2.2.2.2.2.1,d.2.2.1.2.2.2.2.2.2.2.2.2.2.1,d.2.2.1.2.2.2.2.2.2.2.2.2.2.2.1⟩:I.aH)⟩:I.bM),d.2.2.1.2.2.2.2.2.2.2.2.2.2.2.2.1,d.2.2.1.2.2.2.2.2.2.2.2.2.2.2.2.2.1,d.2.2.2.1⟩:I.bb),fun d r=>((r,()),(((),()),(d.2.2.1.1,d.2.2.1.2.1,d.2.2.1.2.2.1,d.2.2.1.2.2.2.1,d.2.2.1.2.2.2.2.1,d.2.2.1.2.2.2.2.2.1,d.2.2.1.2.2.2.2.2.2.1,d.2.2.1.2.2.2.2.2.2.2.1,d.2.2.1.2.2.2.2.2.2.2.2.1,d.2.2.1.2.2.2.2.2.2.2.2.2.1,d.2.2.1.2.2.2.2.2.2.2.2.2.2.1,d.2.2.1.2.2.2.2.2.2.2.2.2.2.2.1,d.2.2.1.2.2.2.2.2.2.2.2.2.2.2.2.1,d.2.2.1.2.2.2.2.2.2.2.2.2.2.2.2.2.1,(),()),d.2.2.2.1,()))⟩
theorem aiB (F:Nat):(XL F).Eq ad (Cl F).aM (Cl F).LE 106 :=fun av aE=>by
 obtain ⟨(aw:List Int),⟨_,_⟩,_⟩:=av
 obtain ⟨⟨_,_⟩,⟨(v1:List Int),(v2:Int),(aV:Int),(v4:Int),(a6:Int),(v6:List Int),(bk:Int),(bn:List I.ap),(br:List Int),(v10:List (List I.Field)),(v11:List (List (List UInt8))),(bV:List (List I.Target)),(b9:List Int),(cl:List Int),_,_⟩,(c4:List (Int × Bool)),_⟩:=aE
 conv=>rhs;change Option.map (α:=Int) _ (I1 F aw (⟨(⟨v1,v2,aV,v4,a6,v6,bk⟩:I.aU),(⟨(⟨bn,br,v10,v11,bV⟩:I.aH)⟩:I.bM),b9,cl,c4⟩:I.bb));simp only [I1,a',P']
 kernel_rfl
noncomputable def Cm (F:Nat):a2 ad:=(Cl F).CY 106 (XL F)
theorem asp (ah:aZ ad) (F:Nat) (h:(Cl F).ax):(Cm F).ax:=h.Gy ah rfl (by kernel_rfl) (aiB F)
@[reducible] noncomputable def Xz (F:Nat):bS aQ:=⟨[.p (.l 3),.f 136 []],[],[.p (.b)],[],Bool,fun d=>EZ F d.1.1,fun _ r=>((r,()),())⟩
theorem aie (F:Nat):(Xz F).Eq ad (Cm F).aM (Cm F).LE 66 :=fun av aE=>by
 obtain ⟨(aw:List Int),_,_⟩:=av
 conv=>rhs;change Option.map (α:=Bool) _ (EZ F aw);simp only [EZ,a']
 kernel_rfl
noncomputable def Cn (F:Nat):a2 ad:=(Cm F).f 66 ((Xz F).run ad)
theorem asq (ah:aZ ad) (F:Nat) (h:(Cm F).ax):(Cn F).ax:=h.rt ah rfl (by kernel_rfl) (aie F)
@[reducible] noncomputable def Xy (F:Nat):bS aQ:=⟨[.p (.l 3),.f 139 [.B 0]],[.c 60 [.B 1],.c 72 [.l 3,.i .i64,.i .i64,.i .i64,.i .i64,.l 3,.i .i64,.l 134,.l 3,.l 124,.l 120,.l 121,.l 3,.l 3,.M 2],.m 3 4],[.p (.b)],[.c 60 [.B 1],.c 72 [.l 3,.i .i64,.i .i64,.i .i64,.i .i64,.l 3,.i .i64,.l 134,.l 3,.l 124,.l 120,.l 121,.l 3,.l 3,.M 2],.m 3 4],Bool,fun d=>EY F d.1.1 (⟨(⟨d.2.2.1.1,d.2.2.1.2.1,d.2.2.1.2.2.1,d.2.2.1.2.2.2.1,d.2.2.1.2.2.2.2.1,d.2.2.1.2.2.2.2.2.1,d.2.2.1.2.2.2.2.2.2.1⟩:I.aU),(⟨(⟨d.2.2.1.2.2.2.2.2.2.2.1,d.2.2.1.2.2.2.2.2.2.2.2.1,d.2.2.1.2.2.2.2.2.2.2.2.2.1,d.2.2.1.2.2.2.2.2.2.2.2.2.2.1,d.2.2.1.2.2.2.2.2.2.2.2.2.2.2.1⟩:I.aH)⟩:I.bM),d.2.2.1.2.2.2.2.2.2.2.2.2.2.2.2.1,d.2.2.1.2.2.2.2.2.2.2.2.2.2.2.2.2.1,d.2.2.2.1⟩:I.bb),fun d r=>((r,()),(((),()),(d.2.2.1.1,d.2.2.1.2.1,d.2.2.1.2.2.1,d.2.2.1.2.2.2.1,d.2.2.1.2.2.2.2.1,d.2.2.1.2.2.2.2.2.1,d.2.2.1.2.2.2.2.2.2.1,d.2.2.1.2.2.2.2.2.2.2.1,d.2.2.1.2.2.2.2.2.2.2.2.1,d.2.2.1.2.2.2.2.2.2.2.2.2.1,d.2.2.1.2.2.2.2.2.2.2.2.2.2.1,d.2.2.1.2.2.2.2.2.2.2.2.2.2.2.1,d.2.2.1.2.2.2.2.2.2.2.2.2.2.2.2.1,d.2.2.1.2.2.2.2.2.2.2.2.2.2.2.2.2.1,(),()),d.2.2.2.1,()))⟩
theorem aid (F:Nat):(Xy F).Eq ad (Cn F).aM (Cn F).LE 66 :=fun av aE=>by
 obtain ⟨(aw:List Int),⟨_,_⟩,_⟩:=av
 obtain ⟨⟨_,_⟩,⟨(v1:List Int),(v2:Int),(aV:Int),(v4:Int),(a6:Int),(v6:List Int),(bk:Int),(bn:List I.ap),(br:List Int),(v10:List (List I.Field)),(v11:List (List (List UInt8))),(bV:List (List I.Target)),(b9:List Int),(cl:List Int),_,_⟩,(c4:List (Int × Bool)),_⟩:=aE
 conv=>rhs;change Option.map (α:=Bool) _ (EY F aw (⟨(⟨v1,v2,aV,v4,a6,v6,bk⟩:I.aU),(⟨(⟨bn,br,v10,v11,bV⟩:I.aH)⟩:I.bM),b9,cl,c4⟩:I.bb));simp only [EY,a']
 kernel_rfl
noncomputable def Co (F:Nat):a2 ad:=(Cn F).CY 66 (Xy F)
theorem asr (ah:aZ ad) (F:Nat) (h:(Cn F).ax):(Co F).ax:=h.Gy ah rfl (by kernel_rfl) (aid F)
@[reducible] noncomputable def XA (F:Nat):bS aQ:=⟨[.p (.l 3),.f 67 [.B 0]],[.c 60 [.B 1],.c 72 [.l 3,.i .i64,.i .i64,.i .i64,.i .i64,.l 3,.i .i64,.l 134,.l 3,.l 124,.l 120,.l 121,.l 3,.l 3,.M 2],.m 3 4],[.p (.b)],[.c 60 [.B 1],.c 72 [.l 3,.i .i64,.i .i64,.i .i64,.i .i64,.l 3,.i .i64,.l 134,.l 3,.l 124,.l 120,.l 121,.l 3,.l 3,.M 2],.m 3 4],Bool,fun d=>IZ F d.1.1 (⟨(⟨d.2.2.1.1,d.2.2.1.2.1,d.2.2.1.2.2.1,d.2.2.1.2.2.2.1,d.2.2.1.2.2.2.2.1,d.2.2.1.2.2.2.2.2.1,d.2.2.1.2.2.2.2.2.2.1⟩:I.aU),(⟨(⟨d.2.2.1.2.2.2.2.2.2.2.1,d.2.2.1.2.2.2.2.2.2.2.2.1,d.2.2.1.2.2.2.2.2.2.2.2.2.1,d.2.2.1.2.2.2.2.2.2.2.2.2.2.1,d.2.2.1.2.2.2.2.2.2.2.2.2.2.2.1⟩:I.aH)⟩:I.bM),d.2.2.1.2.2.2.2.2.2.2.2.2.2.2.2.1,d.2.2.1.2.2.2.2.2.2.2.2.2.2.2.2.2.1,d.2.2.2.1⟩:I.bb),fun d r=>((r,()),(((),()),(d.2.2.1.1,d.2.2.1.2.1,d.2.2.1.2.2.1,d.2.2.1.2.2.2.1,d.2.2.1.2.2.2.2.1,d.2.2.1.2.2.2.2.2.1,d.2.2.1.2.2.2.2.2.2.1,d.2.2.1.2.2.2.2.2.2.2.1,d.2.2.1.2.2.2.2.2.2.2.2.1,d.2.2.1.2.2.2.2.2.2.2.2.2.1,d.2.2.1.2.2.2.2.2.2.2.2.2.2.1,d.2.2.1.2.2.2.2.2.2.2.2.2.2.2.1,d.2.2.1.2.2.2.2.2.2.2.2.2.2.2.2.1,d.2.2.1.2.2.2.2.2.2.2.2.2.2.2.2.2.1,(),()),d.2.2.2.1,()))⟩
theorem aif (F:Nat):(XA F).Eq ad (Co F).aM (Co F).LE 66 :=fun av aE=>by
 obtain ⟨(aw:List Int),⟨_,_⟩,_⟩:=av
 obtain ⟨⟨_,_⟩,⟨(v1:List Int),(v2:Int),(aV:Int),(v4:Int),(a6:Int),(v6:List Int),(bk:Int),(bn:List I.ap),(br:List Int),(v10:List (List I.Field)),(v11:List (List (List UInt8))),(bV:List (List I.Target)),(b9:List Int),(cl:List Int),_,_⟩,(c4:List (Int × Bool)),_⟩:=aE
 conv=>rhs;change Option.map (α:=Bool) _ (IZ F aw (⟨(⟨v1,v2,aV,v4,a6,v6,bk⟩:I.aU),(⟨(⟨bn,br,v10,v11,bV⟩:I.aH)⟩:I.bM),b9,cl,c4⟩:I.bb));simp only [IZ,a']
 kernel_rfl
noncomputable def Cp (F:Nat):a2 ad:=(Co F).CY 66 (XA F)
theorem ass (ah:aZ ad) (F:Nat) (h:(Co F).ax):(Cp F).ax:=h.Gy ah rfl (by kernel_rfl) (aif F)
noncomputable def LQ (k:Nat) (aG:I.bb) (lS:List Int) (q':Int) (ch:Int):=c2 ((lS.length:Int)=ch/\True) (a4 (qz aG lS k q'))
theorem Py (k:Nat) (aG:I.bb) (lS:List Int) (q':Int):a4 (qz aG lS k q')=LQ k aG lS q' (lS.length:Int):=(dg ⟨rfl,trivial⟩).symm
@[reducible] noncomputable def Y5 (_:Nat):a5 aQ:=⟨[0,10,11,12,18,19,20],[.p (.B 0),.p (.l 3),.p (.i .i64),.p (.i .i64),.p (.l 3),.p (.i .i64),.p (.i .i64)],[.c 72 [.l 3,.i .i64,.i .i64,.i .i64,.i .i64,.l 3,.i .i64,.l 134,.l 3,.l 124,.l 120,.l 121,.l 3,.l 3,.M 1],.m 3 4],
  [⟨⟨.nm,[0,10,11,12],[.p (.B 0),.p (.l 3),.p (.i .i64),.p (.i .i64)],[.c 72 [.l 3,.i .i64,.i .i64,.i .i64,.i .i64,.l 3,.i .i64,.l 134,.l 3,.l 124,.l 120,.l 121,.l 3,.l 3,.M 1],.m 3 4]⟩,Unit,fun d _=>(((),d.1.2.1,d.1.2.2.1,d.1.2.2.2.1,()),((d.2.1.1,d.2.1.2.1,d.2.1.2.2.1,d.2.1.2.2.2.1,d.2.1.2.2.2.2.1,d.2.1.2.2.2.2.2.1,d.2.1.2.2.2.2.2.2.1,d.2.1.2.2.2.2.2.2.2.1,d.2.1.2.2.2.2.2.2.2.2.1,d.2.1.2.2.2.2.2.2.2.2.2.1,d.2.1.2.2.2.2.2.2.2.2.2.2.1,d.2.1.2.2.2.2.2.2.2.2.2.2.2.1,d.2.1.2.2.2.2.2.2.2.2.2.2.2.2.1,d.2.1.2.2.2.2.2.2.2.2.2.2.2.2.2.1,(),()),d.2.2.1,()))⟩,
   ⟨⟨.rt,[2],[.p (.i .i64)],[.c 72 [.l 3,.i .i64,.i .i64,.i .i64,.i .i64,.l 3,.i .i64,.l 134,.l 3,.l 124,.l 120,.l 121,.l 3,.l 3,.M 1],.m 3 4]⟩,Int,fun d r=>((r,()),((d.2.1.1,d.2.1.2.1,d.2.1.2.2.1,d.2.1.2.2.2.1,d.2.1.2.2.2.2.1,d.2.1.2.2.2.2.2.1,d.2.1.2.2.2.2.2.2.1,d.2.1.2.2.2.2.2.2.2.1,d.2.1.2.2.2.2.2.2.2.2.1,d.2.1.2.2.2.2.2.2.2.2.2.1,d.2.1.2.2.2.2.2.2.2.2.2.2.1,d.2.1.2.2.2.2.2.2.2.2.2.2.2.1,d.2.1.2.2.2.2.2.2.2.2.2.2.2.2.1,d.2.1.2.2.2.2.2.2.2.2.2.2.2.2.2.1,(),()),d.2.2.1,()))⟩],
  fun k d=>LQ k (⟨(⟨d.2.1.1,d.2.1.2.1,d.2.1.2.2.1,d.2.1.2.2.2.1,d.2.1.2.2.2.2.1,d.2.1.2.2.2.2.2.1,d.2.1.2.2.2.2.2.2.1⟩:I.aU),(⟨(⟨d.2.1.2.2.2.2.2.2.2.1,d.2.1.2.2.2.2.2.2.2.2.1,d.2.1.2.2.2.2.2.2.2.2.2.1,d.2.1.2.2.2.2.2.2.2.2.2.2.1,d.2.1.2.2.2.2.2.2.2.2.2.2.2.1⟩:I.aH)⟩:I.bM),d.2.1.2.2.2.2.2.2.2.2.2.2.2.2.1,d.2.1.2.2.2.2.2.2.2.2.2.2.2.2.2.1,d.2.2.1⟩:I.bb) d.1.2.2.2.2.1 d.1.2.2.2.2.2.2.1 d.1.2.2.2.2.2.1⟩
theorem ahi (F:Nat):(Y5 F).bU.bP ad (Cp F).aM ((Cp F).LE 104) (bR ad.P 104) 2 (bT ad.P 104 2):=a5.b5 (fun d=>df) fun k av aE q h=>by
 obtain ⟨_,(aw:List Int),(v1:Int),(v2:Int),(aV:List Int),(v4:Int),(a6:Int),_⟩:=av
 obtain ⟨⟨(v6:List Int),(bk:Int),(bn:Int),(br:Int),(v10:Int),(v11:List Int),(bV:Int),(b9:List I.ap),(cl:List Int),(c4:List (List I.Field)),(eG:List (List (List UInt8))),(e9:List (List I.Target)),(im:List Int),(uA:List Int),_,_⟩,(v20:List (Int × Bool)),_⟩:=aE
 obtain ⟨aA,_⟩:=dI h
 dsimp only at aA
 obtain ⟨rfl,_⟩:=aA
 conv=>rhs;change Option.map (α:=Unit ⊕ Int) _ (LQ (k+ 1) (⟨(⟨v6,bk,bn,br,v10,v11,bV⟩:I.aU),(⟨(⟨b9,cl,c4,eG,e9⟩:I.aH)⟩:I.bM),im,uA,v20⟩:I.bb) aV a6 (aV.length:Int));rw [<-Py (k+ 1) (⟨(⟨v6,bk,bn,br,v10,v11,bV⟩:I.aU),(⟨(⟨b9,cl,c4,eG,e9⟩:I.aH)⟩:I.bM),im,uA,v20⟩:I.bb) aV a6];simp only [qz,a',Py,aoE];simp only [bY]
 kernel_rfl
noncomputable def Cq (F:Nat):a2 ad:=(Cp F).l 104 2 ((Y5 F).run ad F)
theorem ast (ah:aZ ad) (F:Nat) (h:(Cp F).ax):(Cq F).ax:=h.b7 ah rfl (by kernel_rfl) (ahi F) F
noncomputable def LP (F:Nat) (k:Nat) (aG:I.bb) (mX:List Int) (tV:Int) (ao:Int):=c2 ((mX.length:Int)=ao/\True) (a4 (s0 F aG mX k tV))
theorem Px (F:Nat) (k:Nat) (aG:I.bb) (mX:List Int) (tV:Int):a4 (s0 F aG mX k tV)=LP F k aG mX tV (mX.length:Int):=(dg ⟨rfl,trivial⟩).symm
@[reducible] noncomputable def Y4 (F:Nat):a5 aQ:=⟨[0,10,11,12],[.p (.B 0),.p (.l 3),.p (.i .i64),.p (.i .i64)],[.c 72 [.l 3,.i .i64,.i .i64,.i .i64,.i .i64,.l 3,.i .i64,.l 134,.l 3,.l 124,.l 120,.l 121,.l 3,.l 3,.M 1],.m 3 4],
  [⟨⟨.nm,[0],[.p (.B 0)],[.c 72 [.l 3,.i .i64,.i .i64,.i .i64,.i .i64,.l 3,.i .i64,.l 134,.l 3,.l 124,.l 120,.l 121,.l 3,.l 3,.M 1],.m 3 4]⟩,Unit,fun d _=>(((),()),((d.2.1.1,d.2.1.2.1,d.2.1.2.2.1,d.2.1.2.2.2.1,d.2.1.2.2.2.2.1,d.2.1.2.2.2.2.2.1,d.2.1.2.2.2.2.2.2.1,d.2.1.2.2.2.2.2.2.2.1,d.2.1.2.2.2.2.2.2.2.2.1,d.2.1.2.2.2.2.2.2.2.2.2.1,d.2.1.2.2.2.2.2.2.2.2.2.2.1,d.2.1.2.2.2.2.2.2.2.2.2.2.2.1,d.2.1.2.2.2.2.2.2.2.2.2.2.2.2.1,d.2.1.2.2.2.2.2.2.2.2.2.2.2.2.2.1,(),()),d.2.2.1,()))⟩,
   ⟨⟨.rt,[2],[.p (.i .i64)],[.c 72 [.l 3,.i .i64,.i .i64,.i .i64,.i .i64,.l 3,.i .i64,.l 134,.l 3,.l 124,.l 120,.l 121,.l 3,.l 3,.M 1],.m 3 4]⟩,Int,fun d r=>((r,()),((d.2.1.1,d.2.1.2.1,d.2.1.2.2.1,d.2.1.2.2.2.1,d.2.1.2.2.2.2.1,d.2.1.2.2.2.2.2.1,d.2.1.2.2.2.2.2.2.1,d.2.1.2.2.2.2.2.2.2.1,d.2.1.2.2.2.2.2.2.2.2.1,d.2.1.2.2.2.2.2.2.2.2.2.1,d.2.1.2.2.2.2.2.2.2.2.2.2.1,d.2.1.2.2.2.2.2.2.2.2.2.2.2.1,d.2.1.2.2.2.2.2.2.2.2.2.2.2.2.1,d.2.1.2.2.2.2.2.2.2.2.2.2.2.2.2.1,(),()),d.2.2.1,()))⟩],
  fun k d=>LP F k (⟨(⟨d.2.1.1,d.2.1.2.1,d.2.1.2.2.1,d.2.1.2.2.2.1,d.2.1.2.2.2.2.1,d.2.1.2.2.2.2.2.1,d.2.1.2.2.2.2.2.2.1⟩:I.aU),(⟨(⟨d.2.1.2.2.2.2.2.2.2.1,d.2.1.2.2.2.2.2.2.2.2.1,d.2.1.2.2.2.2.2.2.2.2.2.1,d.2.1.2.2.2.2.2.2.2.2.2.2.1,d.2.1.2.2.2.2.2.2.2.2.2.2.2.1⟩:I.aH)⟩:I.bM),d.2.1.2.2.2.2.2.2.2.2.2.2.2.2.1,d.2.1.2.2.2.2.2.2.2.2.2.2.2.2.2.1,d.2.2.1⟩:I.bb) d.1.2.1 d.1.2.2.2.1 d.1.2.2.1⟩
theorem ahh (F:Nat):(Y4 F).bU.bP ad (Cq F).aM ((Cq F).LE 104) (bR ad.P 104) 0 (bT ad.P 104 0):=a5.b5 (fun d=>df) fun k av aE q h=>by
 obtain ⟨_,(aw:List Int),(v1:Int),(v2:Int),_⟩:=av
 obtain ⟨⟨(aV:List Int),(v4:Int),(a6:Int),(v6:Int),(bk:Int),(bn:List Int),(br:Int),(v10:List I.ap),(v11:List Int),(bV:List (List I.Field)),(b9:List (List (List UInt8))),(cl:List (List I.Target)),(c4:List Int),(eG:List Int),_,_⟩,(e9:List (Int × Bool)),_⟩:=aE
 obtain ⟨aA,_⟩:=dI h
 dsimp only at aA
 obtain ⟨rfl,_⟩:=aA
 conv=>rhs;change Option.map (α:=Unit ⊕ Int) _ (LP F (k+ 1) (⟨(⟨aV,v4,a6,v6,bk,bn,br⟩:I.aU),(⟨(⟨v10,v11,bV,b9,cl⟩:I.aH)⟩:I.bM),c4,eG,e9⟩:I.bb) aw v2 (aw.length:Int));rw [<-Px F (k+ 1) (⟨(⟨aV,v4,a6,v6,bk,bn,br⟩:I.aU),(⟨(⟨v10,v11,bV,b9,cl⟩:I.aH)⟩:I.bM),c4,eG,e9⟩:I.bb) aw v2];simp only [s0,a',Py,Px];simp only [bY]
 kernel_rfl
noncomputable def Cr (F:Nat):a2 ad:=(Cq F).l 104 0 ((Y4 F).run ad F)
theorem asu (ah:aZ ad) (F:Nat) (h:(Cq F).ax):(Cr F).ax:=h.b7 ah rfl (by kernel_rfl) (ahh F) F
@[reducible] noncomputable def W5 (F:Nat):bS aQ:=⟨[.p (.B 0)],[.c 72 [.l 3,.i .i64,.i .i64,.i .i64,.i .i64,.l 3,.i .i64,.l 134,.l 3,.l 124,.l 120,.l 121,.l 3,.l 3,.M 1],.m 3 4],[.p (.i .i64)],[.c 72 [.l 3,.i .i64,.i .i64,.i .i64,.i .i64,.l 3,.i .i64,.l 134,.l 3,.l 124,.l 120,.l 121,.l 3,.l 3,.M 1],.m 3 4],Int,fun d=>vD F (⟨(⟨d.2.1.1,d.2.1.2.1,d.2.1.2.2.1,d.2.1.2.2.2.1,d.2.1.2.2.2.2.1,d.2.1.2.2.2.2.2.1,d.2.1.2.2.2.2.2.2.1⟩:I.aU),(⟨(⟨d.2.1.2.2.2.2.2.2.2.1,d.2.1.2.2.2.2.2.2.2.2.1,d.2.1.2.2.2.2.2.2.2.2.2.1,d.2.1.2.2.2.2.2.2.2.2.2.2.1,d.2.1.2.2.2.2.2.2.2.2.2.2.2.1⟩:I.aH)⟩:I.bM),d.2.1.2.2.2.2.2.2.2.2.2.2.2.2.1,d.2.1.2.2.2.2.2.2.2.2.2.2.2.2.2.1,d.2.2.1⟩:I.bb),fun d r=>((r,()),((d.2.1.1,d.2.1.2.1,d.2.1.2.2.1,d.2.1.2.2.2.1,d.2.1.2.2.2.2.1,d.2.1.2.2.2.2.2.1,d.2.1.2.2.2.2.2.2.1,d.2.1.2.2.2.2.2.2.2.1,d.2.1.2.2.2.2.2.2.2.2.1,d.2.1.2.2.2.2.2.2.2.2.2.1,d.2.1.2.2.2.2.2.2.2.2.2.2.1,d.2.1.2.2.2.2.2.2.2.2.2.2.2.1,d.2.1.2.2.2.2.2.2.2.2.2.2.2.2.1,d.2.1.2.2.2.2.2.2.2.2.2.2.2.2.2.1,(),()),d.2.2.1,()))⟩
theorem ahf (F:Nat):(W5 F).Eq ad (Cr F).aM (Cr F).LE 104 :=fun av aE=>by
 obtain ⟨_,_⟩:=av
 obtain ⟨⟨(aw:List Int),(v1:Int),(v2:Int),(aV:Int),(v4:Int),(a6:List Int),(v6:Int),(bk:List I.ap),(bn:List Int),(br:List (List I.Field)),(v10:List (List (List UInt8))),(v11:List (List I.Target)),(bV:List Int),(b9:List Int),_,_⟩,(cl:List (Int × Bool)),_⟩:=aE
 conv=>rhs;change Option.map (α:=Int) _ (vD F (⟨(⟨aw,v1,v2,aV,v4,a6,v6⟩:I.aU),(⟨(⟨bk,bn,br,v10,v11⟩:I.aH)⟩:I.bM),bV,b9,cl⟩:I.bb));simp only [vD,a',Px]
 kernel_rfl
noncomputable def Cs (F:Nat):a2 ad:=(Cr F).f 104 ((W5 F).run ad)
theorem asv (ah:aZ ad) (F:Nat) (h:(Cr F).ax):(Cs F).ax:=h.rt ah rfl (by kernel_rfl) (ahf F)
@[reducible] noncomputable def WM (_:Nat):bS aQ:=⟨[.p (.i .i64)],[],[.p (.b)],[],Bool,fun d=>F8 d.1.1,fun _ r=>((r,()),())⟩
theorem agU (F:Nat):(WM F).Eq ad (Cs F).aM (Cs F).LE 172 :=fun av aE=>by
 obtain ⟨(aw:Int),_⟩:=av
 kernel_rfl
noncomputable def Ct (F:Nat):a2 ad:=(Cs F).f 172 ((WM F).run ad)
theorem asw (ah:aZ ad) (F:Nat) (h:(Cs F).ax):(Ct F).ax:=h.rt ah rfl (by kernel_rfl) (agU F)
@[reducible] noncomputable def WL (_:Nat):bS aQ:=⟨[.p (.i .i64),.p (.i .i64)],[],[.p (.b)],[],Bool,fun d=>CN d.1.1 d.1.2.1,fun _ r=>((r,()),())⟩
theorem agT (F:Nat):(WL F).Eq ad (Ct F).aM (Ct F).LE 160 :=fun av aE=>by
 obtain ⟨(aw:Int),(v1:Int),_⟩:=av
 conv=>rhs;change Option.map (α:=Bool) _ (CN aw v1);simp only [CN,a']
 kernel_rfl
noncomputable def zb (F:Nat):a2 ad:=(Ct F).f 160 ((WL F).run ad)
theorem apj (ah:aZ ad) (F:Nat) (h:(Ct F).ax):(zb F).ax:=h.rt ah rfl (by kernel_rfl) (agT F)
@[reducible] noncomputable def XM (_:Nat):bS aQ:=⟨[.p (.i .i64)],[],[.p (.b)],[],Bool,fun d=>I2 d.1.1,fun _ r=>((r,()),())⟩
theorem aiD (F:Nat):(XM F).Eq ad (zb F).aM (zb F).LE 161 :=fun av aE=>by
 obtain ⟨(aw:Int),_⟩:=av
 kernel_rfl
noncomputable def zc (F:Nat):a2 ad:=(zb F).f 161 ((XM F).run ad)
theorem apk (ah:aZ ad) (F:Nat) (h:(zb F).ax):(zc F).ax:=h.rt ah rfl (by kernel_rfl) (aiD F)
noncomputable def Mg (k:Nat) (oc:Int) (aT:List Int) (n2:Int) (pr:Int) (aq:Int):=c2 ((aT.length:Int)=aq/\True) (pE oc aT k n2 pr)
theorem PY (k:Nat) (oc:Int) (aT:List Int) (n2:Int) (pr:Int):pE oc aT k n2 pr=Mg k oc aT n2 pr (aT.length:Int):=(dg ⟨rfl,trivial⟩).symm
@[reducible] noncomputable def Zy (_:Nat):a5 aQ:=⟨[0,1,6,7,8],[.p (.l 3),.p (.i .i64),.p (.i .i64),.p (.i .i64),.p (.i .i64)],[],
  [⟨⟨.nm,[0,1,6,7],[.p (.l 3),.p (.i .i64),.p (.i .i64),.p (.i .i64)],[]⟩,Int,fun d r=>((d.1.1,d.1.2.1,d.1.2.2.1,r,()),())⟩],
  fun k d=>Mg k d.1.2.1 d.1.1 d.1.2.2.2.1 d.1.2.2.2.2.1 d.1.2.2.1⟩
theorem ah' (F:Nat):(Zy F).bU.bP ad (zc F).aM ((zc F).LE 138) (bR ad.P 138) 0 (bT ad.P 138 0):=a5.b5 (fun d=>df) fun k av aE q h=>by
 obtain ⟨(aw:List Int),(v1:Int),(v2:Int),(aV:Int),(v4:Int),_⟩:=av
 obtain ⟨aA,_⟩:=dI h
 dsimp only at aA
 obtain ⟨rfl,_⟩:=aA
 conv=>rhs;change Option.map (α:=Int) _ (Mg (k+ 1) v1 aw aV v4 (aw.length:Int));rw [<-PY (k+ 1) v1 aw aV v4];simp only [pE,a',PY];simp only [bY]
 kernel_rfl
noncomputable def zd (F:Nat):a2 ad:=(zc F).l 138 0 ((Zy F).run ad F)
theorem apl (ah:aZ ad) (F:Nat) (h:(zc F).ax):(zd F).ax:=h.b7 ah rfl (by kernel_rfl) (ah' F) F
@[reducible] noncomputable def Xw (F:Nat):bS aQ:=⟨[.p (.l 3),.p (.i .i64)],[],[.p (.i .i64),.p (.b)],[],Int × Bool,fun d=>yM F d.1.1 d.1.2.1,fun _ r=>((r.1,r.2,()),())⟩
theorem ah_ (F:Nat):(Xw F).Eq ad (zd F).aM (zd F).LE 138 :=fun av aE=>by
 obtain ⟨(aw:List Int),(v1:Int),_⟩:=av
 conv=>rhs;change Option.map (α:=Int × Bool) _ (yM F aw v1);simp only [yM,a',PY]
 kernel_rfl
noncomputable def zf (F:Nat):a2 ad:=(zd F).f 138 ((Xw F).run ad)
theorem apm (ah:aZ ad) (F:Nat) (h:(zd F).ax):(zf F).ax:=h.rt ah rfl (by kernel_rfl) (ah_ F)
noncomputable def LM (F:Nat) (k:Nat) (aG:I.bb) (nX:Int) (ao:List Int) (aq:Int) (xL:List Int):=c2 ((aG.H.bg:List Int)=ao/\(aG.H.bg.length:Int)=aq/\(aG.H.bg:List Int)=xL/\True) (a4 (oZ F aG k nX))
theorem Pu (F:Nat) (k:Nat) (aG:I.bb) (nX:Int):a4 (oZ F aG k nX)=LM F k aG nX aG.H.bg (aG.H.bg.length:Int) aG.H.bg:=(dg ⟨rfl,rfl,rfl,trivial⟩).symm
@[reducible] noncomputable def Y1 (F:Nat):a5 aQ:=⟨[1,3,16,17,18],[.p (.B 0),.p (.l 3),.p (.l 3),.p (.i .i64),.p (.i .i64)],[.c 60 [.B 1],.c 72 [.l 3,.i .i64,.i .i64,.i .i64,.i .i64,.l 3,.i .i64,.l 134,.l 3,.l 124,.l 120,.l 121,.l 3,.l 3,.M 2],.m 3 4],
  [⟨⟨.nm,[1,3],[.p (.B 0),.p (.l 3)],[.c 60 [.B 1],.c 72 [.l 3,.i .i64,.i .i64,.i .i64,.i .i64,.l 3,.i .i64,.l 134,.l 3,.l 124,.l 120,.l 121,.l 3,.l 3,.M 2],.m 3 4]⟩,Unit,fun d _=>(((),d.1.2.1,()),(((),()),(d.2.2.1.1,d.2.2.1.2.1,d.2.2.1.2.2.1,d.2.2.1.2.2.2.1,d.2.2.1.2.2.2.2.1,d.2.2.1.2.2.2.2.2.1,d.2.2.1.2.2.2.2.2.2.1,d.2.2.1.2.2.2.2.2.2.2.1,d.2.2.1.2.2.2.2.2.2.2.2.1,d.2.2.1.2.2.2.2.2.2.2.2.2.1,d.2.2.1.2.2.2.2.2.2.2.2.2.2.1,d.2.2.1.2.2.2.2.2.2.2.2.2.2.2.1,d.2.2.1.2.2.2.2.2.2.2.2.2.2.2.2.1,d.2.2.1.2.2.2.2.2.2.2.2.2.2.2.2.2.1,(),()),d.2.2.2.1,()))⟩,
   ⟨⟨.rt,[2],[.p (.i .i64)],[.c 60 [.B 1],.c 72 [.l 3,.i .i64,.i .i64,.i .i64,.i .i64,.l 3,.i .i64,.l 134,.l 3,.l 124,.l 120,.l 121,.l 3,.l 3,.M 2],.m 3 4]⟩,Int,fun d r=>((r,()),(((),()),(d.2.2.1.1,d.2.2.1.2.1,d.2.2.1.2.2.1,d.2.2.1.2.2.2.1,d.2.2.1.2.2.2.2.1,d.2.2.1.2.2.2.2.2.1,d.2.2.1.2.2.2.2.2.2.1,d.2.2.1.2.2.2.2.2.2.2.1,d.2.2.1.2.2.2.2.2.2.2.2.1,d.2.2.1.2.2.2.2.2.2.2.2.2.1,d.2.2.1.2.2.2.2.2.2.2.2.2.2.1,d.2.2.1.2.2.2.2.2.2.2.2.2.2.2.1,d.2.2.1.2.2.2.2.2.2.2.2.2.2.2.2.1,d.2.2.1.2.2.2.2.2.2.2.2.2.2.2.2.2.1,(),()),d.2.2.2.1,()))⟩],
  fun k d=>LM F k (⟨(⟨d.2.2.1.1,d.2.2.1.2.1,d.2.2.1.2.2.1,d.2.2.1.2.2.2.1,d.2.2.1.2.2.2.2.1,d.1.2.1,d.2.2.1.2.2.2.2.2.2.1⟩:I.aU),(⟨(⟨d.2.2.1.2.2.2.2.2.2.2.1,d.2.2.1.2.2.2.2.2.2.2.2.1,d.2.2.1.2.2.2.2.2.2.2.2.2.1,d.2.2.1.2.2.2.2.2.2.2.2.2.2.1,d.2.2.1.2.2.2.2.2.2.2.2.2.2.2.1⟩:I.aH)⟩:I.bM),d.2.2.1.2.2.2.2.2.2.2.2.2.2.2.2.1,d.2.2.1.2.2.2.2.2.2.2.2.2.2.2.2.2.1,d.2.2.2.1⟩:I.bb) d.1.2.2.2.2.1 d.1.2.2.1 d.1.2.2.2.1 d.2.2.1.2.2.2.2.2.1⟩
theorem ahb (F:Nat):(Y1 F).bU.bP ad (zf F).aM ((zf F).LE 105) (bR ad.P 105) 0 (bT ad.P 105 0):=a5.b5 (fun d=>df) fun k av aE q h=>by
 obtain ⟨_,(aw:List Int),(v1:List Int),(v2:Int),(aV:Int),_⟩:=av
 obtain ⟨⟨_,_⟩,⟨(v4:List Int),(a6:Int),(v6:Int),(bk:Int),(bn:Int),(br:List Int),(v10:Int),(v11:List I.ap),(bV:List Int),(b9:List (List I.Field)),(cl:List (List (List UInt8))),(c4:List (List I.Target)),(eG:List Int),(e9:List Int),_,_⟩,(im:List (Int × Bool)),_⟩:=aE
 obtain ⟨aA,_⟩:=dI h
 dsimp only at aA
 obtain ⟨rfl,rfl,rfl,_⟩:=aA
 conv=>rhs;change Option.map (α:=Unit ⊕ Int) _ (LM F (k+ 1) (⟨(⟨v4,a6,v6,bk,bn,aw,v10⟩:I.aU),(⟨(⟨v11,bV,b9,cl,c4⟩:I.aH)⟩:I.bM),eG,e9,im⟩:I.bb) aV (aw) (aw.length:Int) (aw));rw [<-Pu F (k+ 1) (⟨(⟨v4,a6,v6,bk,bn,aw,v10⟩:I.aU),(⟨(⟨v11,bV,b9,cl,c4⟩:I.aH)⟩:I.bM),eG,e9,im⟩:I.bb) aV];simp only [oZ,a',Pu,OS];simp only [bY]
 kernel_rfl
noncomputable def zg (F:Nat):a2 ad:=(zf F).l 105 0 ((Y1 F).run ad F)
theorem apn (ah:aZ ad) (F:Nat) (h:(zf F).ax):(zg F).ax:=h.b7 ah rfl (by kernel_rfl) (ahb F) F
noncomputable def LN (F:Nat) (k:Nat) (aG:I.bb) (rf:Int) (aq:Int) (xL:List Int) (aeT:List Int):=c2 ((aG.a9.length:Int)=aq/\(aG.H.bg:List Int)=xL/\(aG.a9:List Int)=aeT/\True) (a4 (qy F aG k rf))
theorem Pv (F:Nat) (k:Nat) (aG:I.bb) (rf:Int):a4 (qy F aG k rf)=LN F k aG rf (aG.a9.length:Int) aG.H.bg aG.a9:=(dg ⟨rfl,rfl,rfl,trivial⟩).symm
@[reducible] noncomputable def Y2 (F:Nat):a5 aQ:=⟨[1,3,59,60,61],[.p (.B 0),.p (.l 3),.p (.l 3),.p (.i .i64),.p (.i .i64)],[.c 60 [.B 1],.c 72 [.l 3,.i .i64,.i .i64,.i .i64,.i .i64,.l 3,.i .i64,.l 134,.l 3,.l 124,.l 120,.l 121,.l 3,.l 3,.M 2],.m 3 4],
  [⟨⟨.nm,[],[],[.c 60 [.B 1],.c 72 [.l 3,.i .i64,.i .i64,.i .i64,.i .i64,.l 3,.i .i64,.l 134,.l 3,.l 124,.l 120,.l 121,.l 3,.l 3,.M 2],.m 3 4]⟩,Unit,fun d _=>((),(((),()),(d.2.2.1.1,d.2.2.1.2.1,d.2.2.1.2.2.1,d.2.2.1.2.2.2.1,d.2.2.1.2.2.2.2.1,d.2.2.1.2.2.2.2.2.1,d.2.2.1.2.2.2.2.2.2.1,d.2.2.1.2.2.2.2.2.2.2.1,d.2.2.1.2.2.2.2.2.2.2.2.1,d.2.2.1.2.2.2.2.2.2.2.2.2.1,d.2.2.1.2.2.2.2.2.2.2.2.2.2.1,d.2.2.1.2.2.2.2.2.2.2.2.2.2.2.1,d.2.2.1.2.2.2.2.2.2.2.2.2.2.2.2.1,d.2.2.1.2.2.2.2.2.2.2.2.2.2.2.2.2.1,(),()),d.2.2.2.1,()))⟩,
   ⟨⟨.rt,[2],[.p (.i .i64)],[.c 60 [.B 1],.c 72 [.l 3,.i .i64,.i .i64,.i .i64,.i .i64,.l 3,.i .i64,.l 134,.l 3,.l 124,.l 120,.l 121,.l 3,.l 3,.M 2],.m 3 4]⟩,Int,fun d r=>((r,()),(((),()),(d.2.2.1.1,d.2.2.1.2.1,d.2.2.1.2.2.1,d.2.2.1.2.2.2.1,d.2.2.1.2.2.2.2.1,d.2.2.1.2.2.2.2.2.1,d.2.2.1.2.2.2.2.2.2.1,d.2.2.1.2.2.2.2.2.2.2.1,d.2.2.1.2.2.2.2.2.2.2.2.1,d.2.2.1.2.2.2.2.2.2.2.2.2.1,d.2.2.1.2.2.2.2.2.2.2.2.2.2.1,d.2.2.1.2.2.2.2.2.2.2.2.2.2.2.1,d.2.2.1.2.2.2.2.2.2.2.2.2.2.2.2.1,d.2.2.1.2.2.2.2.2.2.2.2.2.2.2.2.2.1,(),()),d.2.2.2.1,()))⟩],
  fun k d=>LN F k (⟨(⟨d.2.2.1.1,d.2.2.1.2.1,d.2.2.1.2.2.1,d.2.2.1.2.2.2.1,d.2.2.1.2.2.2.2.1,d.1.2.1,d.2.2.1.2.2.2.2.2.2.1⟩:I.aU),(⟨(⟨d.2.2.1.2.2.2.2.2.2.2.1,d.2.2.1.2.2.2.2.2.2.2.2.1,d.2.2.1.2.2.2.2.2.2.2.2.2.1,d.2.2.1.2.2.2.2.2.2.2.2.2.2.1,d.2.2.1.2.2.2.2.2.2.2.2.2.2.2.1⟩:I.aH)⟩:I.bM),d.2.2.1.2.2.2.2.2.2.2.2.2.2.2.2.1,d.1.2.2.1,d.2.2.2.1⟩:I.bb) d.1.2.2.2.2.1 d.1.2.2.2.1 d.2.2.1.2.2.2.2.2.1 d.2.2.1.2.2.2.2.2.2.2.2.2.2.2.2.2.1⟩
theorem ahc (F:Nat):(Y2 F).bU.bP ad (zg F).aM ((zg F).LE 105) (bR ad.P 105) 2 (bT ad.P 105 2):=a5.b5 (fun d=>df) fun k av aE q h=>by
 obtain ⟨_,(aw:List Int),(v1:List Int),(v2:Int),(aV:Int),_⟩:=av
 obtain ⟨⟨_,_⟩,⟨(v4:List Int),(a6:Int),(v6:Int),(bk:Int),(bn:Int),(br:List Int),(v10:Int),(v11:List I.ap),(bV:List Int),(b9:List (List I.Field)),(cl:List (List (List UInt8))),(c4:List (List I.Target)),(eG:List Int),(e9:List Int),_,_⟩,(im:List (Int × Bool)),_⟩:=aE
 obtain ⟨aA,_⟩:=dI h
 dsimp only at aA
 obtain ⟨rfl,rfl,rfl,_⟩:=aA
 conv=>rhs;change Option.map (α:=Unit ⊕ Int) _ (LN F (k+ 1) (⟨(⟨v4,a6,v6,bk,bn,aw,v10⟩:I.aU),(⟨(⟨v11,bV,b9,cl,c4⟩:I.aH)⟩:I.bM),eG,v1,im⟩:I.bb) aV (v1.length:Int) (aw) (v1));rw [<-Pv F (k+ 1) (⟨(⟨v4,a6,v6,bk,bn,aw,v10⟩:I.aU),(⟨(⟨v11,bV,b9,cl,c4⟩:I.aH)⟩:I.bM),eG,v1,im⟩:I.bb) aV];simp only [qy,a',Pv];simp only [bY]
 kernel_rfl
noncomputable def zh (F:Nat):a2 ad:=(zg F).l 105 2 ((Y2 F).run ad F)
theorem apo (ah:aZ ad) (F:Nat) (h:(zg F).ax):(zh F).ax:=h.b7 ah rfl (by kernel_rfl) (ahc F) F
@[reducible] noncomputable def W2 (F:Nat):bS aQ:=⟨[.p (.B 0)],[.c 72 [.l 3,.i .i64,.i .i64,.i .i64,.i .i64,.l 3,.i .i64,.l 134,.l 3,.l 124,.l 120,.l 121,.l 3,.l 3,.M 1],.m 3 4],[.p (.i .i64)],[.c 72 [.l 3,.i .i64,.i .i64,.i .i64,.i .i64,.l 3,.i .i64,.l 134,.l 3,.l 124,.l 120,.l 121,.l 3,.l 3,.M 1],.m 3 4],Int,fun d=>vC F (⟨(⟨d.2.1.1,d.2.1.2.1,d.2.1.2.2.1,d.2.1.2.2.2.1,d.2.1.2.2.2.2.1,d.2.1.2.2.2.2.2.1,d.2.1.2.2.2.2.2.2.1⟩:I.aU),(⟨(⟨d.2.1.2.2.2.2.2.2.2.1,d.2.1.2.2.2.2.2.2.2.2.1,d.2.1.2.2.2.2.2.2.2.2.2.1,d.2.1.2.2.2.2.2.2.2.2.2.2.1,d.2.1.2.2.2.2.2.2.2.2.2.2.2.1⟩:I.aH)⟩:I.bM),d.2.1.2.2.2.2.2.2.2.2.2.2.2.2.1,d.2.1.2.2.2.2.2.2.2.2.2.2.2.2.2.1,d.2.2.1⟩:I.bb),fun d r=>((r,()),((d.2.1.1,d.2.1.2.1,d.2.1.2.2.1,d.2.1.2.2.2.1,d.2.1.2.2.2.2.1,d.2.1.2.2.2.2.2.1,d.2.1.2.2.2.2.2.2.1,d.2.1.2.2.2.2.2.2.2.1,d.2.1.2.2.2.2.2.2.2.2.1,d.2.1.2.2.2.2.2.2.2.2.2.1,d.2.1.2.2.2.2.2.2.2.2.2.2.1,d.2.1.2.2.2.2.2.2.2.2.2.2.2.1,d.2.1.2.2.2.2.2.2.2.2.2.2.2.2.1,d.2.1.2.2.2.2.2.2.2.2.2.2.2.2.2.1,(),()),d.2.2.1,()))⟩
theorem ag' (F:Nat):(W2 F).Eq ad (zh F).aM (zh F).LE 105 :=fun av aE=>by
 obtain ⟨_,_⟩:=av
 obtain ⟨⟨(aw:List Int),(v1:Int),(v2:Int),(aV:Int),(v4:Int),(a6:List Int),(v6:Int),(bk:List I.ap),(bn:List Int),(br:List (List I.Field)),(v10:List (List (List UInt8))),(v11:List (List I.Target)),(bV:List Int),(b9:List Int),_,_⟩,(cl:List (Int × Bool)),_⟩:=aE
 conv=>rhs;change Option.map (α:=Int) _ (vC F (⟨(⟨aw,v1,v2,aV,v4,a6,v6⟩:I.aU),(⟨(⟨bk,bn,br,v10,v11⟩:I.aH)⟩:I.bM),bV,b9,cl⟩:I.bb));simp only [vC,a',Pu,Pv]
 kernel_rfl
noncomputable def zi (F:Nat):a2 ad:=(zh F).f 105 ((W2 F).run ad)
theorem app (ah:aZ ad) (F:Nat) (h:(zh F).ax):(zi F).ax:=h.rt ah rfl (by kernel_rfl) (ag' F)
theorem as7 (F:Nat) (aF:I.aU) (a8:I.aH) {cA:Type} (f:(Option I.bb) × Int->Option cA):(o0 F aF a8).bind f=dM (iG (o0 F aF a8)) (fun p=>f (some p.1,p.2)) (fun e=>f (none,e)):=aac _ _
@[reducible] noncomputable def W7 (F:Nat):mh aQ:=⟨[.a [.l 3,.i .i64,.i .i64,.i .i64,.i .i64,.l 3,.i .i64],.a [.l 134,.l 3,.l 124,.l 120,.l 121]],[],[⟨⟨[.p (.B 0),.p (.i .i64)],[.c 72 [.l 3,.i .i64,.i .i64,.i .i64,.i .i64,.l 3,.i .i64,.l 134,.l 3,.l 124,.l 120,.l 121,.l 3,.l 3,.M 1],.m 3 4]⟩,I.bb × Int,fun _ r=>(((),r.2,()),((r.1.H.Words,r.1.H.aW,r.1.H.a9,r.1.H.bq,r.1.H.bm,r.1.H.bg,r.1.H.Next,r.1.S.K.bJ,r.1.S.K.bB,r.1.S.K.Fields,r.1.S.K.Names,r.1.S.K.bC,r.1.aW,r.1.a9,(),()),r.1.dK,()))⟩,
  ⟨⟨[.p (.fD),.p (.i .i64)],[]⟩,Int,fun _ r=>(((),r,()),())⟩],fun d=>iG (o0 F (⟨d.1.1.1,d.1.1.2.1,d.1.1.2.2.1,d.1.1.2.2.2.1,d.1.1.2.2.2.2.1,d.1.1.2.2.2.2.2.1,d.1.1.2.2.2.2.2.2.1⟩:I.aU) (⟨d.1.2.1.1,d.1.2.1.2.1,d.1.2.1.2.2.1,d.1.2.1.2.2.2.1,d.1.2.1.2.2.2.2.1⟩:I.aH))⟩
theorem ahj (F:Nat):(W7 F).Eq ad (zi F).aM (zi F).LE 65 :=fun av aE=>by
 obtain ⟨⟨(aw:List Int),(v1:Int),(v2:Int),(aV:Int),(v4:Int),(a6:List Int),(v6:Int),_⟩,⟨(bk:List I.ap),(bn:List Int),(br:List (List I.Field)),(v10:List (List (List UInt8))),(v11:List (List I.Target)),_⟩,_⟩:=av
 conv=>rhs;change Option.map (α:=(I.bb × Int) ⊕ Int) _ (iG (o0 F (⟨aw,v1,v2,aV,v4,a6,v6⟩:I.aU) (⟨bk,bn,br,v10,v11⟩:I.aH)));simp only [o0,a',aad,aae,aaf,aag,aah,aai];simp only [xI]
 kernel_rfl
noncomputable def zj (F:Nat):a2 ad:=(zi F).f 65 ((W7 F).run ad)
theorem apq (ah:aZ ad) (F:Nat) (h:(zi F).ax):(zj F).ax:=h.abw ah rfl (by kernel_rfl) (ahj F)
theorem aaW (F:Nat) (aF:I.aU) (a8:I.aH) {cA:Type} (f:(Option I.bb) × Int->Option cA):(my F aF a8).bind f=dM (iG (my F aF a8)) (fun p=>f (some p.1,p.2)) (fun e=>f (none,e)):=aac _ _
@[reducible] noncomputable def WQ (F:Nat):mh aQ:=⟨[.a [.l 3,.i .i64,.i .i64,.i .i64,.i .i64,.l 3,.i .i64],.a [.l 134,.l 3,.l 124,.l 120,.l 121]],[],[⟨⟨[.p (.B 0),.p (.i .i64)],[.c 72 [.l 3,.i .i64,.i .i64,.i .i64,.i .i64,.l 3,.i .i64,.l 134,.l 3,.l 124,.l 120,.l 121,.l 3,.l 3,.M 1],.m 3 4]⟩,I.bb × Int,fun _ r=>(((),r.2,()),((r.1.H.Words,r.1.H.aW,r.1.H.a9,r.1.H.bq,r.1.H.bm,r.1.H.bg,r.1.H.Next,r.1.S.K.bJ,r.1.S.K.bB,r.1.S.K.Fields,r.1.S.K.Names,r.1.S.K.bC,r.1.aW,r.1.a9,(),()),r.1.dK,()))⟩,
  ⟨⟨[.p (.fD),.p (.i .i64)],[]⟩,Int,fun _ r=>(((),r,()),())⟩],fun d=>iG (my F (⟨d.1.1.1,d.1.1.2.1,d.1.1.2.2.1,d.1.1.2.2.2.1,d.1.1.2.2.2.2.1,d.1.1.2.2.2.2.2.1,d.1.1.2.2.2.2.2.2.1⟩:I.aU) (⟨d.1.2.1.1,d.1.2.1.2.1,d.1.2.1.2.2.1,d.1.2.1.2.2.2.1,d.1.2.1.2.2.2.2.1⟩:I.aH))⟩
theorem agX (F:Nat):(WQ F).Eq ad (zj F).aM (zj F).LE 33 :=fun av aE=>by
 obtain ⟨⟨(aw:List Int),(v1:Int),(v2:Int),(aV:Int),(v4:Int),(a6:List Int),(v6:Int),_⟩,⟨(bk:List I.ap),(bn:List Int),(br:List (List I.Field)),(v10:List (List (List UInt8))),(v11:List (List I.Target)),_⟩,_⟩:=av
 conv=>rhs;change Option.map (α:=(I.bb × Int) ⊕ Int) _ (iG (my F (⟨aw,v1,v2,aV,v4,a6,v6⟩:I.aU) (⟨bk,bn,br,v10,v11⟩:I.aH)));simp only [my,a',aad,aae,aaf,aag,aah,aai,as7];simp only [xI]
 kernel_rfl
noncomputable def zk (F:Nat):a2 ad:=(zj F).f 33 ((WQ F).run ad)
theorem apr (ah:aZ ad) (F:Nat) (h:(zj F).ax):(zk F).ax:=h.abw ah rfl (by kernel_rfl) (agX F)
@[reducible] noncomputable def XN (_:Nat):bS aQ:=⟨[.a [.l 3,.i .i64,.i .i64,.i .i64,.i .i64,.l 3,.i .i64]],[],[.p (.i .i64)],[],Int,fun d=>w7 (⟨d.1.1.1,d.1.1.2.1,d.1.1.2.2.1,d.1.1.2.2.2.1,d.1.1.2.2.2.2.1,d.1.1.2.2.2.2.2.1,d.1.1.2.2.2.2.2.2.1⟩:I.aU),fun _ r=>((r,()),())⟩
theorem aiE (F:Nat):(XN F).Eq ad (zk F).aM (zk F).LE 35 :=fun av aE=>by
 obtain ⟨⟨(aw:List Int),(v1:Int),(v2:Int),(aV:Int),(v4:Int),(a6:List Int),(v6:Int),_⟩,_⟩:=av
 conv=>rhs;change Option.map (α:=Int) _ (w7 (⟨aw,v1,v2,aV,v4,a6,v6⟩:I.aU));simp only [w7,a']
 kernel_rfl
noncomputable def zl (F:Nat):a2 ad:=(zk F).f 35 ((XN F).run ad)
theorem aps (ah:aZ ad) (F:Nat) (h:(zk F).ax):(zl F).ax:=h.rt ah rfl (by kernel_rfl) (aiE F)
@[reducible] noncomputable def XO (F:Nat):bS aQ:=⟨[.a [.l 3,.i .i64,.i .i64,.i .i64,.i .i64,.l 3,.i .i64],.a [.l 134,.l 3,.l 124,.l 120,.l 121]],[],[.p (.i .i64),.p (.i .i64)],[],Int × Int,fun d=>Fp F (⟨d.1.1.1,d.1.1.2.1,d.1.1.2.2.1,d.1.1.2.2.2.1,d.1.1.2.2.2.2.1,d.1.1.2.2.2.2.2.1,d.1.1.2.2.2.2.2.2.1⟩:I.aU) (⟨d.1.2.1.1,d.1.2.1.2.1,d.1.2.1.2.2.1,d.1.2.1.2.2.2.1,d.1.2.1.2.2.2.2.1⟩:I.aH),fun _ r=>((r.1,r.2,()),())⟩
theorem aiF (F:Nat):(XO F).Eq ad (zl F).aM (zl F).LE 19 :=fun av aE=>by
 obtain ⟨⟨(aw:List Int),(v1:Int),(v2:Int),(aV:Int),(v4:Int),(a6:List Int),(v6:Int),_⟩,⟨(bk:List I.ap),(bn:List Int),(br:List (List I.Field)),(v10:List (List (List UInt8))),(v11:List (List I.Target)),_⟩,_⟩:=av
 conv=>rhs;change Option.map (α:=Int × Int) _ (Fp F (⟨aw,v1,v2,aV,v4,a6,v6⟩:I.aU) (⟨bk,bn,br,v10,v11⟩:I.aH));simp only [Fp,a',aaW]
 kernel_rfl
noncomputable def zn (F:Nat):a2 ad:=(zl F).f 19 ((XO F).run ad)
theorem apu (ah:aZ ad) (F:Nat) (h:(zl F).ax):(zn F).ax:=h.rt ah rfl (by kernel_rfl) (aiF F)
@[reducible] noncomputable def Wc (_:Nat):bS aQ:=⟨[],[],[.p (.l 134)],[],List I.ap,fun _=>J8,fun _ r=>((r,()),())⟩
theorem afs (F:Nat):(Wc F).Eq ad (zn F).aM (zn F).LE 47 :=fun av aE=>by
 conv=>rhs;change Option.map (α:=List I.ap) _ (J8);simp only [J8,a']
 kernel_rfl
noncomputable def zo (F:Nat):a2 ad:=(zn F).f 47 ((Wc F).run ad)
theorem apv (ah:aZ ad) (F:Nat) (h:(zn F).ax):(zo F).ax:=h.rt ah rfl (by kernel_rfl) (afs F)
@[reducible] noncomputable def WO (_:Nat):bS aQ:=⟨[.p (.i .i64),.p (.i .i64)],[],[.a [.l 3,.i .i64,.i .i64,.i .i64,.i .i64,.l 3,.i .i64],.p (.i .i64)],[],I.aU × Int,fun d=>MP d.1.1 d.1.2.1,fun _ r=>(((r.1.Words,r.1.aW,r.1.a9,r.1.bq,r.1.bm,r.1.bg,r.1.Next,()),r.2,()),())⟩
theorem agW (F:Nat):(WO F).Eq ad (zo F).aM (zo F).LE 48 :=fun av aE=>by
 obtain ⟨(aw:Int),(v1:Int),_⟩:=av
 conv=>rhs;change Option.map (α:=I.aU × Int) _ (MP aw v1);simp only [MP,a']
 kernel_rfl
noncomputable def zp (F:Nat):a2 ad:=(zo F).f 48 ((WO F).run ad)
theorem apw (ah:aZ ad) (F:Nat) (h:(zo F).ax):(zp F).ax:=h.rt ah rfl (by kernel_rfl) (agW F)
@[reducible] noncomputable def WT (_:Nat):bS aQ:=⟨[.a [.l 134,.l 3,.l 124,.l 120,.l 121],.p (.i .i64),.p (.i .i64)],[],[.p (.i .i64)],[],Int,fun d=>G4 (⟨(⟨d.1.1.1,d.1.1.2.1,d.1.1.2.2.1,d.1.1.2.2.2.1,d.1.1.2.2.2.2.1⟩:I.aH)⟩:I.bM) d.1.2.1 d.1.2.2.1,fun _ r=>((r,()),())⟩
theorem ag0 (F:Nat):(WT F).Eq ad (zp F).aM (zp F).LE 57 :=fun av aE=>by
 obtain ⟨⟨(aw:List I.ap),(v1:List Int),(v2:List (List I.Field)),(aV:List (List (List UInt8))),(v4:List (List I.Target)),_⟩,(a6:Int),(v6:Int),_⟩:=av
 conv=>rhs;change Option.map (α:=Int) _ (G4 (⟨(⟨aw,v1,v2,aV,v4⟩:I.aH)⟩:I.bM) a6 v6);simp only [G4,a']
 kernel_rfl
noncomputable def zq (F:Nat):a2 ad:=(zp F).f 57 ((WT F).run ad)
theorem apx (ah:aZ ad) (F:Nat) (h:(zp F).ax):(zq F).ax:=h.rt ah rfl (by kernel_rfl) (ag0 F)
@[reducible] noncomputable def WR (_:Nat):bS aQ:=⟨[.a [.l 3,.i .i64,.i .i64,.i .i64,.i .i64,.l 3,.i .i64]],[],[.a [.R 0,.i .i64,.i .i64,.i .i64,.i .i64,.l 3,.i .i64]],[.r 3 false],I.aU,fun d=>G2 (⟨d.1.1.1,d.1.1.2.1,d.1.1.2.2.1,d.1.1.2.2.2.1,d.1.1.2.2.2.2.1,d.1.1.2.2.2.2.2.1,d.1.1.2.2.2.2.2.2.1⟩:I.aU),fun _ r=>((((),r.aW,r.a9,r.bq,r.bm,r.bg,r.Next,()),()),(r.Words,()))⟩
theorem agY (F:Nat):(WR F).Eq ad (zq F).aM (zq F).LE 36 :=fun av aE=>by
 obtain ⟨⟨(aw:List Int),(v1:Int),(v2:Int),(aV:Int),(v4:Int),(a6:List Int),(v6:Int),_⟩,_⟩:=av
 conv=>rhs;change Option.map (α:=I.aU) _ (G2 (⟨aw,v1,v2,aV,v4,a6,v6⟩:I.aU));simp only [G2,a',QZ]
 kernel_rfl
noncomputable def zr (F:Nat):a2 ad:=(zq F).f 36 ((WR F).run ad)
theorem apy (ah:aZ ad) (F:Nat) (h:(zq F).ax):(zr F).ax:=h.rt ah rfl (by kernel_rfl) (agY F)
@[reducible] noncomputable def WS (_:Nat):bS aQ:=⟨[.p (.B 0),.p (.i .i64),.p (.i .i64),.p (.b)],[.c 24 [.R 1,.i .i64,.i .i64,.i .i64,.i .i64,.l 3,.i .i64],.r 3 true],[.p (.i .i64),.p (.b)],[.c 24 [.R 1,.i .i64,.i .i64,.i .i64,.i .i64,.l 3,.i .i64],.r 3 true],Int × Bool × I.aU,fun d=>G3 (⟨d.2.2.1,d.2.1.2.1,d.2.1.2.2.1,d.2.1.2.2.2.1,d.2.1.2.2.2.2.1,d.2.1.2.2.2.2.2.1,d.2.1.2.2.2.2.2.2.1⟩:I.aU) d.1.2.1 d.1.2.2.1 d.1.2.2.2.1,fun d r=>((r.1,r.2.1,()),(((),d.2.1.2.1,d.2.1.2.2.1,r.2.2.bq,r.2.2.bm,d.2.1.2.2.2.2.2.1,r.2.2.Next,()),r.2.2.Words,()))⟩
theorem agZ (F:Nat):(WS F).Eq ad (zr F).aM (zr F).LE 85 :=fun av aE=>by
 obtain ⟨_,(aw:Int),(v1:Int),(v2:Bool),_⟩:=av
 obtain ⟨⟨_,(aV:Int),(v4:Int),(a6:Int),(v6:Int),(bk:List Int),(bn:Int),_⟩,(br:List Int),_⟩:=aE
 conv=>rhs;change Option.map (α:=Int × Bool × I.aU) _ (G3 (⟨br,aV,v4,a6,v6,bk,bn⟩:I.aU) aw v1 v2);simp only [G3,a']
 kernel_rfl
noncomputable def zs (F:Nat):a2 ad:=(zr F).f 85 ((WS F).run ad)
theorem apz (ah:aZ ad) (F:Nat) (h:(zr F).ax):(zs F).ax:=h.rt ah rfl (by kernel_rfl) (agZ F)
@[reducible] noncomputable def WN (F:Nat):bS aQ:=⟨[.a [.l 3,.i .i64,.i .i64,.i .i64,.i .i64,.l 3,.i .i64],.a [.l 134,.l 3,.l 124,.l 120,.l 121],.p (.i .i64),.p (.i .i64),.p (.b)],[],[.a [.l 3,.i .i64,.i .i64,.i .i64,.i .i64,.l 3,.i .i64],.p (.i .i64),.p (.i .i64)],[],I.aU × Int × Int,fun d=>MO F (⟨d.1.1.1,d.1.1.2.1,d.1.1.2.2.1,d.1.1.2.2.2.1,d.1.1.2.2.2.2.1,d.1.1.2.2.2.2.2.1,d.1.1.2.2.2.2.2.2.1⟩:I.aU) (⟨d.1.2.1.1,d.1.2.1.2.1,d.1.2.1.2.2.1,d.1.2.1.2.2.2.1,d.1.2.1.2.2.2.2.1⟩:I.aH) d.1.2.2.1 d.1.2.2.2.1 d.1.2.2.2.2.1,fun _ r=>(((r.1.Words,r.1.aW,r.1.a9,r.1.bq,r.1.bm,r.1.bg,r.1.Next,()),r.2.1,r.2.2,()),())⟩
theorem agV (F:Nat):(WN F).Eq ad (zs F).aM (zs F).LE 49 :=fun av aE=>by
 obtain ⟨⟨(aw:List Int),(v1:Int),(v2:Int),(aV:Int),(v4:Int),(a6:List Int),(v6:Int),_⟩,⟨(bk:List I.ap),(bn:List Int),(br:List (List I.Field)),(v10:List (List (List UInt8))),(v11:List (List I.Target)),_⟩,(bV:Int),(b9:Int),(cl:Bool),_⟩:=av
 conv=>rhs;change Option.map (α:=I.aU × Int × Int) _ (MO F (⟨aw,v1,v2,aV,v4,a6,v6⟩:I.aU) (⟨bk,bn,br,v10,v11⟩:I.aH) bV b9 cl);simp only [MO,a',aaW]
 kernel_rfl
noncomputable def zt (F:Nat):a2 ad:=(zs F).f 49 ((WN F).run ad)
theorem apA (ah:aZ ad) (F:Nat) (h:(zs F).ax):(zt F).ax:=h.rt ah rfl (by kernel_rfl) (agV F)
@[reducible] noncomputable def XP (F:Nat):bS aQ:=⟨[.p (.B 0),.p (.l 3)],[.c 72 [.l 3,.i .i64,.i .i64,.i .i64,.i .i64,.l 3,.i .i64,.l 134,.l 3,.l 124,.l 120,.l 121,.l 3,.l 3,.M 1],.m 3 4],[.p (.i .i64)],[.c 72 [.l 3,.i .i64,.i .i64,.i .i64,.i .i64,.l 3,.i .i64,.l 134,.l 3,.l 124,.l 120,.l 121,.l 3,.l 3,.M 1],.m 3 4],Int,fun d=>RH F (⟨(⟨d.2.1.1,d.2.1.2.1,d.2.1.2.2.1,d.2.1.2.2.2.1,d.2.1.2.2.2.2.1,d.2.1.2.2.2.2.2.1,d.2.1.2.2.2.2.2.2.1⟩:I.aU),(⟨(⟨d.2.1.2.2.2.2.2.2.2.1,d.2.1.2.2.2.2.2.2.2.2.1,d.2.1.2.2.2.2.2.2.2.2.2.1,d.2.1.2.2.2.2.2.2.2.2.2.2.1,d.2.1.2.2.2.2.2.2.2.2.2.2.2.1⟩:I.aH)⟩:I.bM),d.2.1.2.2.2.2.2.2.2.2.2.2.2.2.1,d.2.1.2.2.2.2.2.2.2.2.2.2.2.2.2.1,d.2.2.1⟩:I.bb) d.1.2.1,fun d r=>((r,()),((d.2.1.1,d.2.1.2.1,d.2.1.2.2.1,d.2.1.2.2.2.1,d.2.1.2.2.2.2.1,d.2.1.2.2.2.2.2.1,d.2.1.2.2.2.2.2.2.1,d.2.1.2.2.2.2.2.2.2.1,d.2.1.2.2.2.2.2.2.2.2.1,d.2.1.2.2.2.2.2.2.2.2.2.1,d.2.1.2.2.2.2.2.2.2.2.2.2.1,d.2.1.2.2.2.2.2.2.2.2.2.2.2.1,d.2.1.2.2.2.2.2.2.2.2.2.2.2.2.1,d.2.1.2.2.2.2.2.2.2.2.2.2.2.2.2.1,(),()),d.2.2.1,()))⟩
theorem aiG (F:Nat):(XP F).Eq ad (zt F).aM (zt F).LE 34 :=fun av aE=>by
 obtain ⟨_,(aw:List Int),_⟩:=av
 obtain ⟨⟨(v1:List Int),(v2:Int),(aV:Int),(v4:Int),(a6:Int),(v6:List Int),(bk:Int),(bn:List I.ap),(br:List Int),(v10:List (List I.Field)),(v11:List (List (List UInt8))),(bV:List (List I.Target)),(b9:List Int),(cl:List Int),_,_⟩,(c4:List (Int × Bool)),_⟩:=aE
 conv=>rhs;change Option.map (α:=Int) _ (RH F (⟨(⟨v1,v2,aV,v4,a6,v6,bk⟩:I.aU),(⟨(⟨bn,br,v10,v11,bV⟩:I.aH)⟩:I.bM),b9,cl,c4⟩:I.bb) aw);simp only [RH,a']
 kernel_rfl
noncomputable def zu (F:Nat):a2 ad:=(zt F).f 34 ((XP F).run ad)
theorem apB (ah:aZ ad) (F:Nat) (h:(zt F).ax):(zu F).ax:=h.rt ah rfl (by kernel_rfl) (aiG F)
@[reducible] noncomputable def YK (_:Nat):a5 aQ:=⟨[0,1,5],[.p (.l 136),.p (.l 136),.p (.i .i64)],[],
  [⟨⟨.nm,[],[],[]⟩,Unit,fun _ _=>((),())⟩,
   ⟨⟨.rt,[4],[.p (.b)],[]⟩,Bool,fun _ r=>((r,()),())⟩],
  fun k d=>a4 (sn d.1.1 d.1.2.1 k d.1.2.2.1)⟩
theorem agt (F:Nat):(YK F).bU.bP ad (zu F).aM ((zu F).LE 123) (bR ad.P 123) 0 (bT ad.P 123 0):=a5.b5 (fun d=>rfl) fun k av aE q h=>by
 obtain ⟨(aw:List I.Field),(v1:List I.Field),(v2:Int),_⟩:=av
 conv=>rhs;change Option.map (α:=Unit ⊕ Bool) _ (a4 (sn aw v1 (k+ 1) v2));simp only [sn,a'];simp only [bY]
 kernel_rfl
noncomputable def zv (F:Nat):a2 ad:=(zu F).l 123 0 ((YK F).run ad F)
theorem apC (ah:aZ ad) (F:Nat) (h:(zu F).ax):(zv F).ax:=h.b7 ah rfl (by kernel_rfl) (agt F) F
@[reducible] noncomputable def Wy (F:Nat):bS aQ:=⟨[.p (.l 136),.p (.l 136)],[],[.p (.b)],[],Bool,fun d=>u0 F d.1.1 d.1.2.1,fun _ r=>((r,()),())⟩
theorem ags (F:Nat):(Wy F).Eq ad (zv F).aM (zv F).LE 123 :=fun av aE=>by
 obtain ⟨(aw:List I.Field),(v1:List I.Field),_⟩:=av
 conv=>rhs;change Option.map (α:=Bool) _ (u0 F aw v1);simp only [u0,a']
 kernel_rfl
noncomputable def zw (F:Nat):a2 ad:=(zv F).f 123 ((Wy F).run ad)
theorem apD (ah:aZ ad) (F:Nat) (h:(zv F).ax):(zw F).ax:=h.rt ah rfl (by kernel_rfl) (ags F)
@[reducible] noncomputable def YM (_:Nat):a5 aQ:=⟨[0,1,5],[.p (.l 128),.p (.l 128),.p (.i .i64)],[],
  [⟨⟨.nm,[],[],[]⟩,Unit,fun _ _=>((),())⟩,
   ⟨⟨.rt,[4],[.p (.b)],[]⟩,Bool,fun _ r=>((r,()),())⟩],
  fun k d=>a4 (ln d.1.1 d.1.2.1 k d.1.2.2.1)⟩
theorem agy (F:Nat):(YM F).bU.bP ad (zw F).aM ((zw F).LE 148) (bR ad.P 148) 0 (bT ad.P 148 0):=a5.b5 (fun d=>rfl) fun k av aE q h=>by
 obtain ⟨(aw:List I.Kind),(v1:List I.Kind),(v2:Int),_⟩:=av
 conv=>rhs;change Option.map (α:=Unit ⊕ Bool) _ (a4 (ln aw v1 (k+ 1) v2));simp only [ln,a'];simp only [bY]
 kernel_rfl
noncomputable def zy (F:Nat):a2 ad:=(zw F).l 148 0 ((YM F).run ad F)
theorem apF (ah:aZ ad) (F:Nat) (h:(zw F).ax):(zy F).ax:=h.b7 ah rfl (by kernel_rfl) (agy F) F
@[reducible] noncomputable def WB (F:Nat):bS aQ:=⟨[.p (.l 128),.p (.l 128)],[],[.p (.b)],[],Bool,fun d=>oE F d.1.1 d.1.2.1,fun _ r=>((r,()),())⟩
theorem agx (F:Nat):(WB F).Eq ad (zy F).aM (zy F).LE 148 :=fun av aE=>by
 obtain ⟨(aw:List I.Kind),(v1:List I.Kind),_⟩:=av
 conv=>rhs;change Option.map (α:=Bool) _ (oE F aw v1);simp only [oE,a']
 kernel_rfl
noncomputable def zz (F:Nat):a2 ad:=(zy F).f 148 ((WB F).run ad)
theorem apG (ah:aZ ad) (F:Nat) (h:(zy F).ax):(zz F).ax:=h.rt ah rfl (by kernel_rfl) (agx F)
@[reducible] noncomputable def YJ (_:Nat):a5 aQ:=⟨[0,1,5,6,7,8,9,10,11],[.p (.l 134),.p (.l 134),.p (.i .i64),.p (.B 0),.p (.B 1),.p (.i .i64),.p (.B 2),.p (.B 3),.p (.i .i64)],[.c 134 [.s,.s,.l 136,.l 131],.c 134 [.s,.s,.l 136,.l 131],.c 131 [.s,.b,.l 128,.i .i64,.s,.i .i64,.i .i64,.s,.l 157],.c 131 [.s,.b,.l 128,.i .i64,.s,.i .i64,.i .i64,.s,.l 157]],
  [⟨⟨.nm,[0,1,5,6,7,8],[.p (.l 134),.p (.l 134),.p (.i .i64),.p (.B 0),.p (.B 1),.p (.i .i64)],[.c 134 [.s,.s,.l 136,.l 131],.c 134 [.s,.s,.l 136,.l 131],.c 131 [.s,.b,.l 128,.i .i64,.s,.i .i64,.i .i64,.s,.l 157],.c 131 [.s,.b,.l 128,.i .i64,.s,.i .i64,.i .i64,.s,.l 157]]⟩,Unit,fun d _=>((d.1.1,d.1.2.1,d.1.2.2.1,(),(),d.1.2.2.2.2.2.1,()),((d.2.1.1,d.2.1.2.1,d.2.1.2.2.1,d.2.1.2.2.2.1,()),(d.2.2.1.1,d.2.2.1.2.1,d.2.2.1.2.2.1,d.2.2.1.2.2.2.1,()),(d.2.2.2.1.1,d.2.2.2.1.2.1,d.2.2.2.1.2.2.1,d.2.2.2.1.2.2.2.1,d.2.2.2.1.2.2.2.2.1,d.2.2.2.1.2.2.2.2.2.1,d.2.2.2.1.2.2.2.2.2.2.1,d.2.2.2.1.2.2.2.2.2.2.2.1,d.2.2.2.1.2.2.2.2.2.2.2.2.1,()),(d.2.2.2.2.1.1,d.2.2.2.2.1.2.1,d.2.2.2.2.1.2.2.1,d.2.2.2.2.1.2.2.2.1,d.2.2.2.2.1.2.2.2.2.1,d.2.2.2.2.1.2.2.2.2.2.1,d.2.2.2.2.1.2.2.2.2.2.2.1,d.2.2.2.2.1.2.2.2.2.2.2.2.1,d.2.2.2.2.1.2.2.2.2.2.2.2.2.1,()),()))⟩,
   ⟨⟨.rt,[4],[.p (.b)],[.d,.d,.d,.d]⟩,Bool,fun _ r=>((r,()),((),(),(),(),()))⟩],
  fun k d=>a4 (sm (⟨d.2.2.2.1.1,d.2.2.2.1.2.1,d.2.2.2.1.2.2.1,(⟨d.2.2.2.1.2.2.2.1,d.2.2.2.1.2.2.2.2.1⟩:I.Kind),d.2.2.2.1.2.2.2.2.2.1,d.2.2.2.1.2.2.2.2.2.2.1,d.2.2.2.1.2.2.2.2.2.2.2.1,d.2.2.2.1.2.2.2.2.2.2.2.2.1⟩:I.Method) (⟨d.2.2.2.2.1.1,d.2.2.2.2.1.2.1,d.2.2.2.2.1.2.2.1,(⟨d.2.2.2.2.1.2.2.2.1,d.2.2.2.2.1.2.2.2.2.1⟩:I.Kind),d.2.2.2.2.1.2.2.2.2.2.1,d.2.2.2.2.1.2.2.2.2.2.2.1,d.2.2.2.2.1.2.2.2.2.2.2.2.1,d.2.2.2.2.1.2.2.2.2.2.2.2.2.1⟩:I.Method) k d.1.2.2.2.2.2.2.2.2.1)⟩
theorem agr (F:Nat):(YJ F).bU.bP ad (zz F).aM ((zz F).LE 122) (bR ad.P 122) 4 (bT ad.P 122 4):=a5.b5 (fun d=>rfl) fun k av aE q h=>by
 obtain ⟨(aw:List I.ap),(v1:List I.ap),(v2:Int),_,_,(aV:Int),_,_,(v4:Int),_⟩:=av
 obtain ⟨⟨(a6:List UInt8),(v6:List UInt8),(bk:List I.Field),(bn:List I.Method),_⟩,⟨(br:List UInt8),(v10:List UInt8),(v11:List I.Field),(bV:List I.Method),_⟩,⟨(b9:List UInt8),(cl:Bool),(c4:List I.Kind),(eG:Int),(e9:List UInt8),(im:Int),(uA:Int),(v20:List UInt8),(wW:List I.Handler),_⟩,⟨(Jg:List UInt8),(Jh:Bool),(Ji:List I.Kind),(Jj:Int),(Jk:List UInt8),(Jl:Int),(Jm:Int),(awl:List UInt8),(v30:List I.Handler),_⟩,_⟩:=aE
 conv=>rhs;change Option.map (α:=Unit ⊕ Bool) _ (a4 (sm (⟨b9,cl,c4,(⟨eG,e9⟩:I.Kind),im,uA,v20,wW⟩:I.Method) (⟨Jg,Jh,Ji,(⟨Jj,Jk⟩:I.Kind),Jl,Jm,awl,v30⟩:I.Method) (k+ 1) v4));simp only [sm,a'];simp only [bY]
 kernel_rfl
noncomputable def zA (F:Nat):a2 ad:=(zz F).l 122 4 ((YJ F).run ad F)
theorem apH (ah:aZ ad) (F:Nat) (h:(zz F).ax):(zA F).ax:=h.b7 ah rfl (by kernel_rfl) (agr F) F
@[reducible] noncomputable def YI (F:Nat):a5 aQ:=⟨[0,1,5,6,7,8],[.p (.l 134),.p (.l 134),.p (.i .i64),.p (.B 0),.p (.B 1),.p (.i .i64)],[.c 134 [.s,.s,.l 136,.l 131],.c 134 [.s,.s,.l 136,.l 131]],
  [⟨⟨.nm,[0,1,5],[.p (.l 134),.p (.l 134),.p (.i .i64)],[.c 134 [.s,.s,.l 136,.l 131],.c 134 [.s,.s,.l 136,.l 131]]⟩,Unit,fun d _=>((d.1.1,d.1.2.1,d.1.2.2.1,()),((d.2.1.1,d.2.1.2.1,d.2.1.2.2.1,d.2.1.2.2.2.1,()),(d.2.2.1.1,d.2.2.1.2.1,d.2.2.1.2.2.1,d.2.2.1.2.2.2.1,()),()))⟩,
   ⟨⟨.rt,[4],[.p (.b)],[.d,.d]⟩,Bool,fun _ r=>((r,()),((),(),()))⟩],
  fun k d=>a4 (sl F (⟨d.2.1.1,d.2.1.2.1,d.2.1.2.2.1,d.2.1.2.2.2.1⟩:I.ap) (⟨d.2.2.1.1,d.2.2.1.2.1,d.2.2.1.2.2.1,d.2.2.1.2.2.2.1⟩:I.ap) k d.1.2.2.2.2.2.1)⟩
theorem agq (F:Nat):(YI F).bU.bP ad (zA F).aM ((zA F).LE 122) (bR ad.P 122) 2 (bT ad.P 122 2):=a5.b5 (fun d=>rfl) fun k av aE q h=>by
 obtain ⟨(aw:List I.ap),(v1:List I.ap),(v2:Int),_,_,(aV:Int),_⟩:=av
 obtain ⟨⟨(v4:List UInt8),(a6:List UInt8),(v6:List I.Field),(bk:List I.Method),_⟩,⟨(bn:List UInt8),(br:List UInt8),(v10:List I.Field),(v11:List I.Method),_⟩,_⟩:=aE
 conv=>rhs;change Option.map (α:=Unit ⊕ Bool) _ (a4 (sl F (⟨v4,a6,v6,bk⟩:I.ap) (⟨bn,br,v10,v11⟩:I.ap) (k+ 1) aV));simp only [sl,a',OS,<-Bool.or_assoc];simp only [bY]
 kernel_rfl
noncomputable def zB (F:Nat):a2 ad:=(zA F).l 122 2 ((YI F).run ad F)
theorem apI (ah:aZ ad) (F:Nat) (h:(zA F).ax):(zB F).ax:=h.b7 ah rfl (by kernel_rfl) (agq F) F
@[reducible] noncomputable def YH (F:Nat):a5 aQ:=⟨[0,1,5],[.p (.l 134),.p (.l 134),.p (.i .i64)],[],
  [⟨⟨.nm,[],[],[]⟩,Unit,fun _ _=>((),())⟩,
   ⟨⟨.rt,[4],[.p (.b)],[]⟩,Bool,fun _ r=>((r,()),())⟩],
  fun k d=>a4 (sk F d.1.1 d.1.2.1 k d.1.2.2.1)⟩
theorem agp (F:Nat):(YH F).bU.bP ad (zB F).aM ((zB F).LE 122) (bR ad.P 122) 0 (bT ad.P 122 0):=a5.b5 (fun d=>rfl) fun k av aE q h=>by
 obtain ⟨(aw:List I.ap),(v1:List I.ap),(v2:Int),_⟩:=av
 conv=>rhs;change Option.map (α:=Unit ⊕ Bool) _ (a4 (sk F aw v1 (k+ 1) v2));simp only [sk,a'];simp only [bY]
 kernel_rfl
noncomputable def zC (F:Nat):a2 ad:=(zB F).l 122 0 ((YH F).run ad F)
theorem apJ (ah:aZ ad) (F:Nat) (h:(zB F).ax):(zC F).ax:=h.b7 ah rfl (by kernel_rfl) (agp F) F
@[reducible] noncomputable def Wx (F:Nat):bS aQ:=⟨[.p (.l 134),.p (.l 134)],[],[.p (.b)],[],Bool,fun d=>uZ F d.1.1 d.1.2.1,fun _ r=>((r,()),())⟩
theorem ago (F:Nat):(Wx F).Eq ad (zC F).aM (zC F).LE 122 :=fun av aE=>by
 obtain ⟨(aw:List I.ap),(v1:List I.ap),_⟩:=av
 conv=>rhs;change Option.map (α:=Bool) _ (uZ F aw v1);simp only [uZ,a']
 kernel_rfl
noncomputable def zD (F:Nat):a2 ad:=(zC F).f 122 ((Wx F).run ad)
theorem apK (ah:aZ ad) (F:Nat) (h:(zC F).ax):(zD F).ax:=h.rt ah rfl (by kernel_rfl) (ago F)
noncomputable def LJ (k:Nat) (cn:I.aH) (cE:I.aH) (rk:Int) (dn:Int):=c2 ((cn.bB.length:Int)=dn/\True) (a4 (sp cn cE k rk))
theorem Pr (k:Nat) (cn:I.aH) (cE:I.aH) (rk:Int):a4 (sp cn cE k rk)=LJ k cn cE rk (cn.bB.length:Int):=(dg ⟨rfl,trivial⟩).symm
@[reducible] noncomputable def YN (_:Nat):a5 aQ:=⟨[2,3,5,6],[.p (.B 0),.p (.B 1),.p (.i .i64),.p (.i .i64)],[.c 30 [.l 134,.l 3,.l 124,.l 120,.l 121],.c 30 [.l 134,.l 3,.l 124,.l 120,.l 121]],
  [⟨⟨.nm,[2,3],[.p (.B 0),.p (.B 1)],[.c 30 [.l 134,.l 3,.l 124,.l 120,.l 121],.c 30 [.l 134,.l 3,.l 124,.l 120,.l 121]]⟩,Unit,fun d _=>(((),(),()),((d.2.1.1,d.2.1.2.1,d.2.1.2.2.1,d.2.1.2.2.2.1,d.2.1.2.2.2.2.1,()),(d.2.2.1.1,d.2.2.1.2.1,d.2.2.1.2.2.1,d.2.2.1.2.2.2.1,d.2.2.1.2.2.2.2.1,()),()))⟩,
   ⟨⟨.rt,[4],[.p (.b)],[.d,.d]⟩,Bool,fun _ r=>((r,()),((),(),()))⟩],
  fun k d=>LJ k (⟨d.2.1.1,d.2.1.2.1,d.2.1.2.2.1,d.2.1.2.2.2.1,d.2.1.2.2.2.2.1⟩:I.aH) (⟨d.2.2.1.1,d.2.2.1.2.1,d.2.2.1.2.2.1,d.2.2.1.2.2.2.1,d.2.2.1.2.2.2.2.1⟩:I.aH) d.1.2.2.2.1 d.1.2.2.1⟩
theorem agA (F:Nat):(YN F).bU.bP ad (zD F).aM ((zD F).LE 87) (bR ad.P 87) 0 (bT ad.P 87 0):=a5.b5 (fun d=>df) fun k av aE q h=>by
 obtain ⟨_,_,(aw:Int),(v1:Int),_⟩:=av
 obtain ⟨⟨(v2:List I.ap),(aV:List Int),(v4:List (List I.Field)),(a6:List (List (List UInt8))),(v6:List (List I.Target)),_⟩,⟨(bk:List I.ap),(bn:List Int),(br:List (List I.Field)),(v10:List (List (List UInt8))),(v11:List (List I.Target)),_⟩,_⟩:=aE
 obtain ⟨aA,_⟩:=dI h
 dsimp only at aA
 obtain ⟨rfl,_⟩:=aA
 conv=>rhs;change Option.map (α:=Unit ⊕ Bool) _ (LJ (k+ 1) (⟨v2,aV,v4,a6,v6⟩:I.aH) (⟨bk,bn,br,v10,v11⟩:I.aH) v1 (aV.length:Int));rw [<-Pr (k+ 1) (⟨v2,aV,v4,a6,v6⟩:I.aH) (⟨bk,bn,br,v10,v11⟩:I.aH) v1];simp only [sp,a',Pr];simp only [bY]
 kernel_rfl
noncomputable def zE (F:Nat):a2 ad:=(zD F).l 87 0 ((YN F).run ad F)
theorem apL (ah:aZ ad) (F:Nat) (h:(zD F).ax):(zE F).ax:=h.b7 ah rfl (by kernel_rfl) (agA F) F
@[reducible] noncomputable def YO (F:Nat):a5 aQ:=⟨[2,3,7],[.p (.B 0),.p (.B 1),.p (.i .i64)],[.c 30 [.l 134,.l 3,.l 124,.l 120,.l 121],.c 30 [.l 134,.l 3,.l 124,.l 120,.l 121]],
  [⟨⟨.nm,[2,3],[.p (.B 0),.p (.B 1)],[.c 30 [.l 134,.l 3,.l 124,.l 120,.l 121],.c 30 [.l 134,.l 3,.l 124,.l 120,.l 121]]⟩,Unit,fun d _=>(((),(),()),((d.2.1.1,d.2.1.2.1,d.2.1.2.2.1,d.2.1.2.2.2.1,d.2.1.2.2.2.2.1,()),(d.2.2.1.1,d.2.2.1.2.1,d.2.2.1.2.2.1,d.2.2.1.2.2.2.1,d.2.2.1.2.2.2.2.1,()),()))⟩,
   ⟨⟨.rt,[4],[.p (.b)],[.d,.d]⟩,Bool,fun _ r=>((r,()),((),(),()))⟩],
  fun k d=>a4 (sq F (⟨d.2.1.1,d.2.1.2.1,d.2.1.2.2.1,d.2.1.2.2.2.1,d.2.1.2.2.2.2.1⟩:I.aH) (⟨d.2.2.1.1,d.2.2.1.2.1,d.2.2.1.2.2.1,d.2.2.1.2.2.2.1,d.2.2.1.2.2.2.2.1⟩:I.aH) k d.1.2.2.1)⟩
theorem agB (F:Nat):(YO F).bU.bP ad (zE F).aM ((zE F).LE 87) (bR ad.P 87) 2 (bT ad.P 87 2):=a5.b5 (fun d=>rfl) fun k av aE q h=>by
 obtain ⟨_,_,(aw:Int),_⟩:=av
 obtain ⟨⟨(v1:List I.ap),(v2:List Int),(aV:List (List I.Field)),(v4:List (List (List UInt8))),(a6:List (List I.Target)),_⟩,⟨(v6:List I.ap),(bk:List Int),(bn:List (List I.Field)),(br:List (List (List UInt8))),(v10:List (List I.Target)),_⟩,_⟩:=aE
 conv=>rhs;change Option.map (α:=Unit ⊕ Bool) _ (a4 (sq F (⟨v1,v2,aV,v4,a6⟩:I.aH) (⟨v6,bk,bn,br,v10⟩:I.aH) (k+ 1) aw));simp only [sq,a'];simp only [bY]
 kernel_rfl
noncomputable def zF (F:Nat):a2 ad:=(zE F).l 87 2 ((YO F).run ad F)
theorem apM (ah:aZ ad) (F:Nat) (h:(zE F).ax):(zF F).ax:=h.b7 ah rfl (by kernel_rfl) (agB F) F
@[reducible] noncomputable def YQ (_:Nat):a5 aQ:=⟨[2,3,8,9],[.p (.B 0),.p (.B 1),.p (.i .i64),.p (.i .i64)],[.c 30 [.l 134,.l 3,.l 124,.l 120,.l 121],.c 30 [.l 134,.l 3,.l 124,.l 120,.l 121]],
  [⟨⟨.nm,[2,3,8],[.p (.B 0),.p (.B 1),.p (.i .i64)],[.c 30 [.l 134,.l 3,.l 124,.l 120,.l 121],.c 30 [.l 134,.l 3,.l 124,.l 120,.l 121]]⟩,Unit,fun d _=>(((),(),d.1.2.2.1,()),((d.2.1.1,d.2.1.2.1,d.2.1.2.2.1,d.2.1.2.2.2.1,d.2.1.2.2.2.2.1,()),(d.2.2.1.1,d.2.2.1.2.1,d.2.2.1.2.2.1,d.2.2.1.2.2.2.1,d.2.2.1.2.2.2.2.1,()),()))⟩,
   ⟨⟨.rt,[4],[.p (.b)],[.d,.d]⟩,Bool,fun _ r=>((r,()),((),(),()))⟩],
  fun k d=>a4 (ss (⟨d.2.1.1,d.2.1.2.1,d.2.1.2.2.1,d.2.1.2.2.2.1,d.2.1.2.2.2.2.1⟩:I.aH) (⟨d.2.2.1.1,d.2.2.1.2.1,d.2.2.1.2.2.1,d.2.2.1.2.2.2.1,d.2.2.1.2.2.2.2.1⟩:I.aH) d.1.2.2.1 k d.1.2.2.2.1)⟩
theorem agD (F:Nat):(YQ F).bU.bP ad (zF F).aM ((zF F).LE 87) (bR ad.P 87) 6 (bT ad.P 87 6):=a5.b5 (fun d=>rfl) fun k av aE q h=>by
 obtain ⟨_,_,(aw:Int),(v1:Int),_⟩:=av
 obtain ⟨⟨(v2:List I.ap),(aV:List Int),(v4:List (List I.Field)),(a6:List (List (List UInt8))),(v6:List (List I.Target)),_⟩,⟨(bk:List I.ap),(bn:List Int),(br:List (List I.Field)),(v10:List (List (List UInt8))),(v11:List (List I.Target)),_⟩,_⟩:=aE
 conv=>rhs;change Option.map (α:=Unit ⊕ Bool) _ (a4 (ss (⟨v2,aV,v4,a6,v6⟩:I.aH) (⟨bk,bn,br,v10,v11⟩:I.aH) aw (k+ 1) v1));simp only [ss,a'];simp only [bY]
 kernel_rfl
noncomputable def zG (F:Nat):a2 ad:=(zF F).l 87 6 ((YQ F).run ad F)
theorem apN (ah:aZ ad) (F:Nat) (h:(zF F).ax):(zG F).ax:=h.b7 ah rfl (by kernel_rfl) (agD F) F
@[reducible] noncomputable def YP (F:Nat):a5 aQ:=⟨[2,3,8],[.p (.B 0),.p (.B 1),.p (.i .i64)],[.c 30 [.l 134,.l 3,.l 124,.l 120,.l 121],.c 30 [.l 134,.l 3,.l 124,.l 120,.l 121]],
  [⟨⟨.nm,[2,3],[.p (.B 0),.p (.B 1)],[.c 30 [.l 134,.l 3,.l 124,.l 120,.l 121],.c 30 [.l 134,.l 3,.l 124,.l 120,.l 121]]⟩,Unit,fun d _=>(((),(),()),((d.2.1.1,d.2.1.2.1,d.2.1.2.2.1,d.2.1.2.2.2.1,d.2.1.2.2.2.2.1,()),(d.2.2.1.1,d.2.2.1.2.1,d.2.2.1.2.2.1,d.2.2.1.2.2.2.1,d.2.2.1.2.2.2.2.1,()),()))⟩,
   ⟨⟨.rt,[4],[.p (.b)],[.d,.d]⟩,Bool,fun _ r=>((r,()),((),(),()))⟩],
  fun k d=>a4 (sr F (⟨d.2.1.1,d.2.1.2.1,d.2.1.2.2.1,d.2.1.2.2.2.1,d.2.1.2.2.2.2.1⟩:I.aH) (⟨d.2.2.1.1,d.2.2.1.2.1,d.2.2.1.2.2.1,d.2.2.1.2.2.2.1,d.2.2.1.2.2.2.2.1⟩:I.aH) k d.1.2.2.1)⟩
theorem agC (F:Nat):(YP F).bU.bP ad (zG F).aM ((zG F).LE 87) (bR ad.P 87) 4 (bT ad.P 87 4):=a5.b5 (fun d=>rfl) fun k av aE q h=>by
 obtain ⟨_,_,(aw:Int),_⟩:=av
 obtain ⟨⟨(v1:List I.ap),(v2:List Int),(aV:List (List I.Field)),(v4:List (List (List UInt8))),(a6:List (List I.Target)),_⟩,⟨(v6:List I.ap),(bk:List Int),(bn:List (List I.Field)),(br:List (List (List UInt8))),(v10:List (List I.Target)),_⟩,_⟩:=aE
 conv=>rhs;change Option.map (α:=Unit ⊕ Bool) _ (a4 (sr F (⟨v1,v2,aV,v4,a6⟩:I.aH) (⟨v6,bk,bn,br,v10⟩:I.aH) (k+ 1) aw));simp only [sr,a'];simp only [bY]
 kernel_rfl
noncomputable def zH (F:Nat):a2 ad:=(zG F).l 87 4 ((YP F).run ad F)
theorem apO (ah:aZ ad) (F:Nat) (h:(zG F).ax):(zH F).ax:=h.b7 ah rfl (by kernel_rfl) (agC F) F
@[reducible] noncomputable def YS (_:Nat):a5 aQ:=⟨[2,3,10,11],[.p (.B 0),.p (.B 1),.p (.i .i64),.p (.i .i64)],[.c 30 [.l 134,.l 3,.l 124,.l 120,.l 121],.c 30 [.l 134,.l 3,.l 124,.l 120,.l 121]],
  [⟨⟨.nm,[2,3,10],[.p (.B 0),.p (.B 1),.p (.i .i64)],[.c 30 [.l 134,.l 3,.l 124,.l 120,.l 121],.c 30 [.l 134,.l 3,.l 124,.l 120,.l 121]]⟩,Unit,fun d _=>(((),(),d.1.2.2.1,()),((d.2.1.1,d.2.1.2.1,d.2.1.2.2.1,d.2.1.2.2.2.1,d.2.1.2.2.2.2.1,()),(d.2.2.1.1,d.2.2.1.2.1,d.2.2.1.2.2.1,d.2.2.1.2.2.2.1,d.2.2.1.2.2.2.2.1,()),()))⟩,
   ⟨⟨.rt,[4],[.p (.b)],[.d,.d]⟩,Bool,fun _ r=>((r,()),((),(),()))⟩],
  fun k d=>a4 (su (⟨d.2.1.1,d.2.1.2.1,d.2.1.2.2.1,d.2.1.2.2.2.1,d.2.1.2.2.2.2.1⟩:I.aH) (⟨d.2.2.1.1,d.2.2.1.2.1,d.2.2.1.2.2.1,d.2.2.1.2.2.2.1,d.2.2.1.2.2.2.2.1⟩:I.aH) d.1.2.2.1 k d.1.2.2.2.1)⟩
theorem agF (F:Nat):(YS F).bU.bP ad (zH F).aM ((zH F).LE 87) (bR ad.P 87) 10 (bT ad.P 87 10):=a5.b5 (fun d=>rfl) fun k av aE q h=>by
 obtain ⟨_,_,(aw:Int),(v1:Int),_⟩:=av
 obtain ⟨⟨(v2:List I.ap),(aV:List Int),(v4:List (List I.Field)),(a6:List (List (List UInt8))),(v6:List (List I.Target)),_⟩,⟨(bk:List I.ap),(bn:List Int),(br:List (List I.Field)),(v10:List (List (List UInt8))),(v11:List (List I.Target)),_⟩,_⟩:=aE
 conv=>rhs;change Option.map (α:=Unit ⊕ Bool) _ (a4 (su (⟨v2,aV,v4,a6,v6⟩:I.aH) (⟨bk,bn,br,v10,v11⟩:I.aH) aw (k+ 1) v1));simp only [su,a'];simp only [bY]
 kernel_rfl
noncomputable def zJ (F:Nat):a2 ad:=(zH F).l 87 10 ((YS F).run ad F)
theorem apQ (ah:aZ ad) (F:Nat) (h:(zH F).ax):(zJ F).ax:=h.b7 ah rfl (by kernel_rfl) (agF F) F
@[reducible] noncomputable def YR (F:Nat):a5 aQ:=⟨[2,3,10],[.p (.B 0),.p (.B 1),.p (.i .i64)],[.c 30 [.l 134,.l 3,.l 124,.l 120,.l 121],.c 30 [.l 134,.l 3,.l 124,.l 120,.l 121]],
  [⟨⟨.nm,[],[],[.c 30 [.l 134,.l 3,.l 124,.l 120,.l 121],.c 30 [.l 134,.l 3,.l 124,.l 120,.l 121]]⟩,Unit,fun d _=>((),((d.2.1.1,d.2.1.2.1,d.2.1.2.2.1,d.2.1.2.2.2.1,d.2.1.2.2.2.2.1,()),(d.2.2.1.1,d.2.2.1.2.1,d.2.2.1.2.2.1,d.2.2.1.2.2.2.1,d.2.2.1.2.2.2.2.1,()),()))⟩,
   ⟨⟨.rt,[4],[.p (.b)],[.d,.d]⟩,Bool,fun _ r=>((r,()),((),(),()))⟩],
  fun k d=>a4 (st F (⟨d.2.1.1,d.2.1.2.1,d.2.1.2.2.1,d.2.1.2.2.2.1,d.2.1.2.2.2.2.1⟩:I.aH) (⟨d.2.2.1.1,d.2.2.1.2.1,d.2.2.1.2.2.1,d.2.2.1.2.2.2.1,d.2.2.1.2.2.2.2.1⟩:I.aH) k d.1.2.2.1)⟩
theorem agE (F:Nat):(YR F).bU.bP ad (zJ F).aM ((zJ F).LE 87) (bR ad.P 87) 8 (bT ad.P 87 8):=a5.b5 (fun d=>rfl) fun k av aE q h=>by
 obtain ⟨_,_,(aw:Int),_⟩:=av
 obtain ⟨⟨(v1:List I.ap),(v2:List Int),(aV:List (List I.Field)),(v4:List (List (List UInt8))),(a6:List (List I.Target)),_⟩,⟨(v6:List I.ap),(bk:List Int),(bn:List (List I.Field)),(br:List (List (List UInt8))),(v10:List (List I.Target)),_⟩,_⟩:=aE
 conv=>rhs;change Option.map (α:=Unit ⊕ Bool) _ (a4 (st F (⟨v1,v2,aV,v4,a6⟩:I.aH) (⟨v6,bk,bn,br,v10⟩:I.aH) (k+ 1) aw));simp only [st,a'];simp only [bY]
 kernel_rfl
noncomputable def zK (F:Nat):a2 ad:=(zJ F).l 87 8 ((YR F).run ad F)
theorem apR (ah:aZ ad) (F:Nat) (h:(zJ F).ax):(zK F).ax:=h.b7 ah rfl (by kernel_rfl) (agE F) F
@[reducible] noncomputable def WC (F:Nat):bS aQ:=⟨[.a [.l 134,.l 3,.l 124,.l 120,.l 121],.a [.l 134,.l 3,.l 124,.l 120,.l 121]],[],[.p (.b)],[],Bool,fun d=>u1 F (⟨d.1.1.1,d.1.1.2.1,d.1.1.2.2.1,d.1.1.2.2.2.1,d.1.1.2.2.2.2.1⟩:I.aH) (⟨d.1.2.1.1,d.1.2.1.2.1,d.1.2.1.2.2.1,d.1.2.1.2.2.2.1,d.1.2.1.2.2.2.2.1⟩:I.aH),fun _ r=>((r,()),())⟩
theorem agz (F:Nat):(WC F).Eq ad (zK F).aM (zK F).LE 87 :=fun av aE=>by
 obtain ⟨⟨(aw:List I.ap),(v1:List Int),(v2:List (List I.Field)),(aV:List (List (List UInt8))),(v4:List (List I.Target)),_⟩,⟨(a6:List I.ap),(v6:List Int),(bk:List (List I.Field)),(bn:List (List (List UInt8))),(br:List (List I.Target)),_⟩,_⟩:=av
 conv=>rhs;change Option.map (α:=Bool) _ (u1 F (⟨aw,v1,v2,aV,v4⟩:I.aH) (⟨a6,v6,bk,bn,br⟩:I.aH));simp only [u1,a',Pr]
 kernel_rfl
noncomputable def zL (F:Nat):a2 ad:=(zK F).f 87 ((WC F).run ad)
theorem apS (ah:aZ ad) (F:Nat) (h:(zK F).ax):(zL F).ax:=h.rt ah rfl (by kernel_rfl) (agz F)
@[reducible] noncomputable def YE (_:Nat):a5 aQ:=⟨[0,3],[.p (.s),.p (.i .i64)],[],
  [⟨⟨.nm,[0],[.p (.s)],[]⟩,Unit,fun d _=>((d.1.1,()),())⟩,
   ⟨⟨.rt,[2],[.p (.b)],[]⟩,Bool,fun _ r=>((r,()),())⟩],
  fun k d=>a4 (ng d.1.1 k d.1.2.1)⟩
theorem age (F:Nat):(YE F).bU.bP ad (zL F).aM ((zL F).LE 164) (bR ad.P 164) 0 (bT ad.P 164 0):=a5.b5 (fun d=>rfl) fun k av aE q h=>by
 obtain ⟨(aw:List UInt8),(v1:Int),_⟩:=av
 conv=>rhs;change Option.map (α:=Unit ⊕ Bool) _ (a4 (ng aw (k+ 1) v1));simp only [ng,a'];simp only [bY]
 kernel_rfl
noncomputable def zM (F:Nat):a2 ad:=(zL F).l 164 0 ((YE F).run ad F)
theorem apT (ah:aZ ad) (F:Nat) (h:(zL F).ax):(zM F).ax:=h.b7 ah rfl (by kernel_rfl) (age F) F
@[reducible] noncomputable def Wq (F:Nat):bS aQ:=⟨[.p (.s)],[],[.p (.b)],[],Bool,fun d=>ky F d.1.1,fun _ r=>((r,()),())⟩
theorem agd (F:Nat):(Wq F).Eq ad (zM F).aM (zM F).LE 164 :=fun av aE=>by
 obtain ⟨(aw:List UInt8),_⟩:=av
 conv=>rhs;change Option.map (α:=Bool) _ (ky F aw);simp only [ky,a']
 kernel_rfl
noncomputable def zN (F:Nat):a2 ad:=(zM F).f 164 ((Wq F).run ad)
theorem apU (ah:aZ ad) (F:Nat) (h:(zM F).ax):(zN F).ax:=h.rt ah rfl (by kernel_rfl) (agd F)
@[reducible] noncomputable def Ww (F:Nat):bS aQ:=⟨[.a [.i .i64,.s]],[],[.p (.b)],[],Bool,fun d=>oD F (⟨d.1.1.1,d.1.1.2.1⟩:I.Kind),fun _ r=>((r,()),())⟩
theorem agn (F:Nat):(Ww F).Eq ad (zN F).aM (zN F).LE 165 :=fun av aE=>by
 obtain ⟨⟨(aw:Int),(v1:List UInt8),_⟩,_⟩:=av
 conv=>rhs;change Option.map (α:=Bool) _ (oD F (⟨aw,v1⟩:I.Kind));simp only [oD,a']
 kernel_rfl
noncomputable def zO (F:Nat):a2 ad:=(zN F).f 165 ((Ww F).run ad)
theorem apV (ah:aZ ad) (F:Nat) (h:(zN F).ax):(zO F).ax:=h.rt ah rfl (by kernel_rfl) (agn F)
@[reducible] noncomputable def WK (_:Nat):bS aQ:=⟨[.p (.i .i64),.p (.i .i64),.p (.i .i64)],[],[.p (.b)],[],Bool,fun d=>e3 d.1.1 d.1.2.1 d.1.2.2.1,fun _ r=>((r,()),())⟩
theorem agS (F:Nat):(WK F).Eq ad (zO F).aM (zO F).LE 42 :=fun av aE=>by
 obtain ⟨(aw:Int),(v1:Int),(v2:Int),_⟩:=av
 conv=>rhs;change Option.map (α:=Bool) _ (e3 aw v1 v2);simp only [e3,a']
 kernel_rfl
noncomputable def zP (F:Nat):a2 ad:=(zO F).f 42 ((WK F).run ad)
theorem apW (ah:aZ ad) (F:Nat) (h:(zO F).ax):(zP F).ax:=h.rt ah rfl (by kernel_rfl) (agS F)
@[reducible] noncomputable def Yz (F:Nat):a5 aQ:=⟨[1,3],[.p (.B 0),.p (.i .i64)],[.c 131 [.s,.b,.l 128,.i .i64,.s,.i .i64,.i .i64,.s,.l 157]],
  [⟨⟨.nm,[1],[.p (.B 0)],[.c 131 [.s,.b,.l 128,.i .i64,.s,.i .i64,.i .i64,.s,.l 157]]⟩,Unit,fun d _=>(((),()),((d.2.1.1,d.2.1.2.1,d.2.1.2.2.1,d.2.1.2.2.2.1,d.2.1.2.2.2.2.1,d.2.1.2.2.2.2.2.1,d.2.1.2.2.2.2.2.2.1,d.2.1.2.2.2.2.2.2.2.1,d.2.1.2.2.2.2.2.2.2.2.1,()),()))⟩,
   ⟨⟨.rt,[2],[.p (.i .i64)],[.d]⟩,Int,fun _ r=>((r,()),((),()))⟩],
  fun k d=>a4 (sf F (⟨d.2.1.1,d.2.1.2.1,d.2.1.2.2.1,(⟨d.2.1.2.2.2.1,d.2.1.2.2.2.2.1⟩:I.Kind),d.2.1.2.2.2.2.2.1,d.2.1.2.2.2.2.2.2.1,d.2.1.2.2.2.2.2.2.2.1,d.2.1.2.2.2.2.2.2.2.2.1⟩:I.Method) k d.1.2.1)⟩
theorem af6 (F:Nat):(Yz F).bU.bP ad (zP F).aM ((zP F).LE 166) (bR ad.P 166) 0 (bT ad.P 166 0):=a5.b5 (fun d=>rfl) fun k av aE q h=>by
 obtain ⟨_,(aw:Int),_⟩:=av
 obtain ⟨⟨(v1:List UInt8),(v2:Bool),(aV:List I.Kind),(v4:Int),(a6:List UInt8),(v6:Int),(bk:Int),(bn:List UInt8),(br:List I.Handler),_⟩,_⟩:=aE
 conv=>rhs;change Option.map (α:=Unit ⊕ Int) _ (a4 (sf F (⟨v1,v2,aV,(⟨v4,a6⟩:I.Kind),v6,bk,bn,br⟩:I.Method) (k+ 1) aw));simp only [sf,a'];simp only [bY]
 kernel_rfl
noncomputable def zQ (F:Nat):a2 ad:=(zP F).l 166 0 ((Yz F).run ad F)
theorem apX (ah:aZ ad) (F:Nat) (h:(zP F).ax):(zQ F).ax:=h.b7 ah rfl (by kernel_rfl) (af6 F) F
@[reducible] noncomputable def YA (F:Nat):a5 aQ:=⟨[1,4],[.p (.B 0),.p (.i .i64)],[.c 131 [.s,.b,.l 128,.i .i64,.s,.i .i64,.i .i64,.s,.l 157]],
  [⟨⟨.nm,[],[],[.c 131 [.s,.b,.l 128,.i .i64,.s,.i .i64,.i .i64,.s,.l 157]]⟩,Unit,fun d _=>((),((d.2.1.1,d.2.1.2.1,d.2.1.2.2.1,d.2.1.2.2.2.1,d.2.1.2.2.2.2.1,d.2.1.2.2.2.2.2.1,d.2.1.2.2.2.2.2.2.1,d.2.1.2.2.2.2.2.2.2.1,d.2.1.2.2.2.2.2.2.2.2.1,()),()))⟩,
   ⟨⟨.rt,[2],[.p (.i .i64)],[.d]⟩,Int,fun _ r=>((r,()),((),()))⟩],
  fun k d=>a4 (sg F (⟨d.2.1.1,d.2.1.2.1,d.2.1.2.2.1,(⟨d.2.1.2.2.2.1,d.2.1.2.2.2.2.1⟩:I.Kind),d.2.1.2.2.2.2.2.1,d.2.1.2.2.2.2.2.2.1,d.2.1.2.2.2.2.2.2.2.1,d.2.1.2.2.2.2.2.2.2.2.1⟩:I.Method) k d.1.2.1)⟩
theorem af7 (F:Nat):(YA F).bU.bP ad (zQ F).aM ((zQ F).LE 166) (bR ad.P 166) 2 (bT ad.P 166 2):=a5.b5 (fun d=>rfl) fun k av aE q h=>by
 obtain ⟨_,(aw:Int),_⟩:=av
 obtain ⟨⟨(v1:List UInt8),(v2:Bool),(aV:List I.Kind),(v4:Int),(a6:List UInt8),(v6:Int),(bk:Int),(bn:List UInt8),(br:List I.Handler),_⟩,_⟩:=aE
 conv=>rhs;change Option.map (α:=Unit ⊕ Int) _ (a4 (sg F (⟨v1,v2,aV,(⟨v4,a6⟩:I.Kind),v6,bk,bn,br⟩:I.Method) (k+ 1) aw));simp only [sg,a'];simp only [bY]
 kernel_rfl
noncomputable def zR (F:Nat):a2 ad:=(zQ F).l 166 2 ((YA F).run ad F)
theorem apY (ah:aZ ad) (F:Nat) (h:(zQ F).ax):(zR F).ax:=h.b7 ah rfl (by kernel_rfl) (af7 F) F
@[reducible] noncomputable def Wl (F:Nat):bS aQ:=⟨[.a [.s,.b,.l 128,.i .i64,.s,.i .i64,.i .i64,.s,.l 157]],[],[.p (.i .i64)],[],Int,fun d=>sd F (⟨d.1.1.1,d.1.1.2.1,d.1.1.2.2.1,(⟨d.1.1.2.2.2.1,d.1.1.2.2.2.2.1⟩:I.Kind),d.1.1.2.2.2.2.2.1,d.1.1.2.2.2.2.2.2.1,d.1.1.2.2.2.2.2.2.2.1,d.1.1.2.2.2.2.2.2.2.2.1⟩:I.Method),fun _ r=>((r,()),())⟩
theorem af5 (F:Nat):(Wl F).Eq ad (zR F).aM (zR F).LE 166 :=fun av aE=>by
 obtain ⟨⟨(aw:List UInt8),(v1:Bool),(v2:List I.Kind),(aV:Int),(v4:List UInt8),(a6:Int),(v6:Int),(bk:List UInt8),(bn:List I.Handler),_⟩,_⟩:=av
 conv=>rhs;change Option.map (α:=Int) _ (sd F (⟨aw,v1,v2,(⟨aV,v4⟩:I.Kind),a6,v6,bk,bn⟩:I.Method));simp only [sd,a']
 kernel_rfl
noncomputable def zS (F:Nat):a2 ad:=(zR F).f 166 ((Wl F).run ad)
theorem apZ (ah:aZ ad) (F:Nat) (h:(zR F).ax):(zS F).ax:=h.rt ah rfl (by kernel_rfl) (af5 F)
@[reducible] noncomputable def X8 (F:Nat):a5 aQ:=⟨[0,3,4,5],[.p (.l 134),.p (.i .i64),.p (.B 0),.p (.i .i64)],[.c 134 [.s,.s,.l 136,.l 131]],
  [⟨⟨.nm,[0,3,4],[.p (.l 134),.p (.i .i64),.p (.B 0)],[.c 134 [.s,.s,.l 136,.l 131]]⟩,Unit,fun d _=>((d.1.1,d.1.2.1,(),()),((d.2.1.1,d.2.1.2.1,d.2.1.2.2.1,d.2.1.2.2.2.1,()),()))⟩,
   ⟨⟨.rt,[2],[.p (.i .i64)],[.d]⟩,Int,fun _ r=>((r,()),((),()))⟩],
  fun k d=>a4 (pQ F (⟨d.2.1.1,d.2.1.2.1,d.2.1.2.2.1,d.2.1.2.2.2.1⟩:I.ap) k d.1.2.2.2.1)⟩
theorem as5 (F:Nat) (k:Nat) (eM:I.ap) (wy:Int):a4 (xi F eM k wy)=a4 (pQ F eM k wy):=by kernel_rfl
theorem afA (F:Nat):(X8 F).bU.bP ad (zS F).aM ((zS F).LE 145) (bR ad.P 145) 2 (bT ad.P 145 2):=a5.b5 (fun d=>rfl) fun k av aE q h=>by
 obtain ⟨(aw:List I.ap),(v1:Int),_,(v2:Int),_⟩:=av
 obtain ⟨⟨(aV:List UInt8),(v4:List UInt8),(a6:List I.Field),(v6:List I.Method),_⟩,_⟩:=aE
 conv=>rhs;change Option.map (α:=Unit ⊕ Int) _ (a4 (pQ F (⟨aV,v4,a6,v6⟩:I.ap) (k+ 1) v2));simp only [pQ,a'];simp only [bY]
 kernel_rfl
noncomputable def zU (F:Nat):a2 ad:=(zS F).l 145 2 ((X8 F).run ad F)
theorem ap1 (ah:aZ ad) (F:Nat) (h:(zS F).ax):(zU F).ax:=h.b7 ah rfl (by kernel_rfl) (afA F) F
@[reducible] noncomputable def X9 (F:Nat):a5 aQ:=⟨[0,3,4,6],[.p (.l 134),.p (.i .i64),.p (.B 0),.p (.i .i64)],[.c 134 [.s,.s,.l 136,.l 131]],
  [⟨⟨.nm,[0,3],[.p (.l 134),.p (.i .i64)],[.c 134 [.s,.s,.l 136,.l 131]]⟩,Unit,fun d _=>((d.1.1,d.1.2.1,()),((d.2.1.1,d.2.1.2.1,d.2.1.2.2.1,d.2.1.2.2.2.1,()),()))⟩,
   ⟨⟨.rt,[2],[.p (.i .i64)],[.d]⟩,Int,fun _ r=>((r,()),((),()))⟩],
  fun k d=>a4 (pR F (⟨d.2.1.1,d.2.1.2.1,d.2.1.2.2.1,d.2.1.2.2.2.1⟩:I.ap) k d.1.2.2.2.1)⟩
theorem as6 (F:Nat) (k:Nat) (eM:I.ap) (yo:Int):a4 (xj F eM k yo)=a4 (pR F eM k yo):=by kernel_rfl
theorem afB (F:Nat):(X9 F).bU.bP ad (zU F).aM ((zU F).LE 145) (bR ad.P 145) 4 (bT ad.P 145 4):=a5.b5 (fun d=>rfl) fun k av aE q h=>by
 obtain ⟨(aw:List I.ap),(v1:Int),_,(v2:Int),_⟩:=av
 obtain ⟨⟨(aV:List UInt8),(v4:List UInt8),(a6:List I.Field),(v6:List I.Method),_⟩,_⟩:=aE
 conv=>rhs;change Option.map (α:=Unit ⊕ Int) _ (a4 (pR F (⟨aV,v4,a6,v6⟩:I.ap) (k+ 1) v2));simp only [pR,a'];simp only [bY]
 kernel_rfl
noncomputable def zV (F:Nat):a2 ad:=(zU F).l 145 4 ((X9 F).run ad F)
theorem ap2 (ah:aZ ad) (F:Nat) (h:(zU F).ax):(zV F).ax:=h.b7 ah rfl (by kernel_rfl) (afB F) F
@[reducible] noncomputable def X7 (F:Nat):a5 aQ:=⟨[0,3],[.p (.l 134),.p (.i .i64)],[],
  [⟨⟨.nm,[],[],[]⟩,Unit,fun _ _=>((),())⟩,
   ⟨⟨.rt,[2],[.p (.i .i64)],[]⟩,Int,fun _ r=>((r,()),())⟩],
  fun k d=>a4 (r0 F d.1.1 k d.1.2.1)⟩
theorem afz (F:Nat):(X7 F).bU.bP ad (zV F).aM ((zV F).LE 145) (bR ad.P 145) 0 (bT ad.P 145 0):=a5.b5 (fun d=>rfl) fun k av aE q h=>by
 obtain ⟨(aw:List I.ap),(v1:Int),_⟩:=av
 conv=>rhs;change Option.map (α:=Unit ⊕ Int) _ (a4 (r0 F aw (k+ 1) v1));simp only [r0,a',as5,as6];simp only [bY]
 kernel_rfl
noncomputable def zW (F:Nat):a2 ad:=(zV F).l 145 0 ((X7 F).run ad F)
theorem ap3 (ah:aZ ad) (F:Nat) (h:(zV F).ax):(zW F).ax:=h.b7 ah rfl (by kernel_rfl) (afz F) F
@[reducible] noncomputable def Wh (F:Nat):bS aQ:=⟨[.p (.l 134)],[],[.p (.i .i64)],[],Int,fun d=>xh F d.1.1,fun _ r=>((r,()),())⟩
theorem afy (F:Nat):(Wh F).Eq ad (zW F).aM (zW F).LE 145 :=fun av aE=>by
 obtain ⟨(aw:List I.ap),_⟩:=av
 conv=>rhs;change Option.map (α:=Int) _ (xh F aw);simp only [xh,a']
 kernel_rfl
noncomputable def zX (F:Nat):a2 ad:=(zW F).f 145 ((Wh F).run ad)
theorem ap4 (ah:aZ ad) (F:Nat) (h:(zW F).ax):(zX F).ax:=h.rt ah rfl (by kernel_rfl) (afy F)
@[reducible] noncomputable def YC (_:Nat):a5 aQ:=⟨[0,1,5],[.p (.l 134),.p (.s),.p (.i .i64)],[],
  [⟨⟨.nm,[],[],[]⟩,Unit,fun _ _=>((),())⟩,
   ⟨⟨.rt,[4],[.p (.i .i64)],[]⟩,Int,fun _ r=>((r,()),())⟩],
  fun k d=>a4 (sh d.1.1 d.1.2.1 k d.1.2.2.1)⟩
theorem af' (F:Nat):(YC F).bU.bP ad (zX F).aM ((zX F).LE 121) (bR ad.P 121) 0 (bT ad.P 121 0):=a5.b5 (fun d=>rfl) fun k av aE q h=>by
 obtain ⟨(aw:List I.ap),(v1:List UInt8),(v2:Int),_⟩:=av
 conv=>rhs;change Option.map (α:=Unit ⊕ Int) _ (a4 (sh aw v1 (k+ 1) v2));simp only [sh,a'];simp only [bY]
 kernel_rfl
noncomputable def zY (F:Nat):a2 ad:=(zX F).l 121 0 ((YC F).run ad F)
theorem ap5 (ah:aZ ad) (F:Nat) (h:(zX F).ax):(zY F).ax:=h.b7 ah rfl (by kernel_rfl) (af' F) F
@[reducible] noncomputable def Wn (F:Nat):bS aQ:=⟨[.p (.l 134),.p (.s)],[],[.p (.i .i64)],[],Int,fun d=>kx F d.1.1 d.1.2.1,fun _ r=>((r,()),())⟩
theorem af_ (F:Nat):(Wn F).Eq ad (zY F).aM (zY F).LE 121 :=fun av aE=>by
 obtain ⟨(aw:List I.ap),(v1:List UInt8),_⟩:=av
 conv=>rhs;change Option.map (α:=Int) _ (kx F aw v1);simp only [kx,a']
 kernel_rfl
noncomputable def zZ (F:Nat):a2 ad:=(zY F).f 121 ((Wn F).run ad)
theorem ap6 (ah:aZ ad) (F:Nat) (h:(zY F).ax):(zZ F).ax:=h.rt ah rfl (by kernel_rfl) (af_ F)
@[reducible] noncomputable def YY (F:Nat):a5 aQ:=⟨[0,1,5],[.p (.l 134),.p (.i .i64),.p (.l 3)],[],
  [⟨⟨.nm,[5],[.p (.l 3)],[]⟩,List Int,fun _ r=>((r,()),())⟩,
   ⟨⟨.rt,[4],[.p (.l 3)],[]⟩,List Int,fun _ r=>((r,()),())⟩],
  fun k d=>a4 (sy F d.1.1 k d.1.2.1 d.1.2.2.1)⟩
theorem agQ (F:Nat):(YY F).bU.bP ad (zZ F).aM ((zZ F).LE 146) (bR ad.P 146) 0 (bT ad.P 146 0):=a5.b5 (fun d=>rfl) fun k av aE q h=>by
 obtain ⟨(aw:List I.ap),(v1:Int),(v2:List Int),_⟩:=av
 conv=>rhs;change Option.map (α:=(List Int) ⊕ (List Int)) _ (a4 (sy F aw (k+ 1) v1 v2));simp only [sy,a'];simp only [bY]
 kernel_rfl
noncomputable def z0 (F:Nat):a2 ad:=(zZ F).l 146 0 ((YY F).run ad F)
theorem ap7 (ah:aZ ad) (F:Nat) (h:(zZ F).ax):(z0 F).ax:=h.b7 ah rfl (by kernel_rfl) (agQ F) F
@[reducible] noncomputable def WI (F:Nat):bS aQ:=⟨[.p (.l 134),.p (.i .i64)],[],[.p (.l 3)],[],List Int,fun d=>p1 F d.1.1 d.1.2.1,fun _ r=>((r,()),())⟩
theorem agP (F:Nat):(WI F).Eq ad (z0 F).aM (z0 F).LE 146 :=fun av aE=>by
 obtain ⟨(aw:List I.ap),(v1:Int),_⟩:=av
 conv=>rhs;change Option.map (α:=List Int) _ (p1 F aw v1);simp only [p1,a']
 kernel_rfl
noncomputable def z1 (F:Nat):a2 ad:=(z0 F).f 146 ((WI F).run ad)
theorem ap8 (ah:aZ ad) (F:Nat) (h:(z0 F).ax):(z1 F).ax:=h.rt ah rfl (by kernel_rfl) (agP F)
@[reducible] noncomputable def X6 (_:Nat):a5 aQ:=⟨[0,5,6,7],[.p (.l 134),.p (.R 0),.p (.l 3),.p (.i .i64)],[.r 136 false],
  [⟨⟨.nm,[5],[.p (.R 0)],[.r 136 false]⟩,List I.Field,fun _ r=>(((),()),(r,()))⟩],
  fun k d=>nd d.1.1 d.1.2.2.1 k d.2.1 d.1.2.2.2.1⟩
theorem afx (F:Nat):(X6 F).bU.bP ad (z1 F).aM ((z1 F).LE 119) (bR ad.P 119) 0 (bT ad.P 119 0):=a5.b5 (fun d=>rfl) fun k av aE q h=>by
 obtain ⟨(aw:List I.ap),_,(v1:List Int),(v2:Int),_⟩:=av
 obtain ⟨(aV:List I.Field),_⟩:=aE
 conv=>rhs;change Option.map (α:=List I.Field) _ (nd aw v1 (k+ 1) aV v2);simp only [nd,a'];simp only [bY]
 kernel_rfl
noncomputable def z2 (F:Nat):a2 ad:=(z1 F).l 119 0 ((X6 F).run ad F)
theorem ap9 (ah:aZ ad) (F:Nat) (h:(z1 F).ax):(z2 F).ax:=h.b7 ah rfl (by kernel_rfl) (afx F) F
@[reducible] noncomputable def Wg (F:Nat):bS aQ:=⟨[.p (.l 134),.p (.i .i64)],[],[.p (.l 136)],[],List I.Field,fun d=>rZ F d.1.1 d.1.2.1,fun _ r=>((r,()),())⟩
theorem afw (F:Nat):(Wg F).Eq ad (z2 F).aM (z2 F).LE 119 :=fun av aE=>by
 obtain ⟨(aw:List I.ap),(v1:Int),_⟩:=av
 conv=>rhs;change Option.map (α:=List I.Field) _ (rZ F aw v1);simp only [rZ,a']
 kernel_rfl
noncomputable def z3 (F:Nat):a2 ad:=(z2 F).f 119 ((Wg F).run ad)
theorem ap_ (ah:aZ ad) (F:Nat) (h:(z2 F).ax):(z3 F).ax:=h.rt ah rfl (by kernel_rfl) (afw F)
@[reducible] noncomputable def YX (F:Nat):a5 aQ:=⟨[0,1,5],[.p (.l 134),.p (.l 128),.p (.i .i64)],[],
  [⟨⟨.nm,[],[],[]⟩,Unit,fun _ _=>((),())⟩,
   ⟨⟨.rt,[4],[.p (.b)],[]⟩,Bool,fun _ r=>((r,()),())⟩],
  fun k d=>a4 (p0 F d.1.2.1 d.1.1 k d.1.2.2.1)⟩
theorem agO (F:Nat):(YX F).bU.bP ad (z3 F).aM ((z3 F).LE 147) (bR ad.P 147) 0 (bT ad.P 147 0):=a5.b5 (fun d=>rfl) fun k av aE q h=>by
 obtain ⟨(aw:List I.ap),(v1:List I.Kind),(v2:Int),_⟩:=av
 conv=>rhs;change Option.map (α:=Unit ⊕ Bool) _ (a4 (p0 F v1 aw (k+ 1) v2));simp only [p0,a'];simp only [bY]
 kernel_rfl
noncomputable def z5 (F:Nat):a2 ad:=(z3 F).l 147 0 ((YX F).run ad F)
theorem aqa (ah:aZ ad) (F:Nat) (h:(z3 F).ax):(z5 F).ax:=h.b7 ah rfl (by kernel_rfl) (agO F) F
@[reducible] noncomputable def WH (F:Nat):bS aQ:=⟨[.p (.l 134),.p (.l 128)],[],[.p (.b)],[],Bool,fun d=>sx F d.1.1 d.1.2.1,fun _ r=>((r,()),())⟩
theorem agN (F:Nat):(WH F).Eq ad (z5 F).aM (z5 F).LE 147 :=fun av aE=>by
 obtain ⟨(aw:List I.ap),(v1:List I.Kind),_⟩:=av
 conv=>rhs;change Option.map (α:=Bool) _ (sx F aw v1);simp only [sx,a']
 kernel_rfl
noncomputable def z6 (F:Nat):a2 ad:=(z5 F).f 147 ((WH F).run ad)
theorem aqb (ah:aZ ad) (F:Nat) (h:(z5 F).ax):(z6 F).ax:=h.rt ah rfl (by kernel_rfl) (agN F)
@[reducible] noncomputable def Yi (F:Nat):a5 aQ:=⟨[0,4],[.p (.l 134),.p (.i .i64)],[],
  [⟨⟨.nm,[0],[.p (.l 134)],[]⟩,Unit,fun d _=>((d.1.1,()),())⟩,
   ⟨⟨.rt,[2],[.p (.i .i64)],[]⟩,Int,fun _ r=>((r,()),())⟩],
  fun k d=>a4 (oz F d.1.1 k d.1.2.1)⟩
theorem afN (F:Nat):(Yi F).bU.bP ad (z6 F).aM ((z6 F).LE 118) (bR ad.P 118) 0 (bT ad.P 118 0):=a5.b5 (fun d=>rfl) fun k av aE q h=>by
 obtain ⟨(aw:List I.ap),(v1:Int),_⟩:=av
 conv=>rhs;change Option.map (α:=Unit ⊕ Int) _ (a4 (oz F aw (k+ 1) v1));simp only [oz,a'];simp only [bY]
 kernel_rfl
noncomputable def z7 (F:Nat):a2 ad:=(z6 F).l 118 0 ((Yi F).run ad F)
theorem aqc (ah:aZ ad) (F:Nat) (h:(z6 F).ax):(z7 F).ax:=h.b7 ah rfl (by kernel_rfl) (afN F) F
@[reducible] noncomputable def Yr (_:Nat):a5 aQ:=⟨[0,5],[.p (.l 134),.p (.i .i64)],[],
  [⟨⟨.nm,[0],[.p (.l 134)],[]⟩,Unit,fun d _=>((d.1.1,()),())⟩,
   ⟨⟨.rt,[2],[.p (.i .i64)],[]⟩,Int,fun _ r=>((r,()),())⟩],
  fun k d=>a4 (r9 d.1.1 k d.1.2.1)⟩
theorem afW (F:Nat):(Yr F).bU.bP ad (z7 F).aM ((z7 F).LE 118) (bR ad.P 118) 2 (bT ad.P 118 2):=a5.b5 (fun d=>rfl) fun k av aE q h=>by
 obtain ⟨(aw:List I.ap),(v1:Int),_⟩:=av
 conv=>rhs;change Option.map (α:=Unit ⊕ Int) _ (a4 (r9 aw (k+ 1) v1));simp only [r9,a'];simp only [bY]
 kernel_rfl
noncomputable def z8 (F:Nat):a2 ad:=(z7 F).l 118 2 ((Yr F).run ad F)
theorem aqd (ah:aZ ad) (F:Nat) (h:(z7 F).ax):(z8 F).ax:=h.b7 ah rfl (by kernel_rfl) (afW F) F
@[reducible] noncomputable def Ys (F:Nat):a5 aQ:=⟨[0,6],[.p (.l 134),.p (.i .i64)],[],
  [⟨⟨.nm,[0],[.p (.l 134)],[]⟩,Unit,fun d _=>((d.1.1,()),())⟩,
   ⟨⟨.rt,[2],[.p (.i .i64)],[]⟩,Int,fun _ r=>((r,()),())⟩],
  fun k d=>a4 (pV F d.1.1 k d.1.2.1)⟩
theorem afX (F:Nat):(Ys F).bU.bP ad (z8 F).aM ((z8 F).LE 118) (bR ad.P 118) 4 (bT ad.P 118 4):=a5.b5 (fun d=>rfl) fun k av aE q h=>by
 obtain ⟨(aw:List I.ap),(v1:Int),_⟩:=av
 conv=>rhs;change Option.map (α:=Unit ⊕ Int) _ (a4 (pV F aw (k+ 1) v1));simp only [pV,a'];simp only [bY]
 kernel_rfl
noncomputable def z9 (F:Nat):a2 ad:=(z8 F).l 118 4 ((Ys F).run ad F)
theorem aqe (ah:aZ ad) (F:Nat) (h:(z8 F).ax):(z9 F).ax:=h.b7 ah rfl (by kernel_rfl) (afX F) F
@[reducible] noncomputable def Yt (F:Nat):a5 aQ:=⟨[0,7],[.p (.l 134),.p (.i .i64)],[],
  [⟨⟨.nm,[0],[.p (.l 134)],[]⟩,Unit,fun d _=>((d.1.1,()),())⟩,
   ⟨⟨.rt,[2],[.p (.i .i64)],[]⟩,Int,fun _ r=>((r,()),())⟩],
  fun k d=>a4 (r_ F d.1.1 k d.1.2.1)⟩
theorem afY (F:Nat):(Yt F).bU.bP ad (z9 F).aM ((z9 F).LE 118) (bR ad.P 118) 6 (bT ad.P 118 6):=a5.b5 (fun d=>rfl) fun k av aE q h=>by
 obtain ⟨(aw:List I.ap),(v1:Int),_⟩:=av
 conv=>rhs;change Option.map (α:=Unit ⊕ Int) _ (a4 (r_ F aw (k+ 1) v1));simp only [r_,a'];simp only [bY]
 kernel_rfl
noncomputable def z_ (F:Nat):a2 ad:=(z9 F).l 118 6 ((Yt F).run ad F)
theorem aqf (ah:aZ ad) (F:Nat) (h:(z9 F).ax):(z_ F).ax:=h.b7 ah rfl (by kernel_rfl) (afY F) F
@[reducible] noncomputable def Yv (F:Nat):a5 aQ:=⟨[0,10,11],[.p (.l 134),.p (.i .i64),.p (.i .i64)],[],
  [⟨⟨.nm,[0,10],[.p (.l 134),.p (.i .i64)],[]⟩,Unit,fun d _=>((d.1.1,d.1.2.1,()),())⟩,
   ⟨⟨.rt,[2],[.p (.i .i64)],[]⟩,Int,fun _ r=>((r,()),())⟩],
  fun k d=>a4 (r' F d.1.1 d.1.2.1 k d.1.2.2.1)⟩
theorem af0 (F:Nat):(Yv F).bU.bP ad (z_ F).aM ((z_ F).LE 118) (bR ad.P 118) 10 (bT ad.P 118 10):=a5.b5 (fun d=>rfl) fun k av aE q h=>by
 obtain ⟨(aw:List I.ap),(v1:Int),(v2:Int),_⟩:=av
 conv=>rhs;change Option.map (α:=Unit ⊕ Int) _ (a4 (r' F aw v1 (k+ 1) v2));simp only [r',a'];simp only [bY]
 kernel_rfl
noncomputable def z' (F:Nat):a2 ad:=(z_ F).l 118 10 ((Yv F).run ad F)
theorem aqg (ah:aZ ad) (F:Nat) (h:(z_ F).ax):(z' F).ax:=h.b7 ah rfl (by kernel_rfl) (af0 F) F
@[reducible] noncomputable def Yx (F:Nat):a5 aQ:=⟨[0,10,12,13,14],[.p (.l 134),.p (.i .i64),.p (.i .i64),.p (.B 0),.p (.i .i64)],[.c 131 [.s,.b,.l 128,.i .i64,.s,.i .i64,.i .i64,.s,.l 157]],
  [⟨⟨.nm,[0,10,12],[.p (.l 134),.p (.i .i64),.p (.i .i64)],[.c 131 [.s,.b,.l 128,.i .i64,.s,.i .i64,.i .i64,.s,.l 157]]⟩,Unit,fun d _=>((d.1.1,d.1.2.1,d.1.2.2.1,()),((d.2.1.1,d.2.1.2.1,d.2.1.2.2.1,d.2.1.2.2.2.1,d.2.1.2.2.2.2.1,d.2.1.2.2.2.2.2.1,d.2.1.2.2.2.2.2.2.1,d.2.1.2.2.2.2.2.2.2.1,d.2.1.2.2.2.2.2.2.2.2.1,()),()))⟩,
   ⟨⟨.rt,[2],[.p (.i .i64)],[.d]⟩,Int,fun _ r=>((r,()),((),()))⟩],
  fun k d=>a4 (sb F d.1.1 (⟨d.2.1.1,d.2.1.2.1,d.2.1.2.2.1,(⟨d.2.1.2.2.2.1,d.2.1.2.2.2.2.1⟩:I.Kind),d.2.1.2.2.2.2.2.1,d.2.1.2.2.2.2.2.2.1,d.2.1.2.2.2.2.2.2.2.1,d.2.1.2.2.2.2.2.2.2.2.1⟩:I.Method) k d.1.2.2.2.2.1)⟩
theorem af2 (F:Nat):(Yx F).bU.bP ad (z' F).aM ((z' F).LE 118) (bR ad.P 118) 14 (bT ad.P 118 14):=a5.b5 (fun d=>rfl) fun k av aE q h=>by
 obtain ⟨(aw:List I.ap),(v1:Int),(v2:Int),_,(aV:Int),_⟩:=av
 obtain ⟨⟨(v4:List UInt8),(a6:Bool),(v6:List I.Kind),(bk:Int),(bn:List UInt8),(br:Int),(v10:Int),(v11:List UInt8),(bV:List I.Handler),_⟩,_⟩:=aE
 conv=>rhs;change Option.map (α:=Unit ⊕ Int) _ (a4 (sb F aw (⟨v4,a6,v6,(⟨bk,bn⟩:I.Kind),br,v10,v11,bV⟩:I.Method) (k+ 1) aV));simp only [sb,a'];simp only [bY]
 kernel_rfl
noncomputable def Aa (F:Nat):a2 ad:=(z' F).l 118 14 ((Yx F).run ad F)
theorem aqh (ah:aZ ad) (F:Nat) (h:(z' F).ax):(Aa F).ax:=h.b7 ah rfl (by kernel_rfl) (af2 F) F
@[reducible] noncomputable def Yw (F:Nat):a5 aQ:=⟨[0,10,12],[.p (.l 134),.p (.i .i64),.p (.i .i64)],[],
  [⟨⟨.nm,[0,10],[.p (.l 134),.p (.i .i64)],[]⟩,Unit,fun d _=>((d.1.1,d.1.2.1,()),())⟩,
   ⟨⟨.rt,[2],[.p (.i .i64)],[]⟩,Int,fun _ r=>((r,()),())⟩],
  fun k d=>a4 (sa F d.1.1 d.1.2.1 k d.1.2.2.1)⟩
theorem af1 (F:Nat):(Yw F).bU.bP ad (Aa F).aM ((Aa F).LE 118) (bR ad.P 118) 12 (bT ad.P 118 12):=a5.b5 (fun d=>rfl) fun k av aE q h=>by
 obtain ⟨(aw:List I.ap),(v1:Int),(v2:Int),_⟩:=av
 conv=>rhs;change Option.map (α:=Unit ⊕ Int) _ (a4 (sa F aw v1 (k+ 1) v2));simp only [sa,a'];simp only [bY]
 kernel_rfl
noncomputable def Ab (F:Nat):a2 ad:=(Aa F).l 118 12 ((Yw F).run ad F)
theorem aqi (ah:aZ ad) (F:Nat) (h:(Aa F).ax):(Ab F).ax:=h.b7 ah rfl (by kernel_rfl) (af1 F) F
@[reducible] noncomputable def Yu (F:Nat):a5 aQ:=⟨[0,10],[.p (.l 134),.p (.i .i64)],[],
  [⟨⟨.nm,[0],[.p (.l 134)],[]⟩,Unit,fun d _=>((d.1.1,()),())⟩,
   ⟨⟨.rt,[2],[.p (.i .i64)],[]⟩,Int,fun _ r=>((r,()),())⟩],
  fun k d=>a4 (pW F d.1.1 k d.1.2.1)⟩
theorem afZ (F:Nat):(Yu F).bU.bP ad (Ab F).aM ((Ab F).LE 118) (bR ad.P 118) 8 (bT ad.P 118 8):=a5.b5 (fun d=>rfl) fun k av aE q h=>by
 obtain ⟨(aw:List I.ap),(v1:Int),_⟩:=av
 conv=>rhs;change Option.map (α:=Unit ⊕ Int) _ (a4 (pW F aw (k+ 1) v1));simp only [pW,a'];simp only [bY]
 kernel_rfl
noncomputable def Ac (F:Nat):a2 ad:=(Ab F).l 118 8 ((Yu F).run ad F)
theorem aqj (ah:aZ ad) (F:Nat) (h:(Ab F).ax):(Ac F).ax:=h.b7 ah rfl (by kernel_rfl) (afZ F) F
@[reducible] noncomputable def Yk (_:Nat):a5 aQ:=⟨[0,15,16,17,18],[.p (.l 134),.p (.i .i64),.p (.l 136),.p (.i .i64),.p (.i .i64)],[],
  [⟨⟨.nm,[0,15,16,17],[.p (.l 134),.p (.i .i64),.p (.l 136),.p (.i .i64)],[]⟩,Unit,fun d _=>((d.1.1,d.1.2.1,d.1.2.2.1,d.1.2.2.2.1,()),())⟩,
   ⟨⟨.rt,[2],[.p (.i .i64)],[]⟩,Int,fun _ r=>((r,()),())⟩],
  fun k d=>a4 (r5 d.1.2.2.1 d.1.2.2.2.1 k d.1.2.2.2.2.1)⟩
theorem afP (F:Nat):(Yk F).bU.bP ad (Ac F).aM ((Ac F).LE 118) (bR ad.P 118) 20 (bT ad.P 118 20):=a5.b5 (fun d=>rfl) fun k av aE q h=>by
 obtain ⟨(aw:List I.ap),(v1:Int),(v2:List I.Field),(aV:Int),(v4:Int),_⟩:=av
 conv=>rhs;change Option.map (α:=Unit ⊕ Int) _ (a4 (r5 v2 aV (k+ 1) v4));simp only [r5,a'];simp only [bY]
 kernel_rfl
noncomputable def Af (F:Nat):a2 ad:=(Ac F).l 118 20 ((Yk F).run ad F)
theorem aql (ah:aZ ad) (F:Nat) (h:(Ac F).ax):(Af F).ax:=h.b7 ah rfl (by kernel_rfl) (afP F) F
@[reducible] noncomputable def Yj (F:Nat):a5 aQ:=⟨[0,15,16,17],[.p (.l 134),.p (.i .i64),.p (.l 136),.p (.i .i64)],[],
  [⟨⟨.nm,[0,15],[.p (.l 134),.p (.i .i64)],[]⟩,Unit,fun d _=>((d.1.1,d.1.2.1,()),())⟩,
   ⟨⟨.rt,[2],[.p (.i .i64)],[]⟩,Int,fun _ r=>((r,()),())⟩],
  fun k d=>a4 (r4 F d.1.2.2.1 k d.1.2.2.2.1)⟩
theorem afO (F:Nat):(Yj F).bU.bP ad (Af F).aM ((Af F).LE 118) (bR ad.P 118) 18 (bT ad.P 118 18):=a5.b5 (fun d=>rfl) fun k av aE q h=>by
 obtain ⟨(aw:List I.ap),(v1:Int),(v2:List I.Field),(aV:Int),_⟩:=av
 conv=>rhs;change Option.map (α:=Unit ⊕ Int) _ (a4 (r4 F v2 (k+ 1) aV));simp only [r4,a'];simp only [bY]
 kernel_rfl
noncomputable def Ag (F:Nat):a2 ad:=(Af F).l 118 18 ((Yj F).run ad F)
theorem aqm (ah:aZ ad) (F:Nat) (h:(Af F).ax):(Ag F).ax:=h.b7 ah rfl (by kernel_rfl) (afO F) F
noncomputable def LG (k:Nat) (g4:I.ap) (hz:Int) (pj:Int):=c2 (True) (a4 (oB g4 hz k pj))
theorem Po (k:Nat) (g4:I.ap) (hz:Int) (pj:Int):a4 (oB g4 hz k pj)=LG k (⟨[],[],[],g4.bh⟩:I.ap) hz pj:=(show a4 (oB g4 hz k pj)=a4 (oB (⟨[],[],[],g4.bh⟩:I.ap) hz k pj) by kernel_rfl).trans (dg trivial).symm
@[reducible] noncomputable def Ym (_:Nat):a5 aQ:=⟨[0,15,19,20,21],[.p (.l 134),.p (.i .i64),.p (.l 131),.p (.i .i64),.p (.i .i64)],[],
  [⟨⟨.nm,[0,15,19,20],[.p (.l 134),.p (.i .i64),.p (.l 131),.p (.i .i64)],[]⟩,Unit,fun d _=>((d.1.1,d.1.2.1,d.1.2.2.1,d.1.2.2.2.1,()),())⟩,
   ⟨⟨.rt,[2],[.p (.i .i64)],[]⟩,Int,fun _ r=>((r,()),())⟩],
  fun k d=>LG k (⟨[],[],[],d.1.2.2.1⟩:I.ap) d.1.2.2.2.1 d.1.2.2.2.2.1⟩
theorem afR (F:Nat):(Ym F).bU.bP ad (Ag F).aM ((Ag F).LE 118) (bR ad.P 118) 24 (bT ad.P 118 24):=a5.b5 (fun d=>df) fun k av aE q h=>by
 obtain ⟨(aw:List I.ap),(v1:Int),(v2:List I.Method),(aV:Int),(v4:Int),_⟩:=av
 conv=>rhs;change Option.map (α:=Unit ⊕ Int) _ (LG (k+ 1) (⟨[],[],[],v2⟩:I.ap) aV v4);rw [<-Po (k+ 1) (⟨[],[],[],v2⟩:I.ap) aV v4];simp only [oB,a',Po];simp only [bY]
 kernel_rfl
noncomputable def Ah (F:Nat):a2 ad:=(Ag F).l 118 24 ((Ym F).run ad F)
theorem aqn (ah:aZ ad) (F:Nat) (h:(Ag F).ax):(Ah F).ax:=h.b7 ah rfl (by kernel_rfl) (afR F) F
noncomputable def LF (F:Nat) (k:Nat) (g4:I.ap) (hz:Int):=c2 (True) (a4 (oA F g4 k hz))
theorem Pn (F:Nat) (k:Nat) (g4:I.ap) (hz:Int):a4 (oA F g4 k hz)=LF F k (⟨[],[],[],g4.bh⟩:I.ap) hz:=(show a4 (oA F g4 k hz)=a4 (oA F (⟨[],[],[],g4.bh⟩:I.ap) k hz) by kernel_rfl).trans (dg trivial).symm
@[reducible] noncomputable def Yl (F:Nat):a5 aQ:=⟨[0,15,19,20],[.p (.l 134),.p (.i .i64),.p (.l 131),.p (.i .i64)],[],
  [⟨⟨.nm,[0,15],[.p (.l 134),.p (.i .i64)],[]⟩,Unit,fun d _=>((d.1.1,d.1.2.1,()),())⟩,
   ⟨⟨.rt,[2],[.p (.i .i64)],[]⟩,Int,fun _ r=>((r,()),())⟩],
  fun k d=>LF F k (⟨[],[],[],d.1.2.2.1⟩:I.ap) d.1.2.2.2.1⟩
theorem afQ (F:Nat):(Yl F).bU.bP ad (Ah F).aM ((Ah F).LE 118) (bR ad.P 118) 22 (bT ad.P 118 22):=a5.b5 (fun d=>df) fun k av aE q h=>by
 obtain ⟨(aw:List I.ap),(v1:Int),(v2:List I.Method),(aV:Int),_⟩:=av
 conv=>rhs;change Option.map (α:=Unit ⊕ Int) _ (LF F (k+ 1) (⟨[],[],[],v2⟩:I.ap) aV);rw [<-Pn F (k+ 1) (⟨[],[],[],v2⟩:I.ap) aV];simp only [oA,a',Po,Pn];simp only [bY]
 kernel_rfl
noncomputable def Ai (F:Nat):a2 ad:=(Ah F).l 118 22 ((Yl F).run ad F)
theorem aqo (ah:aZ ad) (F:Nat) (h:(Ah F).ax):(Ai F).ax:=h.b7 ah rfl (by kernel_rfl) (afQ F) F
@[reducible] noncomputable def Yy (F:Nat):a5 aQ:=⟨[0,15],[.p (.l 134),.p (.i .i64)],[],
  [⟨⟨.nm,[0],[.p (.l 134)],[]⟩,Unit,fun d _=>((d.1.1,()),())⟩,
   ⟨⟨.rt,[2],[.p (.i .i64)],[]⟩,Int,fun _ r=>((r,()),())⟩],
  fun k d=>a4 (sc F d.1.1 k d.1.2.1)⟩
theorem af3 (F:Nat):(Yy F).bU.bP ad (Ai F).aM ((Ai F).LE 118) (bR ad.P 118) 16 (bT ad.P 118 16):=a5.b5 (fun d=>rfl) fun k av aE q h=>by
 obtain ⟨(aw:List I.ap),(v1:Int),_⟩:=av
 conv=>rhs;change Option.map (α:=Unit ⊕ Int) _ (a4 (sc F aw (k+ 1) v1));simp only [sc,a',Pn];simp only [bY]
 kernel_rfl
noncomputable def Aj (F:Nat):a2 ad:=(Ai F).l 118 16 ((Yy F).run ad F)
theorem aqp (ah:aZ ad) (F:Nat) (h:(Ai F).ax):(Aj F).ax:=h.b7 ah rfl (by kernel_rfl) (af3 F) F
@[reducible] noncomputable def Yq (F:Nat):a5 aQ:=⟨[0,22,23,24,25,26],[.p (.l 134),.p (.i .i64),.p (.l 3),.p (.i .i64),.p (.i .i64),.p (.i .i64)],[],
  [⟨⟨.nm,[0,22,23,24,25],[.p (.l 134),.p (.i .i64),.p (.l 3),.p (.i .i64),.p (.i .i64)],[]⟩,Unit,fun d _=>((d.1.1,d.1.2.1,d.1.2.2.1,d.1.2.2.2.1,d.1.2.2.2.2.1,()),())⟩,
   ⟨⟨.rt,[2],[.p (.i .i64)],[]⟩,Int,fun _ r=>((r,()),())⟩],
  fun k d=>a4 (pU F d.1.1 d.1.2.1 d.1.2.2.1 d.1.2.2.2.1 d.1.2.2.2.2.1 k d.1.2.2.2.2.2.1)⟩
theorem afV (F:Nat):(Yq F).bU.bP ad (Aj F).aM ((Aj F).LE 118) (bR ad.P 118) 32 (bT ad.P 118 32):=a5.b5 (fun d=>rfl) fun k av aE q h=>by
 obtain ⟨(aw:List I.ap),(v1:Int),(v2:List Int),(aV:Int),(v4:Int),(a6:Int),_⟩:=av
 conv=>rhs;change Option.map (α:=Unit ⊕ Int) _ (a4 (pU F aw v1 v2 aV v4 (k+ 1) a6));simp only [pU,a',OS];simp only [bY]
 kernel_rfl
noncomputable def Ak (F:Nat):a2 ad:=(Aj F).l 118 32 ((Yq F).run ad F)
theorem aqq (ah:aZ ad) (F:Nat) (h:(Aj F).ax):(Ak F).ax:=h.b7 ah rfl (by kernel_rfl) (afV F) F
@[reducible] noncomputable def Yp (F:Nat):a5 aQ:=⟨[0,22,23,24,25],[.p (.l 134),.p (.i .i64),.p (.l 3),.p (.i .i64),.p (.i .i64)],[],
  [⟨⟨.nm,[0,22,23,24],[.p (.l 134),.p (.i .i64),.p (.l 3),.p (.i .i64)],[]⟩,Unit,fun d _=>((d.1.1,d.1.2.1,d.1.2.2.1,d.1.2.2.2.1,()),())⟩,
   ⟨⟨.rt,[2],[.p (.i .i64)],[]⟩,Int,fun _ r=>((r,()),())⟩],
  fun k d=>a4 (r8 F d.1.1 d.1.2.1 d.1.2.2.1 d.1.2.2.2.1 k d.1.2.2.2.2.1)⟩
theorem afU (F:Nat):(Yp F).bU.bP ad (Ak F).aM ((Ak F).LE 118) (bR ad.P 118) 30 (bT ad.P 118 30):=a5.b5 (fun d=>rfl) fun k av aE q h=>by
 obtain ⟨(aw:List I.ap),(v1:Int),(v2:List Int),(aV:Int),(v4:Int),_⟩:=av
 conv=>rhs;change Option.map (α:=Unit ⊕ Int) _ (a4 (r8 F aw v1 v2 aV (k+ 1) v4));simp only [r8,a'];simp only [bY]
 kernel_rfl
noncomputable def Al (F:Nat):a2 ad:=(Ak F).l 118 30 ((Yp F).run ad F)
theorem aqr (ah:aZ ad) (F:Nat) (h:(Ak F).ax):(Al F).ax:=h.b7 ah rfl (by kernel_rfl) (afU F) F
@[reducible] noncomputable def Yo (F:Nat):a5 aQ:=⟨[0,22,23,24],[.p (.l 134),.p (.i .i64),.p (.l 3),.p (.i .i64)],[],
  [⟨⟨.nm,[0,22],[.p (.l 134),.p (.i .i64)],[]⟩,Unit,fun d _=>((d.1.1,d.1.2.1,()),())⟩,
   ⟨⟨.rt,[2],[.p (.i .i64)],[]⟩,Int,fun _ r=>((r,()),())⟩],
  fun k d=>a4 (r7 F d.1.1 d.1.2.1 d.1.2.2.1 k d.1.2.2.2.1)⟩
theorem afT (F:Nat):(Yo F).bU.bP ad (Al F).aM ((Al F).LE 118) (bR ad.P 118) 28 (bT ad.P 118 28):=a5.b5 (fun d=>rfl) fun k av aE q h=>by
 obtain ⟨(aw:List I.ap),(v1:Int),(v2:List Int),(aV:Int),_⟩:=av
 conv=>rhs;change Option.map (α:=Unit ⊕ Int) _ (a4 (r7 F aw v1 v2 (k+ 1) aV));simp only [r7,a'];simp only [bY]
 kernel_rfl
noncomputable def Am (F:Nat):a2 ad:=(Al F).l 118 28 ((Yo F).run ad F)
theorem aqs (ah:aZ ad) (F:Nat) (h:(Al F).ax):(Am F).ax:=h.b7 ah rfl (by kernel_rfl) (afT F) F
@[reducible] noncomputable def Yn (F:Nat):a5 aQ:=⟨[0,22],[.p (.l 134),.p (.i .i64)],[],
  [⟨⟨.nm,[],[],[]⟩,Unit,fun _ _=>((),())⟩,
   ⟨⟨.rt,[2],[.p (.i .i64)],[]⟩,Int,fun _ r=>((r,()),())⟩],
  fun k d=>a4 (r6 F d.1.1 k d.1.2.1)⟩
theorem afS (F:Nat):(Yn F).bU.bP ad (Am F).aM ((Am F).LE 118) (bR ad.P 118) 26 (bT ad.P 118 26):=a5.b5 (fun d=>rfl) fun k av aE q h=>by
 obtain ⟨(aw:List I.ap),(v1:Int),_⟩:=av
 conv=>rhs;change Option.map (α:=Unit ⊕ Int) _ (a4 (r6 F aw (k+ 1) v1));simp only [r6,a'];simp only [bY]
 kernel_rfl
noncomputable def An (F:Nat):a2 ad:=(Am F).l 118 26 ((Yn F).run ad F)
theorem aqt (ah:aZ ad) (F:Nat) (h:(Am F).ax):(An F).ax:=h.b7 ah rfl (by kernel_rfl) (afS F) F
@[reducible] noncomputable def Wj (F:Nat):bS aQ:=⟨[.p (.l 134)],[],[.p (.i .i64)],[],Int,fun d=>xk F d.1.1,fun _ r=>((r,()),())⟩
theorem afM (F:Nat):(Wj F).Eq ad (An F).aM (An F).LE 118 :=fun av aE=>by
 obtain ⟨(aw:List I.ap),_⟩:=av
 conv=>rhs;change Option.map (α:=Int) _ (xk F aw);simp only [xk,a']
 kernel_rfl
noncomputable def Ao (F:Nat):a2 ad:=(An F).f 118 ((Wj F).run ad)
theorem aqu (ah:aZ ad) (F:Nat) (h:(An F).ax):(Ao F).ax:=h.rt ah rfl (by kernel_rfl) (afM F)
noncomputable def LK (k:Nat) (jy:List (List UInt8)) (m7:I.Method) (mR:Int):=c2 (True) (nj jy m7 k mR)
theorem Ps (k:Nat) (jy:List (List UInt8)) (m7:I.Method) (mR:Int):nj jy m7 k mR=LK k jy (⟨m7.Name,false,[],(⟨0,[]⟩:I.Kind),0,0,[],[]⟩:I.Method) mR:=(show nj jy m7 k mR=nj jy (⟨m7.Name,false,[],(⟨0,[]⟩:I.Kind),0,0,[],[]⟩:I.Method) k mR by kernel_rfl).trans (dg trivial).symm
@[reducible] noncomputable def YV (_:Nat):a5 aQ:=⟨[0,6,7,8,9,10,11,12],[.p (.l 134),.p (.R 0),.p (.R 1),.p (.l 3),.p (.i .i64),.p (.i .i64),.p (.s),.p (.i .i64)],[.r 9 false,.r 166 false],
  [⟨⟨.nm,[0,6,7,8,9,10,11,12],[.p (.l 134),.p (.R 0),.p (.R 1),.p (.l 3),.p (.i .i64),.p (.i .i64),.p (.s),.p (.i .i64)],[.r 9 false,.r 166 false]⟩,Int,fun d r=>((d.1.1,(),(),d.1.2.2.2.1,d.1.2.2.2.2.1,d.1.2.2.2.2.2.1,d.1.2.2.2.2.2.2.1,r,()),(d.2.1,d.2.2.1,()))⟩],
  fun k d=>LK k d.2.1 (⟨d.1.2.2.2.2.2.2.1,false,[],(⟨0,[]⟩:I.Kind),0,0,[],[]⟩:I.Method) d.1.2.2.2.2.2.2.2.1⟩
theorem agJ (F:Nat):(YV F).bU.bP ad (Ao F).aM ((Ao F).LE 120) (bR ad.P 120) 4 (bT ad.P 120 4):=a5.b5 (fun d=>df) fun k av aE q h=>by
 obtain ⟨(aw:List I.ap),_,_,(v1:List Int),(v2:Int),(aV:Int),(v4:List UInt8),(a6:Int),_⟩:=av
 obtain ⟨(v6:List (List UInt8)),(bk:List I.Target),_⟩:=aE
 conv=>rhs;change Option.map (α:=Int) _ (LK (k+ 1) v6 (⟨v4,false,[],(⟨0,[]⟩:I.Kind),0,0,[],[]⟩:I.Method) a6);rw [<-Ps (k+ 1) v6 (⟨v4,false,[],(⟨0,[]⟩:I.Kind),0,0,[],[]⟩:I.Method) a6];simp only [nj,a',Ps];simp only [bY]
 kernel_rfl
noncomputable def Aq (F:Nat):a2 ad:=(Ao F).l 120 4 ((YV F).run ad F)
theorem aqw (ah:aZ ad) (F:Nat) (h:(Ao F).ax):(Aq F).ax:=h.b7 ah rfl (by kernel_rfl) (agJ F) F
@[reducible] noncomputable def YU (F:Nat):a5 aQ:=⟨[0,6,7,8,9,10],[.p (.l 134),.p (.R 0),.p (.R 1),.p (.l 3),.p (.i .i64),.p (.i .i64)],[.r 9 false,.r 166 false],
  [⟨⟨.nm,[0,6,7,8,9],[.p (.l 134),.p (.R 0),.p (.R 1),.p (.l 3),.p (.i .i64)],[.r 9 false,.r 166 false]⟩,(List I.Target) × (List (List UInt8)),fun d r=>((d.1.1,(),(),d.1.2.2.2.1,d.1.2.2.2.2.1,()),(r.2,r.1,()))⟩],
  fun k d=>sw F d.1.1 d.1.2.2.2.1 d.1.2.2.2.2.1 k d.2.2.1 d.2.1 d.1.2.2.2.2.2.1⟩
theorem agI (F:Nat):(YU F).bU.bP ad (Aq F).aM ((Aq F).LE 120) (bR ad.P 120) 2 (bT ad.P 120 2):=a5.b5 (fun d=>rfl) fun k av aE q h=>by
 obtain ⟨(aw:List I.ap),_,_,(v1:List Int),(v2:Int),(aV:Int),_⟩:=av
 obtain ⟨(v4:List (List UInt8)),(a6:List I.Target),_⟩:=aE
 conv=>rhs;change Option.map (α:=(List I.Target) × (List (List UInt8))) _ (sw F aw v1 v2 (k+ 1) a6 v4 aV);simp only [sw,a',Ps];simp only [bY]
 kernel_rfl
noncomputable def Ar (F:Nat):a2 ad:=(Aq F).l 120 2 ((YU F).run ad F)
theorem aqx (ah:aZ ad) (F:Nat) (h:(Aq F).ax):(Ar F).ax:=h.b7 ah rfl (by kernel_rfl) (agI F) F
@[reducible] noncomputable def YT (F:Nat):a5 aQ:=⟨[0,6,7,8,9],[.p (.l 134),.p (.R 0),.p (.R 1),.p (.l 3),.p (.i .i64)],[.r 9 false,.r 166 false],
  [⟨⟨.nm,[6,7],[.p (.R 0),.p (.R 1)],[.r 9 false,.r 166 false]⟩,(List I.Target) × (List (List UInt8)),fun _ r=>(((),(),()),(r.2,r.1,()))⟩],
  fun k d=>sv F d.1.1 d.1.2.2.2.1 k d.2.2.1 d.2.1 d.1.2.2.2.2.1⟩
theorem agH (F:Nat):(YT F).bU.bP ad (Ar F).aM ((Ar F).LE 120) (bR ad.P 120) 0 (bT ad.P 120 0):=a5.b5 (fun d=>rfl) fun k av aE q h=>by
 obtain ⟨(aw:List I.ap),_,_,(v1:List Int),(v2:Int),_⟩:=av
 obtain ⟨(aV:List (List UInt8)),(v4:List I.Target),_⟩:=aE
 conv=>rhs;change Option.map (α:=(List I.Target) × (List (List UInt8))) _ (sv F aw v1 (k+ 1) v4 aV v2);simp only [sv,a'];simp only [bY]
 kernel_rfl
noncomputable def As (F:Nat):a2 ad:=(Ar F).l 120 0 ((YT F).run ad F)
theorem aqy (ah:aZ ad) (F:Nat) (h:(Ar F).ax):(As F).ax:=h.b7 ah rfl (by kernel_rfl) (agH F) F
@[reducible] noncomputable def WD (F:Nat):bS aQ:=⟨[.p (.l 134),.p (.i .i64)],[],[.p (.l 9),.p (.l 166)],[],(List (List UInt8)) × (List I.Target),fun d=>xm F d.1.1 d.1.2.1,fun _ r=>((r.1,r.2,()),())⟩
theorem agG (F:Nat):(WD F).Eq ad (As F).aM (As F).LE 120 :=fun av aE=>by
 obtain ⟨(aw:List I.ap),(v1:Int),_⟩:=av
 conv=>rhs;change Option.map (α:=(List (List UInt8)) × (List I.Target)) _ (xm F aw v1);simp only [xm,a']
 kernel_rfl
noncomputable def At (F:Nat):a2 ad:=(As F).f 120 ((WD F).run ad)
theorem aqz (ah:aZ ad) (F:Nat) (h:(As F).ax):(At F).ax:=h.rt ah rfl (by kernel_rfl) (agG F)
noncomputable def LI (F:Nat) (k:Nat) (bf:List I.ap) (v5:List (List I.Target)) (v7:List (List (List UInt8))) (v8:List (List I.Field)) (v9:List Int) (pg:Int) (aq:List I.ap) (a0:List Int) (ch:List (List I.Field)) (dt:List (List (List UInt8))) (gk:List (List I.Target)) (jY:List I.ap):=c2 (([]:List I.ap)=aq/\([]:List Int)=a0/\([]:List (List I.Field))=ch/\([]:List (List (List UInt8)))=dt/\([]:List (List I.Target))=gk/\(bf:List I.ap)=jY/\True) (a4 (nh F bf k v5 v7 v8 v9 pg))
theorem Pq (F:Nat) (k:Nat) (bf:List I.ap) (v5:List (List I.Target)) (v7:List (List (List UInt8))) (v8:List (List I.Field)) (v9:List Int) (pg:Int):a4 (nh F bf k v5 v7 v8 v9 pg)=LI F k bf v5 v7 v8 v9 pg [] [] [] [] [] bf:=(dg ⟨rfl,rfl,rfl,rfl,rfl,rfl,trivial⟩).symm
@[reducible] noncomputable def YF (F:Nat):a5 aQ:=⟨[0,2,5,6],[.p (.l 134),.p (.B 0),.p (.B 1),.p (.i .i64)],[.c 30 [.l 134,.l 3,.l 124,.l 120,.l 121],.c 30 [.l 134,.R 2,.R 3,.R 4,.R 5],.r 3 false,.r 124 false,.r 120 false,.r 121 false],
  [⟨⟨.nm,[2,5],[.p (.B 0),.p (.B 1)],[.c 30 [.l 134,.l 3,.l 124,.l 120,.l 121],.c 30 [.l 134,.R 2,.R 3,.R 4,.R 5],.r 3 false,.r 124 false,.r 120 false,.r 121 false]⟩,(List (List I.Target)) × (List (List (List UInt8))) × (List (List I.Field)) × (List Int),fun d r=>(((),(),()),((d.2.1.1,d.2.1.2.1,d.2.1.2.2.1,d.2.1.2.2.2.1,d.2.1.2.2.2.2.1,()),(d.2.2.1.1,(),(),(),(),()),r.2.2.2,r.2.2.1,r.2.1,r.1,()))⟩,
   ⟨⟨.rt,[2,3],[.p (.B 0),.p (.i .i64)],[.c 30 [.l 134,.l 3,.l 124,.l 120,.l 121],.d,.d,.d,.d,.d]⟩,I.aH × Int,fun _ r=>(((),r.2,()),((r.1.bJ,r.1.bB,r.1.Fields,r.1.Names,r.1.bC,()),(),(),(),(),(),()))⟩],
  fun k d=>LI F k d.1.1 d.2.2.2.2.2.2.1 d.2.2.2.2.2.1 d.2.2.2.2.1 d.2.2.2.1 d.1.2.2.2.1 d.2.1.1 d.2.1.2.1 d.2.1.2.2.1 d.2.1.2.2.2.1 d.2.1.2.2.2.2.1 d.2.2.1.1⟩
theorem agj (F:Nat):(YF F).bU.bP ad (At F).aM ((At F).LE 86) (bR ad.P 86) 0 (bT ad.P 86 0):=a5.b5 (fun d=>df) fun k av aE q h=>by
 obtain ⟨(aw:List I.ap),_,_,(v1:Int),_⟩:=av
 obtain ⟨⟨(v2:List I.ap),(aV:List Int),(v4:List (List I.Field)),(a6:List (List (List UInt8))),(v6:List (List I.Target)),_⟩,⟨(bk:List I.ap),_,_,_,_,_⟩,(bn:List Int),(br:List (List I.Field)),(v10:List (List (List UInt8))),(v11:List (List I.Target)),_⟩:=aE
 obtain ⟨aA,_⟩:=dI h
 dsimp only at aA
 obtain ⟨rfl,rfl,rfl,rfl,rfl,rfl,_⟩:=aA
 conv=>rhs;change Option.map (α:=((List (List I.Target)) × (List (List (List UInt8))) × (List (List I.Field)) × (List Int)) ⊕ (I.aH × Int)) _ (LI F (k+ 1) aw v11 v10 br bn v1 ([]) ([]) ([]) ([]) ([]) (aw));rw [<-Pq F (k+ 1) aw v11 v10 br bn v1];simp only [nh,a',Pq];simp only [bY]
 kernel_rfl
noncomputable def Au (F:Nat):a2 ad:=(At F).l 86 0 ((YF F).run ad F)
theorem aqA (ah:aZ ad) (F:Nat) (h:(At F).ax):(Au F).ax:=h.b7 ah rfl (by kernel_rfl) (agj F) F
@[reducible] noncomputable def Wt (F:Nat):bS aQ:=⟨[.p (.l 134)],[],[.a [.l 134,.l 3,.l 124,.l 120,.l 121],.p (.i .i64)],[],I.aH × Int,fun d=>xl F d.1.1,fun _ r=>(((r.1.bJ,r.1.bB,r.1.Fields,r.1.Names,r.1.bC,()),r.2,()),())⟩
theorem agi (F:Nat):(Wt F).Eq ad (Au F).aM (Au F).LE 86 :=fun av aE=>by
 obtain ⟨(aw:List I.ap),_⟩:=av
 conv=>rhs;change Option.map (α:=I.aH × Int) _ (xl F aw);simp only [xl,a',Pq]
 kernel_rfl
noncomputable def Av (F:Nat):a2 ad:=(Au F).f 86 ((Wt F).run ad)
theorem aqB (ah:aZ ad) (F:Nat) (h:(Au F).ax):(Av F).ax:=h.rt ah rfl (by kernel_rfl) (agi F)
@[reducible] noncomputable def Wk (F:Nat):bS aQ:=⟨[.a [.l 134,.l 3,.l 124,.l 120,.l 121]],[],[.p (.i .i64)],[],Int,fun d=>pX F (⟨d.1.1.1,d.1.1.2.1,d.1.1.2.2.1,d.1.1.2.2.2.1,d.1.1.2.2.2.2.1⟩:I.aH),fun _ r=>((r,()),())⟩
theorem af4 (F:Nat):(Wk F).Eq ad (Av F).aM (Av F).LE 50 :=fun av aE=>by
 obtain ⟨⟨(aw:List I.ap),(v1:List Int),(v2:List (List I.Field)),(aV:List (List (List UInt8))),(v4:List (List I.Target)),_⟩,_⟩:=av
 conv=>rhs;change Option.map (α:=Int) _ (pX F (⟨aw,v1,v2,aV,v4⟩:I.aH));simp only [pX,a']
 kernel_rfl
noncomputable def Aw (F:Nat):a2 ad:=(Av F).f 50 ((Wk F).run ad)
theorem aqC (ah:aZ ad) (F:Nat) (h:(Av F).ax):(Aw F).ax:=h.rt ah rfl (by kernel_rfl) (af4 F)
@[reducible] noncomputable def Wr (_:Nat):bS aQ:=⟨[.a [.l 134,.l 3,.l 124,.l 120,.l 121],.p (.i .i64)],[],[.p (.b)],[],Bool,fun d=>uW (⟨d.1.1.1,d.1.1.2.1,d.1.1.2.2.1,d.1.1.2.2.2.1,d.1.1.2.2.2.2.1⟩:I.aH) d.1.2.1,fun _ r=>((r,()),())⟩
theorem agf (F:Nat):(Wr F).Eq ad (Aw F).aM (Aw F).LE 59 :=fun av aE=>by
 obtain ⟨⟨(aw:List I.ap),(v1:List Int),(v2:List (List I.Field)),(aV:List (List (List UInt8))),(v4:List (List I.Target)),_⟩,(a6:Int),_⟩:=av
 conv=>rhs;change Option.map (α:=Bool) _ (uW (⟨aw,v1,v2,aV,v4⟩:I.aH) a6);simp only [uW,a']
 kernel_rfl
noncomputable def Ax (F:Nat):a2 ad:=(Aw F).f 59 ((Wr F).run ad)
theorem aqD (ah:aZ ad) (F:Nat) (h:(Aw F).ax):(Ax F).ax:=h.rt ah rfl (by kernel_rfl) (agf F)
@[reducible] noncomputable def Wp (_:Nat):bS aQ:=⟨[.a [.l 134,.l 3,.l 124,.l 120,.l 121],.p (.i .i64),.p (.i .i64)],[],[.p (.b)],[],Bool,fun d=>uU (⟨d.1.1.1,d.1.1.2.1,d.1.1.2.2.1,d.1.1.2.2.2.1,d.1.1.2.2.2.2.1⟩:I.aH) d.1.2.1 d.1.2.2.1,fun _ r=>((r,()),())⟩
theorem agc (F:Nat):(Wp F).Eq ad (Ax F).aM (Ax F).LE 60 :=fun av aE=>by
 obtain ⟨⟨(aw:List I.ap),(v1:List Int),(v2:List (List I.Field)),(aV:List (List (List UInt8))),(v4:List (List I.Target)),_⟩,(a6:Int),(v6:Int),_⟩:=av
 conv=>rhs;change Option.map (α:=Bool) _ (uU (⟨aw,v1,v2,aV,v4⟩:I.aH) a6 v6);simp only [uU,a']
 kernel_rfl
noncomputable def Ay (F:Nat):a2 ad:=(Ax F).f 60 ((Wp F).run ad)
theorem aqE (ah:aZ ad) (F:Nat) (h:(Ax F).ax):(Ay F).ax:=h.rt ah rfl (by kernel_rfl) (agc F)
@[reducible] noncomputable def YW (_:Nat):a5 aQ:=⟨[2,3,4,5,10],[.p (.i .i64),.p (.i .i64),.p (.B 0),.p (.B 1),.p (.R 2)],[.c 24 [.l 3,.i .i64,.i .i64,.i .i64,.i .i64,.l 3,.i .i64],.c 30 [.l 134,.l 3,.l 124,.l 120,.l 121],.r 3 false],
  [⟨⟨.nm,[2,3,10],[.p (.i .i64),.p (.i .i64),.p (.R 2)],[.c 24 [.l 3,.i .i64,.i .i64,.i .i64,.i .i64,.l 3,.i .i64],.c 30 [.l 134,.l 3,.l 124,.l 120,.l 121],.r 3 false]⟩,(List Int) × Int,fun d r=>((r.2,d.1.2.1,(),()),((d.2.1.1,d.2.1.2.1,d.2.1.2.2.1,d.2.1.2.2.2.1,d.2.1.2.2.2.2.1,d.2.1.2.2.2.2.2.1,d.2.1.2.2.2.2.2.2.1,()),(d.2.2.1.1,d.2.2.1.2.1,d.2.2.1.2.2.1,d.2.2.1.2.2.2.1,d.2.2.1.2.2.2.2.1,()),r.1,()))⟩,
   ⟨⟨.rt,[8,9],[.p (.l 3),.p (.b)],[.d,.d,.d]⟩,(List Int) × Bool,fun _ r=>((r.1,r.2,()),((),(),(),()))⟩],
  fun k d=>a4 (pZ (⟨d.2.1.1,d.2.1.2.1,d.2.1.2.2.1,d.2.1.2.2.2.1,d.2.1.2.2.2.2.1,d.2.1.2.2.2.2.2.1,d.2.1.2.2.2.2.2.2.1⟩:I.aU) (⟨d.2.2.1.1,d.2.2.1.2.1,d.2.2.1.2.2.1,d.2.2.1.2.2.2.1,d.2.2.1.2.2.2.2.1⟩:I.aH) d.1.2.1 k d.2.2.2.1 d.1.1)⟩
theorem agL (F:Nat):(YW F).bU.bP ad (Ay F).aM ((Ay F).LE 95) (bR ad.P 95) 0 (bT ad.P 95 0):=a5.b5 (fun d=>rfl) fun k av aE q h=>by
 obtain ⟨(aw:Int),(v1:Int),_,_,_,_⟩:=av
 obtain ⟨⟨(v2:List Int),(aV:Int),(v4:Int),(a6:Int),(v6:Int),(bk:List Int),(bn:Int),_⟩,⟨(br:List I.ap),(v10:List Int),(v11:List (List I.Field)),(bV:List (List (List UInt8))),(b9:List (List I.Target)),_⟩,(cl:List Int),_⟩:=aE
 conv=>rhs;change Option.map (α:=((List Int) × Int) ⊕ ((List Int) × Bool)) _ (a4 (pZ (⟨v2,aV,v4,a6,v6,bk,bn⟩:I.aU) (⟨br,v10,v11,bV,b9⟩:I.aH) v1 (k+ 1) cl aw));simp only [pZ,a'];simp only [bY]
 kernel_rfl
noncomputable def Az (F:Nat):a2 ad:=(Ay F).l 95 0 ((YW F).run ad F)
theorem aqF (ah:aZ ad) (F:Nat) (h:(Ay F).ax):(Az F).ax:=h.b7 ah rfl (by kernel_rfl) (agL F) F
@[reducible] noncomputable def WE (F:Nat):bS aQ:=⟨[.a [.l 3,.i .i64,.i .i64,.i .i64,.i .i64,.l 3,.i .i64],.a [.l 134,.l 3,.l 124,.l 120,.l 121],.p (.i .i64),.p (.i .i64)],[],[.p (.l 3),.p (.b)],[],(List Int) × Bool,fun d=>mg F (⟨d.1.1.1,d.1.1.2.1,d.1.1.2.2.1,d.1.1.2.2.2.1,d.1.1.2.2.2.2.1,d.1.1.2.2.2.2.2.1,d.1.1.2.2.2.2.2.2.1⟩:I.aU) (⟨d.1.2.1.1,d.1.2.1.2.1,d.1.2.1.2.2.1,d.1.2.1.2.2.2.1,d.1.2.1.2.2.2.2.1⟩:I.aH) d.1.2.2.1 d.1.2.2.2.1,fun _ r=>((r.1,r.2,()),())⟩
theorem agK (F:Nat):(WE F).Eq ad (Az F).aM (Az F).LE 95 :=fun av aE=>by
 obtain ⟨⟨(aw:List Int),(v1:Int),(v2:Int),(aV:Int),(v4:Int),(a6:List Int),(v6:Int),_⟩,⟨(bk:List I.ap),(bn:List Int),(br:List (List I.Field)),(v10:List (List (List UInt8))),(v11:List (List I.Target)),_⟩,(bV:Int),(b9:Int),_⟩:=av
 conv=>rhs;change Option.map (α:=(List Int) × Bool) _ (mg F (⟨aw,v1,v2,aV,v4,a6,v6⟩:I.aU) (⟨bk,bn,br,v10,v11⟩:I.aH) bV b9);simp only [mg,a']
 kernel_rfl
noncomputable def AB (F:Nat):a2 ad:=(Az F).f 95 ((WE F).run ad)
theorem aqH (ah:aZ ad) (F:Nat) (h:(Az F).ax):(AB F).ax:=h.rt ah rfl (by kernel_rfl) (agK F)
@[reducible] noncomputable def WG (F:Nat):bS aQ:=⟨[.a [.l 3,.i .i64,.i .i64,.i .i64,.i .i64,.l 3,.i .i64],.a [.l 134,.l 3,.l 124,.l 120,.l 121]],[],[.p (.l 3),.p (.l 3),.p (.b)],[],(List Int) × (List Int) × Bool,fun d=>oF F (⟨d.1.1.1,d.1.1.2.1,d.1.1.2.2.1,d.1.1.2.2.2.1,d.1.1.2.2.2.2.1,d.1.1.2.2.2.2.2.1,d.1.1.2.2.2.2.2.2.1⟩:I.aU) (⟨d.1.2.1.1,d.1.2.1.2.1,d.1.2.1.2.2.1,d.1.2.1.2.2.2.1,d.1.2.1.2.2.2.2.1⟩:I.aH),fun _ r=>((r.1,r.2.1,r.2.2,()),())⟩
theorem agM (F:Nat):(WG F).Eq ad (AB F).aM (AB F).LE 62 :=fun av aE=>by
 obtain ⟨⟨(aw:List Int),(v1:Int),(v2:Int),(aV:Int),(v4:Int),(a6:List Int),(v6:Int),_⟩,⟨(bk:List I.ap),(bn:List Int),(br:List (List I.Field)),(v10:List (List (List UInt8))),(v11:List (List I.Target)),_⟩,_⟩:=av
 conv=>rhs;change Option.map (α:=(List Int) × (List Int) × Bool) _ (oF F (⟨aw,v1,v2,aV,v4,a6,v6⟩:I.aU) (⟨bk,bn,br,v10,v11⟩:I.aH));simp only [oF,a']
 kernel_rfl
noncomputable def AC (F:Nat):a2 ad:=(AB F).f 62 ((WG F).run ad)
theorem aqI (ah:aZ ad) (F:Nat) (h:(AB F).ax):(AC F).ax:=h.rt ah rfl (by kernel_rfl) (agM F)
@[reducible] noncomputable def WJ (_:Nat):bS aQ:=⟨[.a [.l 134,.l 3,.l 124,.l 120,.l 121],.p (.i .i64),.p (.i .i64)],[],[.p (.b)],[],Bool,fun d=>u2 (⟨d.1.1.1,d.1.1.2.1,d.1.1.2.2.1,d.1.1.2.2.2.1,d.1.1.2.2.2.2.1⟩:I.aH) d.1.2.1 d.1.2.2.1,fun _ r=>((r,()),())⟩
theorem agR (F:Nat):(WJ F).Eq ad (AC F).aM (AC F).LE 71 :=fun av aE=>by
 obtain ⟨⟨(aw:List I.ap),(v1:List Int),(v2:List (List I.Field)),(aV:List (List (List UInt8))),(v4:List (List I.Target)),_⟩,(a6:Int),(v6:Int),_⟩:=av
 conv=>rhs;change Option.map (α:=Bool) _ (u2 (⟨aw,v1,v2,aV,v4⟩:I.aH) a6 v6);simp only [u2,a']
 kernel_rfl
noncomputable def AD (F:Nat):a2 ad:=(AC F).f 71 ((WJ F).run ad)
theorem aqJ (ah:aZ ad) (F:Nat) (h:(AC F).ax):(AD F).ax:=h.rt ah rfl (by kernel_rfl) (agR F)
@[reducible] noncomputable def YG (_:Nat):a5 aQ:=⟨[2,3,4,7,8],[.p (.i .i64),.p (.B 0),.p (.B 1),.p (.R 2),.p (.i .i64)],[.c 24 [.l 3,.i .i64,.i .i64,.i .i64,.i .i64,.l 3,.i .i64],.c 30 [.l 134,.l 3,.l 124,.l 120,.l 121],.r 3 false],
  [⟨⟨.nm,[7],[.p (.R 2)],[.c 24 [.l 3,.i .i64,.i .i64,.i .i64,.i .i64,.l 3,.i .i64],.c 30 [.l 134,.l 3,.l 124,.l 120,.l 121],.r 3 false]⟩,List Int,fun d r=>(((),()),((d.2.1.1,d.2.1.2.1,d.2.1.2.2.1,d.2.1.2.2.2.1,d.2.1.2.2.2.2.1,d.2.1.2.2.2.2.2.1,d.2.1.2.2.2.2.2.2.1,()),(d.2.2.1.1,d.2.2.1.2.1,d.2.2.1.2.2.1,d.2.2.1.2.2.2.1,d.2.2.1.2.2.2.2.1,()),r,()))⟩],
  fun k d=>oC d.1.1 (⟨d.2.1.1,d.2.1.2.1,d.2.1.2.2.1,d.2.1.2.2.2.1,d.2.1.2.2.2.2.1,d.2.1.2.2.2.2.2.1,d.2.1.2.2.2.2.2.2.1⟩:I.aU) (⟨d.2.2.1.1,d.2.2.1.2.1,d.2.2.1.2.2.1,d.2.2.1.2.2.2.1,d.2.2.1.2.2.2.2.1⟩:I.aH) k d.2.2.2.1 d.1.2.2.2.2.1⟩
theorem agm (F:Nat):(YG F).bU.bP ad (AD F).aM ((AD F).LE 44) (bR ad.P 44) 0 (bT ad.P 44 0):=a5.b5 (fun d=>rfl) fun k av aE q h=>by
 obtain ⟨(aw:Int),_,_,_,(v1:Int),_⟩:=av
 obtain ⟨⟨(v2:List Int),(aV:Int),(v4:Int),(a6:Int),(v6:Int),(bk:List Int),(bn:Int),_⟩,⟨(br:List I.ap),(v10:List Int),(v11:List (List I.Field)),(bV:List (List (List UInt8))),(b9:List (List I.Target)),_⟩,(cl:List Int),_⟩:=aE
 conv=>rhs;change Option.map (α:=List Int) _ (oC aw (⟨v2,aV,v4,a6,v6,bk,bn⟩:I.aU) (⟨br,v10,v11,bV,b9⟩:I.aH) (k+ 1) cl v1);simp only [oC,a'];simp only [bY]
 kernel_rfl
noncomputable def AE (F:Nat):a2 ad:=(AD F).l 44 0 ((YG F).run ad F)
theorem aqK (ah:aZ ad) (F:Nat) (h:(AD F).ax):(AE F).ax:=h.b7 ah rfl (by kernel_rfl) (agm F) F
@[reducible] noncomputable def Wv (F:Nat):bS aQ:=⟨[.a [.l 3,.i .i64,.i .i64,.i .i64,.i .i64,.l 3,.i .i64],.a [.l 134,.l 3,.l 124,.l 120,.l 121],.p (.i .i64)],[],[.p (.l 3)],[],List Int,fun d=>ni F (⟨d.1.1.1,d.1.1.2.1,d.1.1.2.2.1,d.1.1.2.2.2.1,d.1.1.2.2.2.2.1,d.1.1.2.2.2.2.2.1,d.1.1.2.2.2.2.2.2.1⟩:I.aU) (⟨d.1.2.1.1,d.1.2.1.2.1,d.1.2.1.2.2.1,d.1.2.1.2.2.2.1,d.1.2.1.2.2.2.2.1⟩:I.aH) d.1.2.2.1,fun _ r=>((r,()),())⟩
theorem agl (F:Nat):(Wv F).Eq ad (AE F).aM (AE F).LE 44 :=fun av aE=>by
 obtain ⟨⟨(aw:List Int),(v1:Int),(v2:Int),(aV:Int),(v4:Int),(a6:List Int),(v6:Int),_⟩,⟨(bk:List I.ap),(bn:List Int),(br:List (List I.Field)),(v10:List (List (List UInt8))),(v11:List (List I.Target)),_⟩,(bV:Int),_⟩:=av
 conv=>rhs;change Option.map (α:=List Int) _ (ni F (⟨aw,v1,v2,aV,v4,a6,v6⟩:I.aU) (⟨bk,bn,br,v10,v11⟩:I.aH) bV);simp only [ni,a']
 kernel_rfl
noncomputable def AF (F:Nat):a2 ad:=(AE F).f 44 ((Wv F).run ad)
theorem aqL (ah:aZ ad) (F:Nat) (h:(AE F).ax):(AF F).ax:=h.rt ah rfl (by kernel_rfl) (agl F)
@[reducible] noncomputable def YD (_:Nat):a5 aQ:=⟨[0,1,5],[.p (.l 3),.p (.i .i64),.p (.i .i64)],[],
  [⟨⟨.nm,[],[],[]⟩,Unit,fun _ _=>((),())⟩,
   ⟨⟨.rt,[4],[.p (.b)],[]⟩,Bool,fun _ r=>((r,()),())⟩],
  fun k d=>a4 (sj d.1.1 d.1.2.1 k d.1.2.2.1)⟩
theorem agb (F:Nat):(YD F).bU.bP ad (AF F).aM ((AF F).LE 43) (bR ad.P 43) 0 (bT ad.P 43 0):=a5.b5 (fun d=>rfl) fun k av aE q h=>by
 obtain ⟨(aw:List Int),(v1:Int),(v2:Int),_⟩:=av
 conv=>rhs;change Option.map (α:=Unit ⊕ Bool) _ (a4 (sj aw v1 (k+ 1) v2));simp only [sj,a'];simp only [bY]
 kernel_rfl
noncomputable def AG (F:Nat):a2 ad:=(AF F).l 43 0 ((YD F).run ad F)
theorem aqM (ah:aZ ad) (F:Nat) (h:(AF F).ax):(AG F).ax:=h.b7 ah rfl (by kernel_rfl) (agb F) F
@[reducible] noncomputable def Wo (F:Nat):bS aQ:=⟨[.p (.l 3),.p (.i .i64)],[],[.p (.b)],[],Bool,fun d=>mf F d.1.1 d.1.2.1,fun _ r=>((r,()),())⟩
theorem aga (F:Nat):(Wo F).Eq ad (AG F).aM (AG F).LE 43 :=fun av aE=>by
 obtain ⟨(aw:List Int),(v1:Int),_⟩:=av
 conv=>rhs;change Option.map (α:=Bool) _ (mf F aw v1);simp only [mf,a']
 kernel_rfl
noncomputable def AH (F:Nat):a2 ad:=(AG F).f 43 ((Wo F).run ad)
theorem aqN (ah:aZ ad) (F:Nat) (h:(AG F).ax):(AH F).ax:=h.rt ah rfl (by kernel_rfl) (aga F)
@[reducible] noncomputable def X_ (_:Nat):a5 aQ:=⟨[2,3,6,8,9],[.p (.B 0),.p (.B 1),.p (.l 3),.p (.R 2),.p (.i .i64)],[.c 24 [.l 3,.i .i64,.i .i64,.i .i64,.i .i64,.l 3,.i .i64],.c 30 [.l 134,.l 3,.l 124,.l 120,.l 121],.r 3 true],
  [⟨⟨.nm,[2,3,6,8],[.p (.B 0),.p (.B 1),.p (.l 3),.p (.R 2)],[.c 24 [.l 3,.i .i64,.i .i64,.i .i64,.i .i64,.l 3,.i .i64],.c 30 [.l 134,.l 3,.l 124,.l 120,.l 121],.r 3 true]⟩,Unit,fun d _=>(((),(),d.1.2.2.1,(),()),((d.2.1.1,d.2.1.2.1,d.2.1.2.2.1,d.2.1.2.2.2.1,d.2.1.2.2.2.2.1,d.2.1.2.2.2.2.2.1,d.2.1.2.2.2.2.2.2.1,()),(d.2.2.1.1,d.2.2.1.2.1,d.2.2.1.2.2.1,d.2.2.1.2.2.2.1,d.2.2.1.2.2.2.2.1,()),d.2.2.2.1,()))⟩,
   ⟨⟨.rt,[4],[.p (.i .i64)],[.d,.d,.d]⟩,Int,fun _ r=>((r,()),((),(),(),()))⟩],
  fun k d=>a4 (r1 (⟨d.2.1.1,d.2.1.2.1,d.2.1.2.2.1,d.2.1.2.2.2.1,d.2.1.2.2.2.2.1,d.2.1.2.2.2.2.2.1,d.2.1.2.2.2.2.2.2.1⟩:I.aU) d.2.2.2.1 k d.1.2.2.2.2.1)⟩
theorem afD (F:Nat):(X_ F).bU.bP ad (AH F).aM ((AH F).LE 51) (bR ad.P 51) 0 (bT ad.P 51 0):=a5.b5 (fun d=>rfl) fun k av aE q h=>by
 obtain ⟨_,_,(aw:List Int),_,(v1:Int),_⟩:=av
 obtain ⟨⟨(v2:List Int),(aV:Int),(v4:Int),(a6:Int),(v6:Int),(bk:List Int),(bn:Int),_⟩,⟨(br:List I.ap),(v10:List Int),(v11:List (List I.Field)),(bV:List (List (List UInt8))),(b9:List (List I.Target)),_⟩,(cl:List Int),_⟩:=aE
 conv=>rhs;change Option.map (α:=Unit ⊕ Int) _ (a4 (r1 (⟨v2,aV,v4,a6,v6,bk,bn⟩:I.aU) cl (k+ 1) v1));simp only [r1,a'];simp only [bY]
 kernel_rfl
noncomputable def AI (F:Nat):a2 ad:=(AH F).l 51 0 ((X_ F).run ad F)
theorem aqO (ah:aZ ad) (F:Nat) (h:(AH F).ax):(AI F).ax:=h.b7 ah rfl (by kernel_rfl) (afD F) F
@[reducible] noncomputable def Ya (_:Nat):a5 aQ:=⟨[2,3,6,8,10,11],[.p (.B 0),.p (.B 1),.p (.l 3),.p (.R 2),.p (.i .i64),.p (.i .i64)],[.c 24 [.l 3,.i .i64,.i .i64,.i .i64,.i .i64,.l 3,.i .i64],.c 30 [.l 134,.l 3,.l 124,.l 120,.l 121],.r 3 true],
  [⟨⟨.nm,[2,3,6,8,10],[.p (.B 0),.p (.B 1),.p (.l 3),.p (.R 2),.p (.i .i64)],[.c 24 [.l 3,.i .i64,.i .i64,.i .i64,.i .i64,.l 3,.i .i64],.c 30 [.l 134,.l 3,.l 124,.l 120,.l 121],.r 3 true]⟩,Unit,fun d _=>(((),(),d.1.2.2.1,(),d.1.2.2.2.2.1,()),((d.2.1.1,d.2.1.2.1,d.2.1.2.2.1,d.2.1.2.2.2.1,d.2.1.2.2.2.2.1,d.2.1.2.2.2.2.2.1,d.2.1.2.2.2.2.2.2.1,()),(d.2.2.1.1,d.2.2.1.2.1,d.2.2.1.2.2.1,d.2.2.1.2.2.2.1,d.2.2.1.2.2.2.2.1,()),d.2.2.2.1,()))⟩,
   ⟨⟨.rt,[4],[.p (.i .i64)],[.d,.d,.d]⟩,Int,fun _ r=>((r,()),((),(),(),()))⟩],
  fun k d=>a4 (r2 (⟨d.2.1.1,d.2.1.2.1,d.2.1.2.2.1,d.2.1.2.2.2.1,d.2.1.2.2.2.2.1,d.2.1.2.2.2.2.2.1,d.2.1.2.2.2.2.2.2.1⟩:I.aU) d.2.2.2.1 d.1.2.2.2.2.1 k d.1.2.2.2.2.2.1)⟩
theorem afF (F:Nat):(Ya F).bU.bP ad (AI F).aM ((AI F).LE 51) (bR ad.P 51) 4 (bT ad.P 51 4):=a5.b5 (fun d=>rfl) fun k av aE q h=>by
 obtain ⟨_,_,(aw:List Int),_,(v1:Int),(v2:Int),_⟩:=av
 obtain ⟨⟨(aV:List Int),(v4:Int),(a6:Int),(v6:Int),(bk:Int),(bn:List Int),(br:Int),_⟩,⟨(v10:List I.ap),(v11:List Int),(bV:List (List I.Field)),(b9:List (List (List UInt8))),(cl:List (List I.Target)),_⟩,(c4:List Int),_⟩:=aE
 conv=>rhs;change Option.map (α:=Unit ⊕ Int) _ (a4 (r2 (⟨aV,v4,a6,v6,bk,bn,br⟩:I.aU) c4 v1 (k+ 1) v2));simp only [r2,a'];simp only [bY]
 kernel_rfl
noncomputable def AJ (F:Nat):a2 ad:=(AI F).l 51 4 ((Ya F).run ad F)
theorem aqP (ah:aZ ad) (F:Nat) (h:(AI F).ax):(AJ F).ax:=h.b7 ah rfl (by kernel_rfl) (afF F) F
@[reducible] noncomputable def X' (F:Nat):a5 aQ:=⟨[2,3,6,8,10],[.p (.B 0),.p (.B 1),.p (.l 3),.p (.R 2),.p (.i .i64)],[.c 24 [.l 3,.i .i64,.i .i64,.i .i64,.i .i64,.l 3,.i .i64],.c 30 [.l 134,.l 3,.l 124,.l 120,.l 121],.r 3 true],
  [⟨⟨.nm,[2,3,6,8],[.p (.B 0),.p (.B 1),.p (.l 3),.p (.R 2)],[.c 24 [.l 3,.i .i64,.i .i64,.i .i64,.i .i64,.l 3,.i .i64],.c 30 [.l 134,.l 3,.l 124,.l 120,.l 121],.r 3 true]⟩,Unit,fun d _=>(((),(),d.1.2.2.1,(),()),((d.2.1.1,d.2.1.2.1,d.2.1.2.2.1,d.2.1.2.2.2.1,d.2.1.2.2.2.2.1,d.2.1.2.2.2.2.2.1,d.2.1.2.2.2.2.2.2.1,()),(d.2.2.1.1,d.2.2.1.2.1,d.2.2.1.2.2.1,d.2.2.1.2.2.2.1,d.2.2.1.2.2.2.2.1,()),d.2.2.2.1,()))⟩,
   ⟨⟨.rt,[4],[.p (.i .i64)],[.d,.d,.d]⟩,Int,fun _ r=>((r,()),((),(),(),()))⟩],
  fun k d=>a4 (pS F (⟨d.2.1.1,d.2.1.2.1,d.2.1.2.2.1,d.2.1.2.2.2.1,d.2.1.2.2.2.2.1,d.2.1.2.2.2.2.2.1,d.2.1.2.2.2.2.2.2.1⟩:I.aU) d.2.2.2.1 k d.1.2.2.2.2.1)⟩
theorem afE (F:Nat):(X' F).bU.bP ad (AJ F).aM ((AJ F).LE 51) (bR ad.P 51) 2 (bT ad.P 51 2):=a5.b5 (fun d=>rfl) fun k av aE q h=>by
 obtain ⟨_,_,(aw:List Int),_,(v1:Int),_⟩:=av
 obtain ⟨⟨(v2:List Int),(aV:Int),(v4:Int),(a6:Int),(v6:Int),(bk:List Int),(bn:Int),_⟩,⟨(br:List I.ap),(v10:List Int),(v11:List (List I.Field)),(bV:List (List (List UInt8))),(b9:List (List I.Target)),_⟩,(cl:List Int),_⟩:=aE
 conv=>rhs;change Option.map (α:=Unit ⊕ Int) _ (a4 (pS F (⟨v2,aV,v4,a6,v6,bk,bn⟩:I.aU) cl (k+ 1) v1));simp only [pS,a'];simp only [bY]
 kernel_rfl
noncomputable def AK (F:Nat):a2 ad:=(AJ F).l 51 2 ((X' F).run ad F)
theorem aqQ (ah:aZ ad) (F:Nat) (h:(AJ F).ax):(AK F).ax:=h.b7 ah rfl (by kernel_rfl) (afE F) F
@[reducible] noncomputable def Yc (F:Nat):a5 aQ:=⟨[2,3,6,8,12,13,14],[.p (.B 0),.p (.B 1),.p (.l 3),.p (.l 3),.p (.i .i64),.p (.l 3),.p (.i .i64)],[.c 24 [.l 3,.i .i64,.i .i64,.i .i64,.i .i64,.l 3,.i .i64],.c 30 [.l 134,.l 3,.l 124,.l 120,.l 121]],
  [⟨⟨.nm,[2,3,6,8,12],[.p (.B 0),.p (.B 1),.p (.l 3),.p (.l 3),.p (.i .i64)],[.c 24 [.l 3,.i .i64,.i .i64,.i .i64,.i .i64,.l 3,.i .i64],.c 30 [.l 134,.l 3,.l 124,.l 120,.l 121]]⟩,Unit,fun d _=>(((),(),d.1.2.2.1,d.1.2.2.2.1,d.1.2.2.2.2.1,()),((d.2.1.1,d.2.1.2.1,d.2.1.2.2.1,d.2.1.2.2.2.1,d.2.1.2.2.2.2.1,d.2.1.2.2.2.2.2.1,d.2.1.2.2.2.2.2.2.1,()),(d.2.2.1.1,d.2.2.1.2.1,d.2.2.1.2.2.1,d.2.2.1.2.2.2.1,d.2.2.1.2.2.2.2.1,()),()))⟩,
   ⟨⟨.rt,[4],[.p (.i .i64)],[.d,.d]⟩,Int,fun _ r=>((r,()),((),(),()))⟩],
  fun k d=>a4 (pT F (⟨d.2.1.1,d.2.1.2.1,d.2.1.2.2.1,d.2.1.2.2.2.1,d.2.1.2.2.2.2.1,d.2.1.2.2.2.2.2.1,d.2.1.2.2.2.2.2.2.1⟩:I.aU) d.1.2.2.2.1 d.1.2.2.2.2.2.1 k d.1.2.2.2.2.2.2.1)⟩
theorem afH (F:Nat):(Yc F).bU.bP ad (AK F).aM ((AK F).LE 51) (bR ad.P 51) 8 (bT ad.P 51 8):=a5.b5 (fun d=>rfl) fun k av aE q h=>by
 obtain ⟨_,_,(aw:List Int),(v1:List Int),(v2:Int),(aV:List Int),(v4:Int),_⟩:=av
 obtain ⟨⟨(a6:List Int),(v6:Int),(bk:Int),(bn:Int),(br:Int),(v10:List Int),(v11:Int),_⟩,⟨(bV:List I.ap),(b9:List Int),(cl:List (List I.Field)),(c4:List (List (List UInt8))),(eG:List (List I.Target)),_⟩,_⟩:=aE
 conv=>rhs;change Option.map (α:=Unit ⊕ Int) _ (a4 (pT F (⟨a6,v6,bk,bn,br,v10,v11⟩:I.aU) v1 aV (k+ 1) v4));simp only [pT,a'];simp only [bY]
 kernel_rfl
noncomputable def AM (F:Nat):a2 ad:=(AK F).l 51 8 ((Yc F).run ad F)
theorem aqS (ah:aZ ad) (F:Nat) (h:(AK F).ax):(AM F).ax:=h.b7 ah rfl (by kernel_rfl) (afH F) F
@[reducible] noncomputable def Yb (F:Nat):a5 aQ:=⟨[2,3,6,8,12],[.p (.B 0),.p (.B 1),.p (.l 3),.p (.l 3),.p (.i .i64)],[.c 24 [.l 3,.i .i64,.i .i64,.i .i64,.i .i64,.l 3,.i .i64],.c 30 [.l 134,.l 3,.l 124,.l 120,.l 121]],
  [⟨⟨.nm,[2,3,6],[.p (.B 0),.p (.B 1),.p (.l 3)],[.c 24 [.l 3,.i .i64,.i .i64,.i .i64,.i .i64,.l 3,.i .i64],.c 30 [.l 134,.l 3,.l 124,.l 120,.l 121]]⟩,Unit,fun d _=>(((),(),d.1.2.2.1,()),((d.2.1.1,d.2.1.2.1,d.2.1.2.2.1,d.2.1.2.2.2.1,d.2.1.2.2.2.2.1,d.2.1.2.2.2.2.2.1,d.2.1.2.2.2.2.2.2.1,()),(d.2.2.1.1,d.2.2.1.2.1,d.2.2.1.2.2.1,d.2.2.1.2.2.2.1,d.2.2.1.2.2.2.2.1,()),()))⟩,
   ⟨⟨.rt,[4],[.p (.i .i64)],[.d,.d]⟩,Int,fun _ r=>((r,()),((),(),()))⟩],
  fun k d=>a4 (r3 F (⟨d.2.1.1,d.2.1.2.1,d.2.1.2.2.1,d.2.1.2.2.2.1,d.2.1.2.2.2.2.1,d.2.1.2.2.2.2.2.1,d.2.1.2.2.2.2.2.2.1⟩:I.aU) (⟨d.2.2.1.1,d.2.2.1.2.1,d.2.2.1.2.2.1,d.2.2.1.2.2.2.1,d.2.2.1.2.2.2.2.1⟩:I.aH) d.1.2.2.2.1 k d.1.2.2.2.2.1)⟩
theorem afG (F:Nat):(Yb F).bU.bP ad (AM F).aM ((AM F).LE 51) (bR ad.P 51) 6 (bT ad.P 51 6):=a5.b5 (fun d=>rfl) fun k av aE q h=>by
 obtain ⟨_,_,(aw:List Int),(v1:List Int),(v2:Int),_⟩:=av
 obtain ⟨⟨(aV:List Int),(v4:Int),(a6:Int),(v6:Int),(bk:Int),(bn:List Int),(br:Int),_⟩,⟨(v10:List I.ap),(v11:List Int),(bV:List (List I.Field)),(b9:List (List (List UInt8))),(cl:List (List I.Target)),_⟩,_⟩:=aE
 conv=>rhs;change Option.map (α:=Unit ⊕ Int) _ (a4 (r3 F (⟨aV,v4,a6,v6,bk,bn,br⟩:I.aU) (⟨v10,v11,bV,b9,cl⟩:I.aH) v1 (k+ 1) v2));simp only [r3,a'];simp only [bY]
 kernel_rfl
noncomputable def AN (F:Nat):a2 ad:=(AM F).l 51 6 ((Yb F).run ad F)
theorem aqT (ah:aZ ad) (F:Nat) (h:(AM F).ax):(AN F).ax:=h.b7 ah rfl (by kernel_rfl) (afG F) F
@[reducible] noncomputable def Yd (_:Nat):a5 aQ:=⟨[2,3,6,15],[.p (.B 0),.p (.B 1),.p (.l 3),.p (.i .i64)],[.c 24 [.l 3,.i .i64,.i .i64,.i .i64,.i .i64,.l 3,.i .i64],.c 30 [.l 134,.l 3,.l 124,.l 120,.l 121]],
  [⟨⟨.nm,[2,3,6],[.p (.B 0),.p (.B 1),.p (.l 3)],[.c 24 [.l 3,.i .i64,.i .i64,.i .i64,.i .i64,.l 3,.i .i64],.c 30 [.l 134,.l 3,.l 124,.l 120,.l 121]]⟩,Unit,fun d _=>(((),(),d.1.2.2.1,()),((d.2.1.1,d.2.1.2.1,d.2.1.2.2.1,d.2.1.2.2.2.1,d.2.1.2.2.2.2.1,d.2.1.2.2.2.2.2.1,d.2.1.2.2.2.2.2.2.1,()),(d.2.2.1.1,d.2.2.1.2.1,d.2.2.1.2.2.1,d.2.2.1.2.2.2.1,d.2.2.1.2.2.2.2.1,()),()))⟩,
   ⟨⟨.rt,[4],[.p (.i .i64)],[.d,.d]⟩,Int,fun _ r=>((r,()),((),(),()))⟩],
  fun k d=>a4 (ox (⟨d.2.1.1,d.2.1.2.1,d.2.1.2.2.1,d.2.1.2.2.2.1,d.2.1.2.2.2.2.1,d.2.1.2.2.2.2.2.1,d.2.1.2.2.2.2.2.2.1⟩:I.aU) k d.1.2.2.2.1)⟩
theorem afI (F:Nat):(Yd F).bU.bP ad (AN F).aM ((AN F).LE 51) (bR ad.P 51) 10 (bT ad.P 51 10):=a5.b5 (fun d=>rfl) fun k av aE q h=>by
 obtain ⟨_,_,(aw:List Int),(v1:Int),_⟩:=av
 obtain ⟨⟨(v2:List Int),(aV:Int),(v4:Int),(a6:Int),(v6:Int),(bk:List Int),(bn:Int),_⟩,⟨(br:List I.ap),(v10:List Int),(v11:List (List I.Field)),(bV:List (List (List UInt8))),(b9:List (List I.Target)),_⟩,_⟩:=aE
 conv=>rhs;change Option.map (α:=Unit ⊕ Int) _ (a4 (ox (⟨v2,aV,v4,a6,v6,bk,bn⟩:I.aU) (k+ 1) v1));simp only [ox,a'];simp only [bY]
 kernel_rfl
noncomputable def AO (F:Nat):a2 ad:=(AN F).l 51 10 ((Yd F).run ad F)
theorem aqU (ah:aZ ad) (F:Nat) (h:(AN F).ax):(AO F).ax:=h.b7 ah rfl (by kernel_rfl) (afI F) F
noncomputable def LB (F:Nat) (k:Nat) (aF:I.aU) (a8:I.aH) (dU:(List Int) × (List Int) × Bool) (i':Int):=c2 (True) (a4 (mc F aF a8 dU k i'))
theorem Pk (F:Nat) (k:Nat) (aF:I.aU) (a8:I.aH) (dU:(List Int) × (List Int) × Bool) (i':Int):a4 (mc F aF a8 dU k i')=LB F k aF a8 ([],dU.2.1,false) i':=(show a4 (mc F aF a8 dU k i')=a4 (mc F aF a8 ([],dU.2.1,false) k i') by kernel_rfl).trans (dg trivial).symm
@[reducible] noncomputable def Yf (F:Nat):a5 aQ:=⟨[2,3,6,16],[.p (.B 0),.p (.B 1),.p (.l 3),.p (.i .i64)],[.c 24 [.l 3,.i .i64,.i .i64,.i .i64,.i .i64,.l 3,.i .i64],.c 30 [.l 134,.l 3,.l 124,.l 120,.l 121]],
  [⟨⟨.nm,[2,3,6],[.p (.B 0),.p (.B 1),.p (.l 3)],[.c 24 [.l 3,.i .i64,.i .i64,.i .i64,.i .i64,.l 3,.i .i64],.c 30 [.l 134,.l 3,.l 124,.l 120,.l 121]]⟩,Unit,fun d _=>(((),(),d.1.2.2.1,()),((d.2.1.1,d.2.1.2.1,d.2.1.2.2.1,d.2.1.2.2.2.1,d.2.1.2.2.2.2.1,d.2.1.2.2.2.2.2.1,d.2.1.2.2.2.2.2.2.1,()),(d.2.2.1.1,d.2.2.1.2.1,d.2.2.1.2.2.1,d.2.2.1.2.2.2.1,d.2.2.1.2.2.2.2.1,()),()))⟩,
   ⟨⟨.rt,[4],[.p (.i .i64)],[.d,.d]⟩,Int,fun _ r=>((r,()),((),(),()))⟩],
  fun k d=>LB F k (⟨d.2.1.1,d.2.1.2.1,d.2.1.2.2.1,d.2.1.2.2.2.1,d.2.1.2.2.2.2.1,d.2.1.2.2.2.2.2.1,d.2.1.2.2.2.2.2.2.1⟩:I.aU) (⟨d.2.2.1.1,d.2.2.1.2.1,d.2.2.1.2.2.1,d.2.2.1.2.2.2.1,d.2.2.1.2.2.2.2.1⟩:I.aH) ([],d.1.2.2.1,false) d.1.2.2.2.1⟩
theorem afJ (F:Nat):(Yf F).bU.bP ad (AO F).aM ((AO F).LE 51) (bR ad.P 51) 12 (bT ad.P 51 12):=a5.b5 (fun d=>df) fun k av aE q h=>by
 obtain ⟨_,_,(aw:List Int),(v1:Int),_⟩:=av
 obtain ⟨⟨(v2:List Int),(aV:Int),(v4:Int),(a6:Int),(v6:Int),(bk:List Int),(bn:Int),_⟩,⟨(br:List I.ap),(v10:List Int),(v11:List (List I.Field)),(bV:List (List (List UInt8))),(b9:List (List I.Target)),_⟩,_⟩:=aE
 conv=>rhs;change Option.map (α:=Unit ⊕ Int) _ (LB F (k+ 1) (⟨v2,aV,v4,a6,v6,bk,bn⟩:I.aU) (⟨br,v10,v11,bV,b9⟩:I.aH) ([],aw,false) v1);rw [<-Pk F (k+ 1) (⟨v2,aV,v4,a6,v6,bk,bn⟩:I.aU) (⟨br,v10,v11,bV,b9⟩:I.aH) ([],aw,false) v1];simp only [mc,a',Pk];simp only [bY]
 kernel_rfl
noncomputable def AP (F:Nat):a2 ad:=(AO F).l 51 12 ((Yf F).run ad F)
theorem aqV (ah:aZ ad) (F:Nat) (h:(AO F).ax):(AP F).ax:=h.b7 ah rfl (by kernel_rfl) (afJ F) F
noncomputable def LD (F:Nat) (k:Nat) (aF:I.aU) (dU:(List Int) × (List Int) × Bool) (hd:Int) (lU:List Int) (nZ:Int):=c2 (True) (a4 (nf F aF dU hd lU k nZ))
theorem Pm (F:Nat) (k:Nat) (aF:I.aU) (dU:(List Int) × (List Int) × Bool) (hd:Int) (lU:List Int) (nZ:Int):a4 (nf F aF dU hd lU k nZ)=LD F k aF ([],dU.2.1,false) hd lU nZ:=(show a4 (nf F aF dU hd lU k nZ)=a4 (nf F aF ([],dU.2.1,false) hd lU k nZ) by kernel_rfl).trans (dg trivial).symm
@[reducible] noncomputable def Yh (F:Nat):a5 aQ:=⟨[2,3,6,17,18,19],[.p (.B 0),.p (.B 1),.p (.l 3),.p (.i .i64),.p (.l 3),.p (.i .i64)],[.c 24 [.l 3,.i .i64,.i .i64,.i .i64,.i .i64,.l 3,.i .i64],.c 30 [.l 134,.l 3,.l 124,.l 120,.l 121]],
  [⟨⟨.nm,[2,3,6,17],[.p (.B 0),.p (.B 1),.p (.l 3),.p (.i .i64)],[.c 24 [.l 3,.i .i64,.i .i64,.i .i64,.i .i64,.l 3,.i .i64],.c 30 [.l 134,.l 3,.l 124,.l 120,.l 121]]⟩,Unit,fun d _=>(((),(),d.1.2.2.1,d.1.2.2.2.1,()),((d.2.1.1,d.2.1.2.1,d.2.1.2.2.1,d.2.1.2.2.2.1,d.2.1.2.2.2.2.1,d.2.1.2.2.2.2.2.1,d.2.1.2.2.2.2.2.2.1,()),(d.2.2.1.1,d.2.2.1.2.1,d.2.2.1.2.2.1,d.2.2.1.2.2.2.1,d.2.2.1.2.2.2.2.1,()),()))⟩,
   ⟨⟨.rt,[4],[.p (.i .i64)],[.d,.d]⟩,Int,fun _ r=>((r,()),((),(),()))⟩],
  fun k d=>LD F k (⟨d.2.1.1,d.2.1.2.1,d.2.1.2.2.1,d.2.1.2.2.2.1,d.2.1.2.2.2.2.1,d.2.1.2.2.2.2.2.1,d.2.1.2.2.2.2.2.2.1⟩:I.aU) ([],d.1.2.2.1,false) d.1.2.2.2.1 d.1.2.2.2.2.1 d.1.2.2.2.2.2.1⟩
theorem afL (F:Nat):(Yh F).bU.bP ad (AP F).aM ((AP F).LE 51) (bR ad.P 51) 16 (bT ad.P 51 16):=a5.b5 (fun d=>df) fun k av aE q h=>by
 obtain ⟨_,_,(aw:List Int),(v1:Int),(v2:List Int),(aV:Int),_⟩:=av
 obtain ⟨⟨(v4:List Int),(a6:Int),(v6:Int),(bk:Int),(bn:Int),(br:List Int),(v10:Int),_⟩,⟨(v11:List I.ap),(bV:List Int),(b9:List (List I.Field)),(cl:List (List (List UInt8))),(c4:List (List I.Target)),_⟩,_⟩:=aE
 conv=>rhs;change Option.map (α:=Unit ⊕ Int) _ (LD F (k+ 1) (⟨v4,a6,v6,bk,bn,br,v10⟩:I.aU) ([],aw,false) v1 v2 aV);rw [<-Pm F (k+ 1) (⟨v4,a6,v6,bk,bn,br,v10⟩:I.aU) ([],aw,false) v1 v2 aV];simp only [nf,a',Pm];simp only [bY]
 kernel_rfl
noncomputable def AQ (F:Nat):a2 ad:=(AP F).l 51 16 ((Yh F).run ad F)
theorem aqW (ah:aZ ad) (F:Nat) (h:(AP F).ax):(AQ F).ax:=h.b7 ah rfl (by kernel_rfl) (afL F) F
noncomputable def LC (F:Nat) (k:Nat) (aF:I.aU) (a8:I.aH) (dU:(List Int) × (List Int) × Bool) (hd:Int):=c2 (True) (a4 (oy F aF a8 dU k hd))
theorem Pl (F:Nat) (k:Nat) (aF:I.aU) (a8:I.aH) (dU:(List Int) × (List Int) × Bool) (hd:Int):a4 (oy F aF a8 dU k hd)=LC F k aF a8 ([],dU.2.1,false) hd:=(show a4 (oy F aF a8 dU k hd)=a4 (oy F aF a8 ([],dU.2.1,false) k hd) by kernel_rfl).trans (dg trivial).symm
@[reducible] noncomputable def Yg (F:Nat):a5 aQ:=⟨[2,3,6,17],[.p (.B 0),.p (.B 1),.p (.l 3),.p (.i .i64)],[.c 24 [.l 3,.i .i64,.i .i64,.i .i64,.i .i64,.l 3,.i .i64],.c 30 [.l 134,.l 3,.l 124,.l 120,.l 121]],
  [⟨⟨.nm,[],[],[.c 24 [.l 3,.i .i64,.i .i64,.i .i64,.i .i64,.l 3,.i .i64],.c 30 [.l 134,.l 3,.l 124,.l 120,.l 121]]⟩,Unit,fun d _=>((),((d.2.1.1,d.2.1.2.1,d.2.1.2.2.1,d.2.1.2.2.2.1,d.2.1.2.2.2.2.1,d.2.1.2.2.2.2.2.1,d.2.1.2.2.2.2.2.2.1,()),(d.2.2.1.1,d.2.2.1.2.1,d.2.2.1.2.2.1,d.2.2.1.2.2.2.1,d.2.2.1.2.2.2.2.1,()),()))⟩,
   ⟨⟨.rt,[4],[.p (.i .i64)],[.d,.d]⟩,Int,fun _ r=>((r,()),((),(),()))⟩],
  fun k d=>LC F k (⟨d.2.1.1,d.2.1.2.1,d.2.1.2.2.1,d.2.1.2.2.2.1,d.2.1.2.2.2.2.1,d.2.1.2.2.2.2.2.1,d.2.1.2.2.2.2.2.2.1⟩:I.aU) (⟨d.2.2.1.1,d.2.2.1.2.1,d.2.2.1.2.2.1,d.2.2.1.2.2.2.1,d.2.2.1.2.2.2.2.1⟩:I.aH) ([],d.1.2.2.1,false) d.1.2.2.2.1⟩
theorem afK (F:Nat):(Yg F).bU.bP ad (AQ F).aM ((AQ F).LE 51) (bR ad.P 51) 14 (bT ad.P 51 14):=a5.b5 (fun d=>df) fun k av aE q h=>by
 obtain ⟨_,_,(aw:List Int),(v1:Int),_⟩:=av
 obtain ⟨⟨(v2:List Int),(aV:Int),(v4:Int),(a6:Int),(v6:Int),(bk:List Int),(bn:Int),_⟩,⟨(br:List I.ap),(v10:List Int),(v11:List (List I.Field)),(bV:List (List (List UInt8))),(b9:List (List I.Target)),_⟩,_⟩:=aE
 conv=>rhs;change Option.map (α:=Unit ⊕ Int) _ (LC F (k+ 1) (⟨v2,aV,v4,a6,v6,bk,bn⟩:I.aU) (⟨br,v10,v11,bV,b9⟩:I.aH) ([],aw,false) v1);rw [<-Pl F (k+ 1) (⟨v2,aV,v4,a6,v6,bk,bn⟩:I.aU) (⟨br,v10,v11,bV,b9⟩:I.aH) ([],aw,false) v1];simp only [oy,a',Pm,Pl];simp only [bY]
 kernel_rfl
noncomputable def AR (F:Nat):a2 ad:=(AQ F).l 51 14 ((Yg F).run ad F)
theorem aqX (ah:aZ ad) (F:Nat) (h:(AQ F).ax):(AR F).ax:=h.b7 ah rfl (by kernel_rfl) (afK F) F
@[reducible] noncomputable def Wi (F:Nat):bS aQ:=⟨[.a [.l 3,.i .i64,.i .i64,.i .i64,.i .i64,.l 3,.i .i64],.a [.l 134,.l 3,.l 124,.l 120,.l 121]],[],[.p (.i .i64)],[],Int,fun d=>uT F (⟨d.1.1.1,d.1.1.2.1,d.1.1.2.2.1,d.1.1.2.2.2.1,d.1.1.2.2.2.2.1,d.1.1.2.2.2.2.2.1,d.1.1.2.2.2.2.2.2.1⟩:I.aU) (⟨d.1.2.1.1,d.1.2.1.2.1,d.1.2.1.2.2.1,d.1.2.1.2.2.2.1,d.1.2.1.2.2.2.2.1⟩:I.aH),fun _ r=>((r,()),())⟩
theorem afC (F:Nat):(Wi F).Eq ad (AR F).aM (AR F).LE 51 :=fun av aE=>by
 obtain ⟨⟨(aw:List Int),(v1:Int),(v2:Int),(aV:Int),(v4:Int),(a6:List Int),(v6:Int),_⟩,⟨(bk:List I.ap),(bn:List Int),(br:List (List I.Field)),(v10:List (List (List UInt8))),(v11:List (List I.Target)),_⟩,_⟩:=av
 conv=>rhs;change Option.map (α:=Int) _ (uT F (⟨aw,v1,v2,aV,v4,a6,v6⟩:I.aU) (⟨bk,bn,br,v10,v11⟩:I.aH));simp only [uT,a',Pk,Pl]
 kernel_rfl
noncomputable def AU (F:Nat):a2 ad:=(AR F).f 51 ((Wi F).run ad)
theorem aqY (ah:aZ ad) (F:Nat) (h:(AR F).ax):(AU F).ax:=h.rt ah rfl (by kernel_rfl) (afC F)
@[reducible] noncomputable def Wu (F:Nat):bS aQ:=⟨[.a [.l 3,.i .i64,.i .i64,.i .i64,.i .i64,.l 3,.i .i64],.a [.l 134,.l 3,.l 124,.l 120,.l 121]],[],[.p (.i .i64)],[],Int,fun d=>uY F (⟨d.1.1.1,d.1.1.2.1,d.1.1.2.2.1,d.1.1.2.2.2.1,d.1.1.2.2.2.2.1,d.1.1.2.2.2.2.2.1,d.1.1.2.2.2.2.2.2.1⟩:I.aU) (⟨d.1.2.1.1,d.1.2.1.2.1,d.1.2.1.2.2.1,d.1.2.1.2.2.2.1,d.1.2.1.2.2.2.2.1⟩:I.aH),fun _ r=>((r,()),())⟩
theorem agk (F:Nat):(Wu F).Eq ad (AU F).aM (AU F).LE 20 :=fun av aE=>by
 obtain ⟨⟨(aw:List Int),(v1:Int),(v2:Int),(aV:Int),(v4:Int),(a6:List Int),(v6:Int),_⟩,⟨(bk:List I.ap),(bn:List Int),(br:List (List I.Field)),(v10:List (List (List UInt8))),(v11:List (List I.Target)),_⟩,_⟩:=av
 conv=>rhs;change Option.map (α:=Int) _ (uY F (⟨aw,v1,v2,aV,v4,a6,v6⟩:I.aU) (⟨bk,bn,br,v10,v11⟩:I.aH));simp only [uY,a']
 kernel_rfl
noncomputable def AV (F:Nat):a2 ad:=(AU F).f 20 ((Wu F).run ad)
theorem aqZ (ah:aZ ad) (F:Nat) (h:(AU F).ax):(AV F).ax:=h.rt ah rfl (by kernel_rfl) (agk F)
@[reducible] noncomputable def Ws (_:Nat):bS aQ:=⟨[.a [.l 3,.i .i64,.i .i64,.i .i64,.i .i64,.l 3,.i .i64]],[],[.p (.i .i64)],[],Int,fun d=>uX (⟨d.1.1.1,d.1.1.2.1,d.1.1.2.2.1,d.1.1.2.2.2.1,d.1.1.2.2.2.2.1,d.1.1.2.2.2.2.2.1,d.1.1.2.2.2.2.2.2.1⟩:I.aU),fun _ r=>((r,()),())⟩
theorem agh (F:Nat):(Ws F).Eq ad (AV F).aM (AV F).LE 14 :=fun av aE=>by
 obtain ⟨⟨(aw:List Int),(v1:Int),(v2:Int),(aV:Int),(v4:Int),(a6:List Int),(v6:Int),_⟩,_⟩:=av
 conv=>rhs;change Option.map (α:=Int) _ (uX (⟨aw,v1,v2,aV,v4,a6,v6⟩:I.aU));simp only [uX,a']
 kernel_rfl
noncomputable def AW (F:Nat):a2 ad:=(AV F).f 14 ((Ws F).run ad)
theorem aq0 (ah:aZ ad) (F:Nat) (h:(AV F).ax):(AW F).ax:=h.rt ah rfl (by kernel_rfl) (agh F)
@[reducible] noncomputable def YL (_:Nat):a5 aQ:=⟨[0,1,5],[.p (.l 3),.p (.l 3),.p (.i .i64)],[],
  [⟨⟨.nm,[],[],[]⟩,Unit,fun _ _=>((),())⟩,
   ⟨⟨.rt,[4],[.p (.b)],[]⟩,Bool,fun _ r=>((r,()),())⟩],
  fun k d=>a4 (CD d.1.1 d.1.2.1 k d.1.2.2.1)⟩
theorem agw (F:Nat):(YL F).bU.bP ad (AW F).aM ((AW F).LE 18) (bR ad.P 18) 0 (bT ad.P 18 0):=a5.b5 (fun d=>rfl) fun k av aE q h=>by
 obtain ⟨(aw:List Int),(v1:List Int),(v2:Int),_⟩:=av
 conv=>rhs;change Option.map (α:=Unit ⊕ Bool) _ (a4 (CD aw v1 (k+ 1) v2));simp only [CD,a'];simp only [bY]
 kernel_rfl
noncomputable def AX (F:Nat):a2 ad:=(AW F).l 18 0 ((YL F).run ad F)
theorem aq1 (ah:aZ ad) (F:Nat) (h:(AW F).ax):(AX F).ax:=h.b7 ah rfl (by kernel_rfl) (agw F) F
@[reducible] noncomputable def WA (F:Nat):bS aQ:=⟨[.p (.l 3),.p (.l 3)],[],[.p (.b)],[],Bool,fun d=>CC F d.1.1 d.1.2.1,fun _ r=>((r,()),())⟩
theorem agv (F:Nat):(WA F).Eq ad (AX F).aM (AX F).LE 18 :=fun av aE=>by
 obtain ⟨(aw:List Int),(v1:List Int),_⟩:=av
 conv=>rhs;change Option.map (α:=Bool) _ (CC F aw v1);simp only [CC,a']
 kernel_rfl
noncomputable def A0 (F:Nat):a2 ad:=(AX F).f 18 ((WA F).run ad)
theorem aq4 (ah:aZ ad) (F:Nat) (h:(AX F).ax):(A0 F).ax:=h.rt ah rfl (by kernel_rfl) (agv F)
@[reducible] noncomputable def Wz (F:Nat):bS aQ:=⟨[.a [.l 3,.i .i64,.i .i64,.i .i64,.i .i64,.l 3,.i .i64],.a [.l 3,.i .i64,.i .i64,.i .i64,.i .i64,.l 3,.i .i64]],[],[.p (.b)],[],Bool,fun d=>FN F (⟨d.1.1.1,d.1.1.2.1,d.1.1.2.2.1,d.1.1.2.2.2.1,d.1.1.2.2.2.2.1,d.1.1.2.2.2.2.2.1,d.1.1.2.2.2.2.2.2.1⟩:I.aU) (⟨d.1.2.1.1,d.1.2.1.2.1,d.1.2.1.2.2.1,d.1.2.1.2.2.2.1,d.1.2.1.2.2.2.2.1,d.1.2.1.2.2.2.2.2.1,d.1.2.1.2.2.2.2.2.2.1⟩:I.aU),fun _ r=>((r,()),())⟩
theorem agu (F:Nat):(Wz F).Eq ad (A0 F).aM (A0 F).LE 32 :=fun av aE=>by
 obtain ⟨⟨(aw:List Int),(v1:Int),(v2:Int),(aV:Int),(v4:Int),(a6:List Int),(v6:Int),_⟩,⟨(bk:List Int),(bn:Int),(br:Int),(v10:Int),(v11:Int),(bV:List Int),(b9:Int),_⟩,_⟩:=av
 conv=>rhs;change Option.map (α:=Bool) _ (FN F (⟨aw,v1,v2,aV,v4,a6,v6⟩:I.aU) (⟨bk,bn,br,v10,v11,bV,b9⟩:I.aU));simp only [FN,a']
 kernel_rfl
noncomputable def A1 (F:Nat):a2 ad:=(A0 F).f 32 ((Wz F).run ad)
theorem aq5 (ah:aZ ad) (F:Nat) (h:(A0 F).ax):(A1 F).ax:=h.rt ah rfl (by kernel_rfl) (agu F)
@[reducible] noncomputable def Wd (F:Nat):bS aQ:=⟨[.a [.l 3,.i .i64,.i .i64,.i .i64,.i .i64,.l 3,.i .i64],.p (.i .i64),.p (.i .i64),.a [.l 3,.i .i64,.i .i64,.i .i64,.i .i64,.l 3,.i .i64]],[],[.p (.b)],[],Bool,fun d=>J9 F (⟨d.1.1.1,d.1.1.2.1,d.1.1.2.2.1,d.1.1.2.2.2.1,d.1.1.2.2.2.2.1,d.1.1.2.2.2.2.2.1,d.1.1.2.2.2.2.2.2.1⟩:I.aU) d.1.2.1 d.1.2.2.1 (⟨d.1.2.2.2.1.1,d.1.2.2.2.1.2.1,d.1.2.2.2.1.2.2.1,d.1.2.2.2.1.2.2.2.1,d.1.2.2.2.1.2.2.2.2.1,d.1.2.2.2.1.2.2.2.2.2.1,d.1.2.2.2.1.2.2.2.2.2.2.1⟩:I.aU),fun _ r=>((r,()),())⟩
theorem aft (F:Nat):(Wd F).Eq ad (A1 F).aM (A1 F).LE 17 :=fun av aE=>by
 obtain ⟨⟨(aw:List Int),(v1:Int),(v2:Int),(aV:Int),(v4:Int),(a6:List Int),(v6:Int),_⟩,(bk:Int),(bn:Int),⟨(br:List Int),(v10:Int),(v11:Int),(bV:Int),(b9:Int),(cl:List Int),(c4:Int),_⟩,_⟩:=av
 conv=>rhs;change Option.map (α:=Bool) _ (J9 F (⟨aw,v1,v2,aV,v4,a6,v6⟩:I.aU) bk bn (⟨br,v10,v11,bV,b9,cl,c4⟩:I.aU));simp only [J9,a']
 kernel_rfl
noncomputable def A2 (F:Nat):a2 ad:=(A1 F).f 17 ((Wd F).run ad)
theorem aq6 (ah:aZ ad) (F:Nat) (h:(A1 F).ax):(A2 F).ax:=h.rt ah rfl (by kernel_rfl) (aft F)
noncomputable def LH (F:Nat) (k:Nat) (hk:List Int) (g2:(List Int) × (List Int) × Bool) (k2:Int):=c2 (True) (a4 (pY F hk g2 k k2))
theorem Pp (F:Nat) (k:Nat) (hk:List Int) (g2:(List Int) × (List Int) × Bool) (k2:Int):a4 (pY F hk g2 k k2)=LH F k hk (g2.1,g2.2.1,false) k2:=(show a4 (pY F hk g2 k k2)=a4 (pY F hk (g2.1,g2.2.1,false) k k2) by kernel_rfl).trans (dg trivial).symm
@[reducible] noncomputable def YB (F:Nat):a5 aQ:=⟨[2,7,8,10],[.p (.l 3),.p (.l 3),.p (.l 3),.p (.i .i64)],[],
  [⟨⟨.nm,[],[],[]⟩,Unit,fun _ _=>((),())⟩,
   ⟨⟨.rt,[6],[.p (.i .i64)],[]⟩,Int,fun _ r=>((r,()),())⟩],
  fun k d=>LH F k d.1.1 (d.1.2.1,d.1.2.2.1,false) d.1.2.2.2.1⟩
theorem af9 (F:Nat):(YB F).bU.bP ad (A2 F).aM ((A2 F).LE 40) (bR ad.P 40) 0 (bT ad.P 40 0):=a5.b5 (fun d=>df) fun k av aE q h=>by
 obtain ⟨(aw:List Int),(v1:List Int),(v2:List Int),(aV:Int),_⟩:=av
 conv=>rhs;change Option.map (α:=Unit ⊕ Int) _ (LH F (k+ 1) aw (v1,v2,false) aV);rw [<-Pp F (k+ 1) aw (v1,v2,false) aV];simp only [pY,a',Pp];simp only [bY]
 kernel_rfl
noncomputable def A3 (F:Nat):a2 ad:=(A2 F).l 40 0 ((YB F).run ad F)
theorem aq7 (ah:aZ ad) (F:Nat) (h:(A2 F).ax):(A3 F).ax:=h.b7 ah rfl (by kernel_rfl) (af9 F) F
@[reducible] noncomputable def Wm (F:Nat):bS aQ:=⟨[.a [.l 3,.i .i64,.i .i64,.i .i64,.i .i64,.l 3,.i .i64],.a [.l 134,.l 3,.l 124,.l 120,.l 121],.p (.l 3)],[],[.p (.i .i64)],[],Int,fun d=>FM F (⟨d.1.1.1,d.1.1.2.1,d.1.1.2.2.1,d.1.1.2.2.2.1,d.1.1.2.2.2.2.1,d.1.1.2.2.2.2.2.1,d.1.1.2.2.2.2.2.2.1⟩:I.aU) (⟨d.1.2.1.1,d.1.2.1.2.1,d.1.2.1.2.2.1,d.1.2.1.2.2.2.1,d.1.2.1.2.2.2.2.1⟩:I.aH) d.1.2.2.1,fun _ r=>((r,()),())⟩
theorem af8 (F:Nat):(Wm F).Eq ad (A3 F).aM (A3 F).LE 40 :=fun av aE=>by
 obtain ⟨⟨(aw:List Int),(v1:Int),(v2:Int),(aV:Int),(v4:Int),(a6:List Int),(v6:Int),_⟩,⟨(bk:List I.ap),(bn:List Int),(br:List (List I.Field)),(v10:List (List (List UInt8))),(v11:List (List I.Target)),_⟩,(bV:List Int),_⟩:=av
 conv=>rhs;change Option.map (α:=Int) _ (FM F (⟨aw,v1,v2,aV,v4,a6,v6⟩:I.aU) (⟨bk,bn,br,v10,v11⟩:I.aH) bV);simp only [FM,a',Pp]
 kernel_rfl
noncomputable def A4 (F:Nat):a2 ad:=(A3 F).f 40 ((Wm F).run ad)
theorem aq8 (ah:aZ ad) (F:Nat) (h:(A3 F).ax):(A4 F).ax:=h.rt ah rfl (by kernel_rfl) (af8 F)
@[reducible] noncomputable def Wf (F:Nat):bS aQ:=⟨[.a [.l 3,.i .i64,.i .i64,.i .i64,.i .i64,.l 3,.i .i64],.a [.l 134,.l 3,.l 124,.l 120,.l 121],.p (.l 3)],[],[.p (.i .i64)],[],Int,fun d=>J_ F (⟨d.1.1.1,d.1.1.2.1,d.1.1.2.2.1,d.1.1.2.2.2.1,d.1.1.2.2.2.2.1,d.1.1.2.2.2.2.2.1,d.1.1.2.2.2.2.2.2.1⟩:I.aU) (⟨d.1.2.1.1,d.1.2.1.2.1,d.1.2.1.2.2.1,d.1.2.1.2.2.2.1,d.1.2.1.2.2.2.2.1⟩:I.aH) d.1.2.2.1,fun _ r=>((r,()),())⟩
theorem afu (F:Nat):(Wf F).Eq ad (A4 F).aM (A4 F).LE 13 :=fun av aE=>by
 obtain ⟨⟨(aw:List Int),(v1:Int),(v2:Int),(aV:Int),(v4:Int),(a6:List Int),(v6:Int),_⟩,⟨(bk:List I.ap),(bn:List Int),(br:List (List I.Field)),(v10:List (List (List UInt8))),(v11:List (List I.Target)),_⟩,(bV:List Int),_⟩:=av
 conv=>rhs;change Option.map (α:=Int) _ (J_ F (⟨aw,v1,v2,aV,v4,a6,v6⟩:I.aU) (⟨bk,bn,br,v10,v11⟩:I.aH) bV);simp only [J_,a']
 kernel_rfl
noncomputable def A5 (F:Nat):a2 ad:=(A4 F).f 13 ((Wf F).run ad)
theorem aq9 (ah:aZ ad) (F:Nat) (h:(A4 F).ax):(A5 F).ax:=h.rt ah rfl (by kernel_rfl) (afu F)
theorem aar (ah:aZ ad) (F:Nat) (h:(rT F).ax):(A5 F).ax:=aq9 ah F (aq8 ah F (aq7 ah F (aq6 ah F (aq5 ah F (aq4 ah F (aq1 ah F (aq0 ah F (aqZ ah F (aqY ah F (aqX ah F (aqW ah F (aqV ah F (aqU ah F (aqT ah F (aqS ah F (aqQ ah F (aqP ah F (aqO ah F (aqN ah F (aqM ah F (aqL ah F (aqK ah F (aqJ ah F (aqI ah F (aqH ah F (aqF ah F (aqE ah F (aqD ah F (aqC ah F (aqB ah F (aqA ah F (aqz ah F (aqy ah F (aqx ah F (aqw ah F (aqu ah F (aqt ah F (aqs ah F (aqr ah F (aqq ah F (aqp ah F (aqo ah F (aqn ah F (aqm ah F (aql ah F (aqj ah F (aqi ah F (aqh ah F (aqg ah F (aqf ah F (aqe ah F (aqd ah F (aqc ah F (aqb ah F (aqa ah F (ap_ ah F (ap9 ah F (ap8 ah F (ap7 ah F (ap6 ah F (ap5 ah F (ap4 ah F (ap3 ah F (ap2 ah F (ap1 ah F (apZ ah F (apY ah F (apX ah F (apW ah F (apV ah F (apU ah F (apT ah F (apS ah F (apR ah F (apQ ah F (apO ah F (apN ah F (apM ah F (apL ah F (apK ah F (apJ ah F (apI ah F (apH ah F (apG ah F (apF ah F (apD ah F (apC ah F (apB ah F (apA ah F (apz ah F (apy ah F (apx ah F (apw ah F (apv ah F (apu ah F (aps ah F (apr ah F (apq ah F (app ah F (apo ah F (apn ah F (apm ah F (apl ah F (apk ah F (apj ah F (asw ah F (asv ah F (asu ah F (ast ah F (ass ah F (asr ah F (asq ah F (asp ah F (aso ah F (asn ah F (asl ah F (asj ah F (asi ah F (ash ah F (asg ah F (asf ah F (ase ah F (asd ah F (asc ah F (asb ah F (ar' ah F (ar_ ah F (ar9 ah F (ar8 ah F (ar7 ah F (ar6 ah F (ar5 ah F (ar4 ah F (ar3 ah F (ar2 ah F (ar0 ah F (arZ ah F (arY ah F (arX ah F (arW ah F (arV ah F (arU ah F (arT ah F (arS ah F (arR ah F (arP ah F (arO ah F (arN ah F (arM ah F (arL ah F (arK ah F (arJ ah F (arI ah F (arH ah F (arG ah F (arE ah F (arD ah F (arC ah F (arB ah F (arA ah F (arz ah F (ary ah F (arx ah F (arw ah F (arv ah F (art ah F (ars ah F (arr ah F (arq ah F (arp ah F (aro ah F (arn ah F (arm ah F (arl ah F (ark ah F (ari ah F (arh ah F (arf ah F (ard ah F (arc ah F (arb ah F (ara ah F (aq' ah F (aq_ ah F (aq3 ah F (aqR ah F (aqG ah F (aqv ah F (aqk ah F (ap' ah F (ap0 ah F (apP ah F (apE ah F (apt ah F (api ah F (asm ah F (asa ah F (ar1 ah F (arQ ah F (arF ah F (aru ah F (arj ah F (aq2 ah F (aph ah F h))))))))))))))))))))))))))))))))))))))))))))))))))))))))))))))))))))))))))))))))))))))))))))))))))))))))))))))))))))))))))))))))))))))))))))))))))))))))))))))))))))))))))))))))))))))))))))))))))))))))))))
end Go.Proofs.YteeliipnilghaaaGreat
