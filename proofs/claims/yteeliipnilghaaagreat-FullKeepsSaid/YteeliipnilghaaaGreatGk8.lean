/- LAW: THE WALK AND THE PLAIN LAW, JOINED TO THE GIVEN STATEMENT: for every input that the row speaks of, the call returns true and what came in reads as it did. Made by program (liftgen2.py). -/
import Derived.Test.YteeliipnilghaaaGreatGk7
import Derived.Test.YteeliipnilghaaaGreatRows
import Derived.WalkKit
import Derived.ProofKit
import Derived.OpenShut
import Derived.Deep.DeepHandedRow
open Bool renaming and_false->mF,false_or->iu,not_false->hN,not_true->dC
open List renaming all_eq_true->kh,any_eq_true->h2,append_nil->hp,cons.inj->eE,length_map->fW,length_nil->fT,mem_append->b_,mem_map->hB
open Option renaming bind_some->ae,some.inj->ei
namespace Go.Proofs.YteeliipnilghaaaGreat
open I
section
variable{F:Nat}{h x:aU}{k:aR}{Y O L:List Int}
theorem asF(b:10000<F)(C:3000000<F)(g:I.Good F h k Y O)(p:∃e,n' F k=some e/\s3 F k=some e/\(e≠0\/(e=0/\gi k)))(q:h.Next<=9223372036854775807)(c:fA h k L x)(aj:∀a∈L,a∈Y++O){roots:List Int}(l:roots.length<=1000)(f:∀v∈roots,v=0\/v∈L) :
 Eo F h.Words h.au h.aN h.aX h.aW h.aV h.Next k.a8 k.aZ k.Fields k.Names k.a1 roots x.Words x.au x.aN x.aX x.aW x.aV x.Next (roots.map (tn h L))=some ((true,()),()):=by
 have i:=c.U6 g aj
 have hi:=c.inj g aj
 have m:∀v∈roots.map (tn h L),v=0\/v∈[]++news h.Words (h.au+1).toNat L:=λ v d=>by
  obtain⟨w,s,rfl⟩:=hB.1 d;rcases f w s with e |e
  ·rw[e,GF];exact .inl rfl
  ·exact .inr (P_ c.il (hi.KJ w e) e).1
 obtain⟨r,n,ak,hc⟩:=ai3 (h:=x) b p (by rw[c.nt];exact⟨by simp,by simp;omega⟩) (by rw[c.nx];exact q)
 have t:r.2=0:=by
  have:=i.open b;rw[this]at n;obtain rfl:=ei n;rfl
 rw[t]at ak
 have u:x3 F (aU.mk x.Words x.au x.aN x.aX x.aW x.aV x.Next) (aR.mk k.a8 k.aZ k.Fields k.Names k.a1)=_:=ak
 have j:(roots.map (tn h L)).length=roots.length:=fW _
 have y:iG [] (news h.Words (h.au+1).toNat L) (roots.map (tn h L))=0:=by
  unfold iG;rw[if_neg (by rw[j];omega),if_neg];intro z;obtain⟨v,d,af⟩:=h2.1 z;unfold s8 at af;rcases m v d with e |e
  ·rw[decide_eq_true e]at af;cases af
  ·rw[decide_eq_true e,dC,mF]at af;cases af
 have A:x1 F (aU.mk x.Words x.au x.aN x.aX x.aW x.aV x.Next) (aR.mk k.a8 k.aZ k.Fields k.Names k.a1) (roots.map (tn h L))=_:=aGr b i (roots.map (tn h L))
 obtain⟨B,D⟩:=akH b g l (λ v d=>(f v d).imp id (aj v))
 obtain⟨o,_⟩:=akH b i (roots:=roots.map (tn h L)) (by rw[j];exact l) m
 rw[c.shape g aj f]at o
 unfold Eo
 rw[u,ae,decide_eq_true (rfl:(0 :Int)=0),cond_true,A,ae,y,j,decide_eq_true (rfl:(0 :Int)=0),decide_eq_true (rfl:(roots.length:Int)=roots.length),Bool.and_self,cond_true,B,ae,o,ae]
 dsimp only
 rw[PR ⟨by omega,by omega⟩,ae]
end
end Go.Proofs.YteeliipnilghaaaGreat
namespace Go.Proofs.YteeliipnilghaaaGreat
open I
theorem aDO(h:aU)(l:acL Go.reachBytes h)(k:aR)(D:LY Go.reachBytes k)(roots:List Int)(_:roots.length*8<=Go.reachBytes/\ ∀x∈roots,aw.jC x) :
 ∃F,LX F h.Words h.au h.aN h.aX h.aW h.aV h.Next k.a8 k.aZ k.Fields k.Names k.a1 roots=some ((true,()),()):=by
 refine⟨140737488355940+60,?_⟩
 have b:10000<140737488355940+60:=by omega
 have s:3000000<140737488355940+60:=by omega
 have j:=atq D
 have u:Small (140737488355940+60) h.aV.length:=py 7 l.2.2.2.2.2.1.1
 generalize f:(140737488355940+60 :Nat)=F at b s u⊢
 have j:∃e,n' F k=some e/\s3 F k=some e/\(e≠0\/(e=0/\gi k)):=by rw[<-f];exact j
 clear f
 obtain⟨r,w,ak,hc⟩:=ai3 b j u l.2.2.2.2.2.2.2
 unfold LX
 rcases hc with⟨c1,c2⟩|⟨Y,O,g,rfl⟩
 ·rw[av8 w c2 c1,ae,av1 w c2 c1,ae,decide_eq_false c1,hN,cond_true]
  dsimp only
  rw[decide_eq_true (rfl:r.2=r.2)]
 ·by_cases d:iG Y O roots=0
  ·obtain⟨y,m⟩:=ZH d
   obtain⟨E,G⟩:=afo b g d
   have z:=av9 b g d
   by_cases hc:h.aN<((fS h.Words [] (kept k h Y O roots):Nat):Int)
   ·rw[z,ae,E hc,ae]
    dsimp only
    rw[decide_eq_true (rfl:(0 :Int)=0),dC,cond_false,decide_eq_false (show¬(8 :Int)=0 by decide),hN,cond_true,decide_eq_true (rfl:(8 :Int)=8),decide_eq_true hc]
    rfl
   ·obtain⟨Z,H,c⟩:=G hc
    have aj:=(Ob g m).sub
    have A:=WR g m
    have J:=asF b s g j l.2.2.2.2.2.2.2 c aj y A.2
    have B:=c.U6 g aj
    have o:=aAp g m c
    obtain⟨zN,K⟩:=aG3 B c.yt c.nt
    have L:=c.iG g aj y A.2
    obtain⟨_,C⟩:=afo b B L
    rw[o]at C
    obtain⟨⟨⟨bQ,dS⟩,fB,fL⟩,M,⟨EF,EG⟩,⟨oX,EH⟩,BN⟩:=id g.s
    unfold okB at M
    have N:Z.length=h.Words.length:=c.len
    have p:cf h.Words (h.au+1).toNat (kept k h Y O roots)=cf Z (h.au+1).toNat (news h.Words (h.au+1).toNat (kept k h Y O roots)):=Int.ofNat.inj zN.ot
    have P:=JN (W:=Z) (S:=news h.Words (h.au+1).toNat (kept k h Y O roots)) (t:=(h.au+1).toNat)
    have Q:=JN (W:=h.Words) (S:=kept k h Y O roots) (t:=(h.au+1).toNat)
    have R: ¬h.aN<((fS Z [] (news h.Words (h.au+1).toNat (kept k h Y O roots)):Nat):Int):=by
     have:=c.room;omega
    obtain⟨a,i,T⟩:=C R
    have q:a=Z:=T.uE zN
    subst q
    have U:(roots.map (tn h (kept k h Y O roots))).map (tn ⟨a,h.au,h.aN,1,((cf h.Words (h.au+1).toNat (kept k h Y O roots):Nat):Int),[],h.Next⟩ (news h.Words (h.au+1).toNat (kept k h Y O roots)))=roots.map (tn h (kept k h Y O roots)):=by
     conv=>rhs;rw[<-List.map_id (roots.map (tn h (kept k h Y O roots)))]
     exact List.map_congr_left λ v _=>K v
    rw[U]at i
    have i:rA F a h.au h.aN 1 ((cf h.Words (h.au+1).toNat (kept k h Y O roots):Nat):Int) [] h.Next k.a8 k.aZ k.Fields k.Names k.a1 (roots.map (tn h (kept k h Y O roots)))=
     some (((a,h.au,h.aN,1,((cf a (h.au+1).toNat (news h.Words (h.au+1).toNat (kept k h Y O roots)):Nat):Int),[],h.Next,()),roots.map (tn h (kept k h Y O roots)),0,()),()):=i
    rw[<-p]at i
    have V:I.ax (I.ax (((cf h.Words (h.au+1).toNat (kept k h Y O roots):Nat):Int)-h.au)-1)=((fS h.Words [] (kept k h Y O roots):Nat):Int):=by
     have:=c.room;rw[cT (n:=((cf h.Words (h.au+1).toNat (kept k h Y O roots):Nat):Int)-h.au) (by omega) (by omega),cT (by omega) (by omega)];omega
    have X:Bv F (⟨a,h.au,h.aN,1,((cf h.Words (h.au+1).toNat (kept k h Y O roots):Nat):Int),[],h.Next⟩:aU) (⟨a,h.au,h.aN,1,((cf h.Words (h.au+1).toNat (kept k h Y O roots):Nat):Int),[],h.Next⟩:aU)=some true:=
     aGT ⟨by show a.length<=_;omega,by show a.length<_;omega⟩ ⟨by simp,by simp;omega⟩
    rw[z,ae,H,ae]
    dsimp only
    rw[decide_eq_true (rfl:(0 :Int)=0),dC,cond_false,cond_false,J,ae,V]
    dsimp only
    rw[decide_eq_true (rfl:(1 :Int)=1),decide_eq_true (rfl:((fS h.Words [] (kept k h Y O roots):Nat):Int)=_)]
    simp only[dC,Bool.or_false,fT,iu]
    rw[decide_eq_false (show¬(0 :Int)<((0 :Nat):Int) by decide),cond_false,i,ae]
    dsimp only
    rw[decide_eq_true (rfl:(0 :Int)=0),cond_true,X,ae,cond_true,PR ⟨by rw[fW];omega,by rw[fW];omega⟩,ae]
  ·rw[av_ b g d,ae,av2 b g d,ae,decide_eq_false d,hN,cond_true]
   dsimp only
   rw[decide_eq_true (rfl:iG Y O roots=iG Y O roots)]
end Go.Proofs.YteeliipnilghaaaGreat
namespace Go.Proofs.YteeliipnilghaaaGreat.fullKeeps
open Go Go.ChangeShapes Go.WideShapes Go.ChangeAt Go.RowKit
theorem own:ownKnob Tryz.prog.godebug=none:=by kernel_rfl
set_option maxRecDepth 100000 in
theorem atx(H:Type)(enc:TypeId×Value->H)(W:World)(base:Nat)(args:Array Value)(ds gs:List (DataW H))(before:List MemPlace)
 (h:∀(j:Nat) t v,Tryz.f10.params[j]? =some t->args[j]? =some v->Value.okWide Tryz.prog W .any base t v)
 (l:DataW.Whole enc Tryz.prog Tryz.f10.params.toList Rows.fullKeepsSpec.vars false W args.toList ds gs before)(NJ:∀n∈DataW.weightsEach Tryz.prog Tryz.f10.params.toList ds,n<=reachBytes) :
 Calls Tryz.prog 10 args W λ e V=>∃v,e= .returned v/\Rows.fullKeepsSpec.post enc Tryz.prog Tryz.f10 false true false false W args v V:=by
 have o:=l
 have s:=l.lt
 obtain⟨p,q,u,p',Fz,qc,ka⟩:=l
 have X:DataW.TrodAll enc Tryz.prog W 0 (λ _=>true) true Tryz.f10.params.toList args.toList ds p:=u
 have i:=NJ
 rw[Tryz.params10]at X h i
 obtain⟨v0,aHV,a,aMj,g_,aM2,Vj,rfl,rfl,aG,w⟩:=trodAll_cons X
 obtain⟨v1,aNd,b,aMk,cW,br,rfl,rfl,rfl,h1,y⟩:=trodAll_cons w
 obtain⟨Y,aNe,d,aMl,eF,bA,rfl,rfl,rfl,J,z⟩:=trodAll_cons y
 obtain⟨rfl,rfl,rfl⟩:=trodAll_nil z
 obtain rfl:args= #[v0,v1,Y]:=by cases args;simp_all
 obtain⟨rfl,rfl⟩:=trodVars_none p'
 have A:=aF3 (enc:=enc) (N:=reachBytes)
 have B:=aw.SJ A aG (λ x f=>s x (by subst Fz;simp[f]))
 have C:=B (λ m g=>i m (by simp only[DataW.weightsEach,b_];simp[g]))
 obtain⟨a,e3,ik⟩:=C
 obtain⟨v0,rfl,_⟩:=okWide_struct Tryz.underlying24 (h 0 24 v0 rfl rfl)
 obtain⟨aLX,aL',aLY,aMa,cp,D,G⟩:=e3
 obtain rfl:=aw.acU cp
 have I:=aF4 (enc:=enc) (N:=reachBytes)
 have K:=aw.SJ I h1 (λ x f=>s x (by subst Fz;simp[f]))
 have L:=K (λ m g=>i m (by simp only[DataW.weightsEach,b_];simp[g]))
 obtain⟨b,cz,bk⟩:=L
 obtain⟨v1,rfl,_⟩:=okWide_struct Tryz.underlying30 (h 1 30 v1 rfl rfl)
 obtain⟨aLZ,aMb,aL0,aMc,aL1,aMd,aL2,aMe,aL3,aMf,ai,M,O,P,Q,R⟩:=cz
 obtain rfl:=aw.acU ai
 have S:=PA (enc:=enc) (N:=reachBytes)
 have T:=aw.SJ S J (λ x f=>s x (by subst Fz;simp[f]))
 have U:=T (λ m g=>i m (by simp only[DataW.weightsEach,b_];simp[g]))
 obtain⟨d,Z,bh⟩:=U
 obtain⟨a2,og,c2,rfl⟩:=okWide_slice Tryz.underlying22 (h 2 22 Y rfl rfl)
 obtain⟨df,acw,ak⟩:=aw.mX Z
 obtain⟨rfl,rfl,rfl⟩:=Value.slice.inj (eE ak).1
 obtain⟨F,aB⟩:=Go.Proofs.YteeliipnilghaaaGreat.aDO a ik b bk d bh
 have c:∀k,aw.ib [] W k->k<W.heap.size/\W.heap[k]? =W.heap[k]? :=λ k hk=>⟨hk.2,rfl⟩
 have gm:((WO F).run aE [.a [.s 3 a.Words,.p (.int .i64 a.au),.p (.int .i64 a.aN),.p (.int .i64 a.aX),.p (.int .i64 a.aW),.s 3 a.aV,.p (.int .i64 a.Next)],.a [.s 134 b.a8,.s 3 b.aZ,.s 124 b.Fields,.s 120 b.Names,.s 121 b.a1],.s 3 d] [])= .op (LX F a.Words a.au a.aN a.aX a.aW a.aV a.Next b.a8 b.aZ b.Fields b.Names b.a1 d) λ r=>.ok ⟨.ret (.p (.bool r.1.1)),[],[]⟩:=by kernel_rfl
 refine(bc.aBP (E:=aE) rfl (atc F) (ys:=[.a [.s 3 a.Words,.p (.int .i64 a.au),.p (.int .i64 a.aN),.p (.int .i64 a.aX),.p (.int .i64 a.aW),.s 3 a.aV,.p (.int .i64 a.Next)],.a [.s 134 b.a8,.s 3 b.aZ,.s 124 b.Fields,.s 120 b.Names,.s 121 b.a1],.s 3 d]) (W:=W) (by rw[gm];exact⟨((true,()),()),aB,rfl⟩) ⟨_,_,rfl,⟨_,rfl,_,_,rfl,bc.jl (λ _ _=>Pz) ((aw.b3 _).law c D),_,_,rfl,rfl,_,_,rfl,rfl,_,_,rfl,rfl,_,_,rfl,rfl,_,_,rfl,bc.jl (λ _ _=>Pz) ((aw.b3 _).law c G),_,_,rfl,rfl,rfl⟩,_,_,rfl,⟨_,rfl,_,_,rfl,bc.jl (λ _ _=>aFW) ((aw.b3 _).law c M),_,_,rfl,bc.jl (λ _ _=>Pz) ((aw.b3 _).law c O),_,_,rfl,bc.jl (λ _ _=>aFT) ((aw.b3 _).law c P),_,_,rfl,bc.jl (λ _ _=>aFR) ((aw.b3 _).law c Q),_,_,rfl,bc.jl (λ _ _=>aFS) ((aw.b3 _).law c R),rfl⟩,_,_,rfl,bc.jl (λ _ _=>Pz) ((aw.b3 _).law c Z),rfl⟩).mono λ e V ⟨he,ag⟩=>?_
 exact⟨_,he,aw.aDQ o (by kernel_rfl) (by kernel_rfl) rfl rfl Tryz.underlying4 rfl ag⟩
theorem aBN(os:Os):laidMet Tryz.prog Rows.fullKeepsRow.laid ((World.holding Tryz.prog os ⟨#[],#[],[]⟩).forCall (λ _ _=>0) ⟨#[],#[.agg #[.slice none 0 0,.int .i64 0,.int .i64 0,.int .i64 0,.int .i64 0,.slice none 0 0,.int .i64 0],.agg #[.slice none 0 0,.slice none 0 0,.slice none 0 0,.slice none 0 0,.slice none 0 0],.slice none 0 0],[]⟩).memory:=
 laidMet_of_run' 8 (by kernel_rfl) (by kernel_rfl)
theorem reads(os:Os){H:Type}(enc:TypeId×Value->H):∃places,DataW.whole enc Tryz.prog ((World.holding Tryz.prog os ⟨#[],#[],[]⟩).forCall (λ _ _=>0) ⟨#[],#[.agg #[.slice none 0 0,.int .i64 0,.int .i64 0,.int .i64 0,.int .i64 0,.slice none 0 0,.int .i64 0],.agg #[.slice none 0 0,.slice none 0 0,.slice none 0 0,.slice none 0 0,.slice none 0 0],.slice none 0 0],[]⟩).memory Tryz.f10.params.toList Rows.fullKeepsSpec.vars false (#[.agg #[.slice none 0 0,.int .i64 0,.int .i64 0,.int .i64 0,.int .i64 0,.slice none 0 0,.int .i64 0],.agg #[.slice none 0 0,.slice none 0 0,.slice none 0 0,.slice none 0 0,.slice none 0 0],.slice none 0 0]:Array Value).toList 8=some ([.agg [.nil,.lit (.int .i64 0),.lit (.int .i64 0),.lit (.int .i64 0),.lit (.int .i64 0),.nil,.lit (.int .i64 0)],.agg [.nil,.nil,.nil,.nil,.nil],.nil],[],places):=
 ⟨[],by kernel_rfl⟩
set_option maxRecDepth 100000 in
theorem lifted(os:Os)(a:os.Started)(H:Type)(enc:TypeId×Value->H)(F:Stop.Interp) :
 ReturnsInHanded {} Tryz.checked os 10 .any ((OpenSpec.ofChange Rows.fullKeepsSpec).preRow enc Tryz.prog Tryz.f10 Rows.fullKeepsRow.domain false Rows.fullKeepsRow.laid) (((OpenSpec.ofChange Rows.fullKeepsSpec).at F).post enc Tryz.prog Tryz.f10 false true false false):=by
 obtain⟨places,d⟩:=reads os enc
 refine returnsInHanded_of_row (C:=Tryz.checked) (s:=OpenSpec.ofChange Rows.fullKeepsSpec) own a (by kernel_rfl) Tryz.func10
  (witness_row_at (enc:=enc) (C:=Tryz.checked) false (World.holding Tryz.prog os ⟨#[],#[],[]⟩) #[.agg #[.slice none 0 0,.int .i64 0,.int .i64 0,.int .i64 0,.int .i64 0,.slice none 0 0,.int .i64 0],.agg #[.slice none 0 0,.slice none 0 0,.slice none 0 0,.slice none 0 0,.slice none 0 0],.slice none 0 0] rfl (by kernel_rfl) (by kernel_rfl) (by kernel_rfl)
   (OpenSpec.preRow_of_cond 8 d (by kernel_rfl) (λ k e=>by cases e) (by kernel_rfl) (aBN os))) ?_
 intro W base args ds gs before f c _ g b _ _ _
 exact atx H enc W base args ds gs before f c (λ n h=>by obtain⟨_,_,_,i,_,_,_⟩:=c;obtain⟨rfl,_⟩:=trodVars_none i;have kB:(DataW.weightsEach Tryz.prog (Tryz.f10.params.toList++[]) (ds++[])).all (·<=reachBytes)=true:=b;rw[hp,hp]at kB;exact of_decide_eq_true (kh.1 kB n h))
theorem said:Rows.FullKeepsSaid:=
 OpenClaim.holds_of_cond 10 Tryz.f10 rfl rfl rfl rfl rfl rfl rfl ⟨rfl,rfl,rfl,rfl,rfl⟩ rfl rfl rfl rfl rfl (by kernel_rfl) Tryz.func10 (by kernel_rfl)
  (of_decide_eq_true (by kernel_rfl)) (by unfold Func.isWrapper;first |(rw[if_pos (by decide+kernel)];kernel_rfl)|(rw[if_neg (by decide+kernel)];exact⟨rfl,rfl⟩))
  (λ os a H enc _ F=>by rw[OpenClaim.pre_eq_preRow];exact lifted os a H enc F)
end Go.Proofs.YteeliipnilghaaaGreat.fullKeeps
