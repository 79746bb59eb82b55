/- LAW: THE WALK AND THE PLAIN LAW, JOINED TO THE GIVEN STATEMENT: for every input that the row speaks of, the call returns true and what came in reads as it did. Made by program (liftgen2.py). -/
import Derived.Test.YteeliipnilghaaaGreatGc7
import Derived.Test.YteeliipnilghaaaGreatRows
import Derived.WalkKit
import Derived.ProofKit
import Derived.OpenShut
import Derived.Deep.DeepHandedRow
open Bool renaming and_eq_true->bC,not_false->iy,not_true->dF
open Int renaming toNat_natCast->cN
open List renaming all_eq_true->jN,append_assoc->gT,append_nil->gL,cons.inj->ei,drop_eq_getElem_cons->cw,drop_length->hV,drop_zero->fK,getElem?_eq_getElem->aH,getElem?_eq_some_iff->aM,getElem_mem->hC,length->h4,length_append->dS,length_map->hl,length_singleton->je,mem_append->b3,nil_append->jy,perm_ext_iff_of_nodup->kf,replicate->eH,singleton_append->j1
open Option renaming bind_some->ae,some.inj->dT
open Prod renaming fst->ke
namespace Go.Proofs.YteeliipnilghaaaGreat
open I a8
section
variable{F:Nat}{h:aR}{k:aP}{Y O:List Int}
theorem aHq{l:List Int}(g:l.length<=5000):∀(d i f:Nat)(out:List Int),i+d=l.length->d<f->out.length=i ->
 CI F f (ic l.length) (l.length:Int) (i:Int) out l=some (((),()),out++l.drop i,l,()):=by
 intro d
 induction d with
 |zero=>
  intro i f out hi ad ap
  obtain⟨f,rfl⟩:∃b,f=b+1:=⟨f-1,by omega⟩
  have:i=l.length:=by omega
  subst this
  rw[CI,bG,cond_false,hV,gL]
 |succ d c=>
  intro i f out hi ad ap
  obtain⟨f,rfl⟩:∃b,f=b+1:=⟨f-1,by omega⟩
  have a:i<l.length:=by omega
  have e:l[i]? =some l[i]:=aH a
  rw[CI,bH a,cond_true,bq (akX a),ae,bq e,ae,asn (by omega),ae,eG a (by omega)]
  refine(c (i+1) f _ (by omega) (by omega) (by simp[ap])).trans ?_
  rw[cw a,gT,j1]
theorem values_eq(b:10000<F){l:List Int}(a:l.length<=5000):Nt F (ic l.length) l=some ((l,()),l,()):=by
 unfold Nt;have e:=aHq (F:=F) a l.length 0 F [] (by omega) (by omega) rfl;rw[fK,jy]at e;have e':CI F F (ic l.length) (l.length:Int) 0 [] l=_:=e;rw[ZZ,e',ae]
theorem ZU{S ns:List Int}(b:ns.length=S.length){v:Int}(c:v=0\/v∈S):(cF ((0,0)::S.zip ns) v).getD 0=gl S ns v:=by
 unfold gl;by_cases a:v=0
 ·rw[cF,if_pos (by rw[a]),if_pos a,a]
  rfl
 ·rw[cF,if_neg (λ e=>a e.symm),if_neg a,ah4 b]
  cases d:pos S v with
  |none=>exact absurd (c.resolve_left a) (ai5.1 d)
  |some j=>rfl
abbrev kept(k:aP)(h:aR)(Y O roots:List Int):List Int:=wZ Y O (ib k h Y O roots)
theorem WB(g:I.Good F h k Y O){roots:List Int}(b:∀a∈roots,a=0\/a∈Y++O):Ord (Y++O) (kept k h Y O roots):=agN g (Az g b).sub
theorem ahd(g:I.Good F h k Y O){roots:List Int}(e:∀a∈roots,a=0\/a∈Y++O):(∀a∈kept k h Y O roots,∀v∈hB k h.Words a,v=0\/v∈kept k h Y O roots)/\ ∀v∈roots,v=0\/v∈kept k h Y O roots:=by
 have c:=λ a=>JN (a:=a) (Az g e).sub;have hc:=ajP g e;refine⟨λ a f v d=>?_,λ v d=>?_⟩
 ·by_cases b:v=0
  ·exact .inl b
  ·exact .inr ((c v).2 (hc.hd a ((c a).1 f) v d b))
 ·by_cases b:v=0
  ·exact .inl b
  ·exact .inr ((c v).2 (hc.rt v d b))
theorem ahP(q:10000<F)(g:I.Good F h k Y O){roots:List Int}(r:roots.length<=5000)(b:∀a∈roots,a=0\/a∈Y++O) :
 ∃A,A.Perm (ib k h Y O roots)/\A.Nodup/\(∀a∈A,a∈Y++O)/\
  CG F roots k.aY k.aW k.Fields k.Names k.aX h.Words h.av h.aL h.aU h.aT h.aS h.Next []=
   some ((),((),k.aY,k.aW,k.Fields,k.Names,k.aX,(),()),(h.Words,h.av,h.aL,h.aU,h.aT,h.aS,h.Next,()),iH A,())/\
  FM h.Words (iH A)=some ((gk h.Words [] (kept k h Y O roots):Nat):Int)/\H7 F h.Words h.av h.aL h.aU h.aT h.aS h.Next k.aY k.aW k.Fields k.Names k.aX roots=some ((((gk h.Words [] (kept k h Y O roots):Nat):Int),()),()):=by
 obtain⟨m,A,e,s,t,f,su,i,j⟩:=aBF q g r b
 have c:=WB g b
 have w:=Cx g
 have C5:=c.len
 have x:=g.s.fq
 have u:A.Perm (kept k h Y O roots):=e.trans ((kf (Az g b).og c.og).2 λ a=>(JN (Az g b).sub).symm)
 have d:=akz (W:=h.Words) (l:=kept k h Y O roots) (n:=0) (λ a o=>by
  have p:=g.l.fit g.s a (c.sub a o);have J:=g.l.K' a (c.sub a o);exact⟨p.1,p.2.1,(l3.1 J.2).1.1⟩) (by omega) (by omega)
 rw[ZN u]at f
 have v:m=((gk h.Words [] (kept k h Y O roots):Nat):Int):=by
  have:iM h.Words (kept k h Y O roots) 0=_:=d;rw[f]at this;have:=dT this;omega
 rw[v]at i j
 exact⟨A,e,s,t,su,i,j⟩
set_option maxHeartbeats 1000000
theorem av8(u:10000<F)(g:I.Good F h k Y O){roots:List Int}(ai:roots.length<=1000)(n:∀a∈roots,a=0\/a∈Y++O) :
 (h.aL<((gk h.Words [] (kept k h Y O roots):Nat):Int)->IF F k.aY k.aW k.Fields k.Names k.aX (ic roots.length) h.Words h.av h.aL h.aU h.aT h.aS h.Next roots=some ((false,()),(h.Words,h.av,h.aL,h.aU,h.aT,h.aS,h.Next,()),roots,()))/\
 (¬h.aL<((gk h.Words [] (kept k h Y O roots):Nat):Int)->dc h.Words (h.av+1).toNat (kept k h Y O roots)<=h.Words.length/\ ∃Z,IF F k.aY k.aW k.Fields k.Names k.aX (ic roots.length) h.Words h.av h.aL h.aU h.aT h.aS h.Next roots=some ((true,()),(Z,h.av,h.aL,1,((dc h.Words (h.av+1).toNat (kept k h Y O roots):Nat):Int),[],h.Next,()),roots.map (tn h (kept k h Y O roots)),())/\
  rj h k (kept k h Y O roots) ⟨Z,h.av,h.aL,1,((dc h.Words (h.av+1).toNat (kept k h Y O roots):Nat):Int),[],h.Next⟩):=by
 obtain⟨A,K,T,w,su,L,U⟩:=ahP u g (roots:=roots) (by omega) n
 have c:=WB g n
 have q:=ahd g n
 have d_:=Cx g
 have C5:=c.len
 have Da:=g.s.fq
 have NE:A.length<=5000:=by rw[K.length_eq];have:=(Az g n).len;omega
 obtain⟨⟨⟨bO,dU⟩,gd,gw⟩,V,⟨Mw,Mx⟩,⟨rB,My⟩,Mv⟩:=id g.s
 unfold okB at V
 have i:Ns F k.aY k.aW k.Fields k.Names k.aX (ic roots.length) h.Words h.av h.aL h.aU h.aT h.aS h.Next roots=
  some (((),()),(h.Words,h.av,h.aL,h.aU,h.aT,h.aS,h.Next,()),roots,((),k.aY,k.aW,k.Fields,k.Names,k.aX,(),()),iH A,()):=by
  unfold Ns
  rw[values_eq u (by omega),ae]
  dsimp only
  rw[su,ae]
 unfold IF
 rw[i,ae]
 dsimp only
 rw[L,ae,ae]
 clear su L U i
 obtain⟨S,l⟩:∃S,S=kept k h Y O roots:=⟨_,rfl⟩
 rw[<-l]at c q C5⊢
 refine⟨λ hc=>?_,λ hc=>?_⟩
 ·rw[decide_eq_true hc,cond_true]
 ·rw[decide_eq_false hc,cond_false]
  have z:kP h.av h.aL A=S:=by
   rw[aGS g T w,l];show wZ Y O A=wZ Y O (ib k h Y O roots)
   unfold wZ;have:∀a,decide (a∈A)=decide (a∈ib k h Y O roots):=λ a=>decide_eq_decide.2 K.mem_iff;simp only[this]
  have B:Dp h.av h.aL (List.map ke (iH A)) []=some S:=by
   have C:List.map ke (iH A)=A:=by
    unfold iH;rw[List.map_map];exact List.map_id _
   rw[C];unfold Dp;have af:(decide (0<=h.av)&&decide (h.av<=100000)&&decide (0<=h.aL)&&decide (h.aL<=100000)&&decide (A.length<=200000)&&([]:List Int).isEmpty&&A.all (λ x=>decide (1<=x)&&decide (x<=h.av+h.aL)))=true:=by
    simp only[bC,decide_eq_true_eq,jN,List.isEmpty_nil,and_true];refine⟨⟨⟨⟨⟨by omega,by omega⟩,by omega⟩,by omega⟩,by omega⟩,λ x N=>?_⟩;have r:=g.l.fit g.s x (w x N);have J:=abW g;rcases b3.1 (w x N)with e |e
    ·have:=J.1 x e;omega
    ·have:=J.2 x e;omega
   rw[af,z]
  have D:∀u1 u2 u3 u4 u5,JQ ((ic roots.length,(),(),(),(),()),((),()),(k.aY,k.aW,k.Fields,k.Names,k.aX,()),((),u1,u2,u3,u4,u5,(),()),(h.Words,h.av,h.aL,h.aU,h.aT,h.aS,h.Next,()),iH A,roots,[],())=
   some ((ic roots.length,(),(),(),()),(((),()),(k.aY,k.aW,k.Fields,k.Names,k.aX,()),((),u1,u2,u3,u4,u5,(),()),(h.Words,h.av,h.aL,h.aU,h.aT,h.aS,h.Next,()),iH A,roots,S,())):=λ u1 u2 u3 u4 u5=>by
   show(Dp h.av h.aL (List.map ke (iH A)) []).map _=_
   rw[B]
   rfl
  erw[D,ae]
  dsimp only
  obtain⟨t,d⟩:∃t:Nat,(h.av+1).toNat=t:=⟨_,rfl⟩
  have X:I.ar (h.av+1)=(t:Int):=by rw[cQ (by omega) (by omega)];omega
  have E:dc h.Words t S<=h.Words.length:=by rw[O2];omega
  have m:(news h.Words t S).length=S.length:=Xy
  have P:=c.og
  have f:∀a∈S,1<=a/\a.toNat+3+(wd h.Words (a.toNat+1)).toNat<=h.Words.length/\fX k (wd h.Words a.toNat)=true/\isLen k (wd h.Words a.toNat) (wd h.Words (a.toNat+1))=true:=λ a b=>by
   have r:=g.l.fit g.s a (c.sub a b);have J:=g.l.K' a (c.sub a b);exact⟨r.1,r.2.1,J.1,J.2⟩
  have e2:=av4 (F:=F) (pl:=ic roots.length) (rv:=roots) (y:=h.av) (ol:=h.aL) (yt:=h.aU) (ot:=h.aT) (nx:=h.Next) (W:=h.Words) (nt:=h.aS) (c1:=k.aY) (c2:=k.aW) (c3:=k.Fields) (c4:=k.Names) (c5:=k.aX) (o:=S) (by omega) (by omega) (λ a b=>⟨(f a b).1,(f a b).2.1,(l3.1 (f a b).2.2.2).1.1⟩) P S.length 0 F t [(0,0)] (by omega) (by omega) (by omega) (λ a b=>by
   have:=(f a (List.mem_of_mem_drop b)).1;simp;omega)
  rw[fK]at e2
  have Iu:CD F F (ic roots.length) S (t:Int) S (S.length:Int) 0 roots h.Words h.av h.aL h.aU h.aT h.aS h.Next k.aY k.aW k.Fields k.Names k.aX [(0,0)]=_:=e2
  rw[X]
  erw[Iu,ae]
  dsimp only
  have ah:ui (0 :Int) 8 ((h4 h.Words:Nat):Int)=some (eH h.Words.length 0):=by
   unfold ui;rw[if_pos (by omega),cN]
  rw[ah,ae]
  have dE:∀a∈S,∀v∈hB k h.Words a,(cF ([(0,0)]++S.zip (news h.Words t S)) v).getD 0=gl S (news h.Words t S) v:=λ a b v G=>ZU m (q.1 a b v G)
  have CO:∀(j:Nat)(a:Int),S[j]? =some a->some ((cF ([(0,0)]++S.zip (news h.Words t S)) a).getD 0)=(news h.Words t S)[j]? :=λ j a aA=>by
   obtain⟨s,rfl⟩:=aM.1 aA;have r:=(f _ (hC s)).1;have:=ZU m (v:=S[j]) (.inr (hC s));refine Eq.trans (congrArg some this) ?_;unfold gl;rw[if_neg (by omega),pos_at s P];dsimp only;rw[aH (by rw[m];exact s)];rfl
  obtain⟨Z,bn,bx,Q,R⟩:=av5 (pl:=ic roots.length) (tp:=((dc h.Words t S:Nat):Int)) (rv:=roots) (y:=h.av) (ol:=h.aL) (yt:=h.aU) (ot:=h.aT) (nx:=h.Next) (nt:=h.aS) u g.pv (by omega) m (by omega) dE CO f S.length 0 F t (eH h.Words.length 0) (by omega) (by omega) (by rw[fK,fK]) (by rw[fK];exact E) (by simp)
  rw[fK]at Q R
  have xG:CE F F (ic roots.length) ((dc h.Words t S:Nat):Int) S (S.length:Int) 0 roots h.Words h.av h.aL h.aU h.aT h.aS h.Next k.aY k.aW k.Fields k.Names k.aX ([(0,0)]++S.zip (news h.Words t S)) (eH h.Words.length 0)=_:=bn
  rw[xG,ae]
  dsimp only
  have FC:=av7 (F:=F) (tp:=((dc h.Words t S:Nat):Int)) (W:=h.Words) (y:=h.av) (ol:=h.aL) (yt:=h.aU) (ot:=h.aT) (nx:=h.Next) (nt:=h.aS) (o:=S) (ns:=news h.Words t S) (M:=[(0,0)]++S.zip (news h.Words t S)) (Z:=Z) (roots:=roots) (by omega) (λ v G=>ZU m (q.2 v G)) roots.length 0 F roots (by omega) (by omega) (by simp)
  have S_:CF F F ((dc h.Words t S:Nat):Int) Z (ic roots.length) (roots.length:Int) 0 h.Words h.av h.aL h.aU h.aT h.aS h.Next ([(0,0)]++S.zip (news h.Words t S)) roots=_:=FC
  rw[ZZ,S_,ae]
  have H:tn h S=gl S (news h.Words t S):=by unfold tn;rw[d]
  rw[d,H]
  refine⟨E,Z,rfl,?_⟩
  have:=adi (Z:=Z) c q.1 (by rw[d];exact E) bx (by rw[d];exact Q) (by rw[d];exact λ p aE=>(R p aE).trans alf)
  rw[d]at this
  exact this
theorem avK(a:10000<F)(g:I.Good F h k Y O){roots:List Int}(f:qM Y O roots=0) :
 (h.aL<((gk h.Words [] (kept k h Y O roots):Nat):Int)->wi F h.Words h.av h.aL h.aU h.aT h.aS h.Next k.aY k.aW k.Fields k.Names k.aX roots=some ((([],0,0,0,0,[],0,()),[],8,()),()))/\
 (¬h.aL<((gk h.Words [] (kept k h Y O roots):Nat):Int)-> ∃Z,wi F h.Words h.av h.aL h.aU h.aT h.aS h.Next k.aY k.aW k.Fields k.Names k.aX roots=some (((Z,h.av,h.aL,1,((dc h.Words (h.av+1).toNat (kept k h Y O roots):Nat):Int),[],h.Next,()),roots.map (tn h (kept k h Y O roots)),0,()),())/\
  rj h k (kept k h Y O roots) ⟨Z,h.av,h.aL,1,((dc h.Words (h.av+1).toNat (kept k h Y O roots):Nat):Int),[],h.Next⟩):=by
 obtain⟨i,j⟩:=ajZ f
 obtain⟨l,m⟩:=av8 a g i j
 have b:nY (⟨h.Words,h.av,h.aL,h.aU,h.aT,h.aS,h.Next⟩:aR)=_:=aDi g
 have n:bD 8 [] roots=some roots:=h3 (by simp;omega)
 have d:I.s0 F (roots.length:Int)=_:=aDs (by omega) a
 unfold wi
 rw[afc a g]
 dsimp only[dj]
 rw[f,decide_eq_true (rfl:(0 :Int)=0),dF,cond_false,b,ae,n,ae,d,ae]
 refine⟨λ hc=>?_,λ hc=>?_⟩
 ·rw[l hc,ae]
  rfl
 ·obtain⟨_,Z,e,c⟩:=m hc
  rw[e,ae]
  exact⟨Z,rfl,c⟩
theorem avJ{roots:List Int}{r:Option bg×Int}(e:kC F h k=some r)(a:r.1=none)(J:r.2≠0) :
 wi F h.Words h.av h.aL h.aU h.aT h.aS h.Next k.aY k.aW k.Fields k.Names k.aX roots=some ((([],0,0,0,0,[],0,()),[],r.2,()),()):=by
 unfold wi
 rw[avU e a J]
 dsimp only[dj]
 rw[decide_eq_false J,iy,cond_true]
theorem avL(a:10000<F)(g:I.Good F h k Y O){roots:List Int}(b:qM Y O roots≠0) :
 wi F h.Words h.av h.aL h.aU h.aT h.aS h.Next k.aY k.aW k.Fields k.Names k.aX roots=some ((([],0,0,0,0,[],0,()),[],qM Y O roots,()),()):=by
 unfold wi
 rw[afc a g]
 dsimp only[dj]
 rw[decide_eq_false b,iy,cond_true]
end
end Go.Proofs.YteeliipnilghaaaGreat
namespace Go.Proofs.YteeliipnilghaaaGreat
open I a8
section
variable{F:Nat}{h:aR}{k:aP}{Y O A roots:List Int}
section
variable{y ol yt ot nx:Int}{W nt:List Int}{c1:List ak}{c2:List Int}{c3:List (List I.Field)}{c4:List (List (List UInt8))}{c5:List (List I.Target)}{u1 u6:List Int}{u2 u3 u4 u5 u7:Int}
theorem as5(n:A.length<=5000)(o:O.length<=5000)(p:10000<F):∀(d i f:Nat)(l:List Int),i+d=O.length->d<f->l.length<=i ->
 yM F f roots A Y O (i:Int) W y ol yt ot nt nx c1 c2 c3 c4 c5 u1 u2 u3 u4 u5 u6 u7 l=some ((roots,(),(),(),A,Y,(),()),(W,y,ol,yt,ot,nt,nx,()),(c1,c2,c3,c4,c5,()),(u1,u2,u3,u4,u5,u6,u7,()),l++(O.drop i).filter (λ a=>decide (a∈A)),()):=by
 intro d
 induction d with
 |zero=>
  intro i f l h ad g
  obtain⟨f,rfl⟩:∃b,f=b+1:=⟨f-1,by omega⟩
  have:i=O.length:=by omega
  subst this
  rw[yM,bG,cond_false,hV,List.filter_nil,gL]
 |succ d c=>
  intro i f l h ad g
  obtain⟨f,rfl⟩:∃b,f=b+1:=⟨f-1,by omega⟩
  have hi:i<O.length:=by omega
  have j:i<=100000:=by omega
  have m:O[i]? =some O[i]:=aH hi
  rw[yM,bH hi,cond_true,bq m,ae,Aw ⟨by omega,by omega⟩,ae,jq j,cw hi,List.filter_cons]
  by_cases e:O[i]∈A
  ·rw[decide_eq_true e,cond_true,ae,h3 (by simp only[je];omega),ae,if_pos rfl]
   refine(c (i+1) f _ (by omega) (by omega) (by simp;omega)).trans ?_
   rw[gT,j1]
  ·rw[decide_eq_false e,cond_false,if_neg (by simp)]
   exact c (i+1) f _ (by omega) (by omega) (by omega)
theorem as6(n:A.length<=5000)(o:Y.length<=5000)(p:10000<F):∀(d i f:Nat)(l:List Int),i+d=Y.length->d<f->l.length<=10000+i ->
 yN F f roots A Y (i:Int) W y ol yt ot nt nx c1 c2 c3 c4 c5 u1 u2 u3 u4 u5 u6 u7 l=some ((roots,(),(),(),(),()),(W,y,ol,yt,ot,nt,nx,()),(c1,c2,c3,c4,c5,()),(u1,u2,u3,u4,u5,u6,u7,()),l++(Y.drop i).filter (λ a=>decide (a∈A)),()):=by
 intro d
 induction d with
 |zero=>
  intro i f l h ad g
  obtain⟨f,rfl⟩:∃b,f=b+1:=⟨f-1,by omega⟩
  have:i=Y.length:=by omega
  subst this
  rw[yN,bG,cond_false,hV,List.filter_nil,gL]
 |succ d c=>
  intro i f l h ad g
  obtain⟨f,rfl⟩:∃b,f=b+1:=⟨f-1,by omega⟩
  have hi:i<Y.length:=by omega
  have j:i<=100000:=by omega
  have m:Y[i]? =some Y[i]:=aH hi
  rw[yN,bH hi,cond_true,bq m,ae,Aw ⟨by omega,by omega⟩,ae,jq j,cw hi,List.filter_cons]
  by_cases e:Y[i]∈A
  ·rw[decide_eq_true e,cond_true,ae,h3 (by simp only[je];omega),ae,if_pos rfl]
   refine(c (i+1) f _ (by omega) (by omega) (by simp;omega)).trans ?_
   rw[gT,j1]
  ·rw[decide_eq_false e,cond_false,if_neg (by simp)]
   exact c (i+1) f _ (by omega) (by omega) (by omega)
end
theorem as7(b:10000<F)(g:I.Good F h k Y O)(v:roots.length<=1000)(c:∀a∈roots,a=0\/a∈Y++O) :
 (h.aL<((gk h.Words [] (kept k h Y O roots):Nat):Int)->H4 F h.Words h.av h.aL h.aU h.aT h.aS h.Next k.aY k.aW k.Fields k.Names k.aX roots=some (((h.Words,h.av,h.aL,h.aU,h.aT,h.aS,h.Next,()),roots,false,()),()))/\
 (¬h.aL<((gk h.Words [] (kept k h Y O roots):Nat):Int)-> ∃Z,H4 F h.Words h.av h.aL h.aU h.aT h.aS h.Next k.aY k.aW k.Fields k.Names k.aX roots=some (((Z,h.av,h.aL,1,((dc h.Words (h.av+1).toNat (kept k h Y O roots):Nat):Int),[],h.Next,()),roots.map (tn h (kept k h Y O roots)),true,()),())/\
  rj h k (kept k h Y O roots) ⟨Z,h.av,h.aL,1,((dc h.Words (h.av+1).toNat (kept k h Y O roots):Nat):Int),[],h.Next⟩):=by
 obtain⟨_,_,_,_,_,_,i⟩:=ahP b g (roots:=roots) (by omega) c
 have d:=WB g c
 have j:=ahd g c
 have l:=Cx g
 rw[dS]at l
 have m:=(Az g c).len
 rw[dS]at m
 obtain⟨⟨⟨bO,w⟩,gd,x⟩,n,⟨z,B⟩,⟨rB,C⟩,D⟩:=id g.s
 unfold okB at n
 unfold H4
 rw[i,ae]
 dsimp only
 refine⟨λ hc=>by rw[decide_eq_true hc,cond_true],λ hc=>?_⟩
 have e:dc h.Words (h.av+1).toNat (kept k h Y O roots)<=h.Words.length:=by rw[O2];omega
 have o:oR F (⟨h.Words,h.av,h.aL,h.aU,h.aT,h.aS,h.Next⟩:aR) (⟨k.aY,k.aW,k.Fields,k.Names,k.aX⟩:aP)=_:=akG b g
 have f:=as5 (F:=F) (A:=ib k h Y O roots) (Y:=Y) (O:=O) (roots:=roots) (W:=h.Words) (y:=h.av) (ol:=h.aL) (yt:=h.aU) (ot:=h.aT) (nt:=h.aS) (nx:=h.Next) (c1:=k.aY) (c2:=k.aW) (c3:=k.Fields) (c4:=k.Names) (c5:=k.aX) (u1:=[]) (u2:=0) (u3:=0) (u4:=0) (u5:=0) (u6:=[]) (u7:=0) (by omega) (by omega) b O.length 0 F [] (by omega) (by omega) (by simp)
 rw[fK,jy]at f
 have Fz:yM F F roots (ib k h Y O roots) Y O 0 h.Words h.av h.aL h.aU h.aT h.aS h.Next k.aY k.aW k.Fields k.Names k.aX [] 0 0 0 0 [] 0 []=_:=f
 have E:=List.length_filter_le (λ a=>decide (a∈ib k h Y O roots)) O
 have e2:=as6 (F:=F) (A:=ib k h Y O roots) (Y:=Y) (roots:=roots) (W:=h.Words) (y:=h.av) (ol:=h.aL) (yt:=h.aU) (ot:=h.aT) (nt:=h.aS) (nx:=h.Next) (c1:=k.aY) (c2:=k.aW) (c3:=k.Fields) (c4:=k.Names) (c5:=k.aX) (u1:=[]) (u2:=0) (u3:=0) (u4:=0) (u5:=0) (u6:=[]) (u7:=0) (by omega) (by omega) b Y.length 0 F (O.filter λ a=>decide (a∈ib k h Y O roots)) (by omega) (by omega) (by omega)
 rw[fK]at e2
 have p:yN F F roots (ib k h Y O roots) Y 0 h.Words h.av h.aL h.aU h.aT h.aS h.Next k.aY k.aW k.Fields k.Names k.aX [] 0 0 0 0 [] 0 (O.filter λ a=>decide (a∈ib k h Y O roots))=_:=e2
 obtain⟨Z,q,r,s,t⟩:=aF0 b g d (roots:=roots) (by omega) e
 have u:Fb F h.Words h.av h.aL h.aU h.aT h.aS h.Next k.aY k.aW k.Fields k.Names k.aX (O.filter (λ a=>decide (a∈ib k h Y O roots))++Y.filter (λ a=>decide (a∈ib k h Y O roots))) (I.ar (h.av+1)) roots=_:=q
 refine⟨Z,?_,adi d j.1 e r s t⟩
 rw[decide_eq_false hc,cond_false,ajQ b g (by omega) c,ae,o,ae]
 dsimp only
 rw[Fz,ae]
 dsimp only
 rw[p,ae]
 dsimp only
 rw[u,ae]
end
end Go.Proofs.YteeliipnilghaaaGreat
namespace Go.Proofs.YteeliipnilghaaaGreat
open I
theorem af9{F:Nat}{e:Int}{x w:aR}(b:e=0 ->Small F x.Words.length/\Small F x.aS.length)(c:0<F)(ex:x=if e=0 then w else(⟨[],0,0,0,0,[],0⟩:aR)):nE F x e e w=some true:=by
 unfold nE;by_cases a:e=0
 ·rw[if_pos a]at ex
  subst ex
  rw[a,show decide ((0 :Int)=0)=true from rfl,dF,cond_false,ae]
  have:=aj' (F:=F) (h:=x) (b a).1 (b a).2
  show cond (decide ((0 :Int)=0)) ((B8 F x x).bind _) _=_
  rw[this];rfl
 ·rw[if_neg a]at ex
  subst ex
  rw[decide_eq_false a,iy,cond_true,ae]
  have:=aj' (F:=F) (h:=(⟨[],0,0,0,0,[],0⟩:aR)) ⟨by simp,by simpa using c⟩ ⟨by simp,by simpa using c⟩
  show cond (decide (e=e)) ((B8 F (⟨[],0,0,0,0,[],0⟩:aR) (⟨[],0,0,0,0,[],0⟩:aR)).bind _) _=_
  rw[this,decide_eq_true rfl];rfl
theorem XA{F:Nat}(b:0<F)(e:Int)(a:e≠0)(w:aR):nE F (⟨[],0,0,0,0,[],0⟩:aR) e e w=some true:=af9 (λ q=>absurd q a) b (by rw[if_neg a])
theorem Xz{F:Nat}(a:0<F):k1 F [] []=some true:=P_ ⟨by simp,by simpa using a⟩
end Go.Proofs.YteeliipnilghaaaGreat
namespace Go.Proofs.YteeliipnilghaaaGreat
open I
theorem aDu(h:aR)(j:acp Go.reachBytes h)(k:aP)(n:Mm Go.reachBytes k)(roots:List Int)(_:roots.length*8<=Go.reachBytes/\ ∀x∈roots,aq.jD x) :
 ∃F,Mk F h.Words h.av h.aL h.aU h.aT h.aS h.Next k.aY k.aW k.Fields k.Names k.aX roots=some ((true,()),()):=by
 refine⟨140737488355940+60,?_⟩
 have b:10000<140737488355940+60:=by omega
 have i:=ata n
 have l:Small (140737488355940+60) h.aS.length:=pw 7 j.2.2.2.2.2.1.1
 generalize f:(140737488355940+60 :Nat)=F at b l⊢
 have i:∃e,pc F k=some e/\vK F k=some e/\(e≠0\/(e=0/\fS k)):=by rw[<-f];exact i
 clear f
 obtain⟨r,e1,e2,hc⟩:=aDb b i l j.2.2.2.2.2.2.2
 have a:0<F:=by omega
 unfold Mk
 rcases hc with⟨c1,c2⟩|⟨Y,O,g,rfl⟩
 ·have c:s7 F (⟨h.Words,h.av,h.aL,h.aU,h.aT,h.aS,h.Next⟩:aR) (⟨k.aY,k.aW,k.Fields,k.Names,k.aX⟩:aP) roots=_:=aDe roots e2 c1
  rw[avJ e1 c2 c1,ae,c,ae,decide_eq_false c1,cond_false]
  dsimp only
  rw[XA a _ c1,ae,cond_true,Xz a,ae]
 ·have e2:pW F h k=some 0:=e2
  have c:s7 F (⟨h.Words,h.av,h.aL,h.aU,h.aT,h.aS,h.Next⟩:aR) (⟨k.aY,k.aW,k.Fields,k.Names,k.aX⟩:aP) roots=_:=aDd b g roots e2
  by_cases d:qM Y O roots=0
  ·rw[d]at c
   obtain⟨o,p⟩:=ajZ d
   obtain⟨q,s⟩:=avK b g d
   obtain⟨t,u⟩:=as7 b g o p
   by_cases hc:h.aL<((gk h.Words [] (kept k h Y O roots):Nat):Int)
   ·rw[q hc,ae,c,ae,decide_eq_true (rfl:(0 :Int)=0),cond_true,t hc,ae]
    dsimp only
    rw[cond_false,XA a 8 (by decide),ae,cond_true,Xz a,ae]
   ·obtain⟨Z,v,m⟩:=s hc
    obtain⟨w,cE,y⟩:=u hc
    obtain rfl:Z=w:=m.uQ y
    have z:=g.s.fq
    have A:Z.length=h.Words.length:=m.len
    have B:nE F (⟨Z,h.av,h.aL,1,((dc h.Words (h.av+1).toNat (kept k h Y O roots):Nat):Int),[],h.Next⟩:aR) 0 0 (⟨Z,h.av,h.aL,1,((dc h.Words (h.av+1).toNat (kept k h Y O roots):Nat):Int),[],h.Next⟩:aR)=some true:=
     af9 (λ _=>⟨⟨by show Z.length<=_;omega,by show Z.length<_;omega⟩,⟨by simp,by simpa using a⟩⟩) a (by rw[if_pos rfl])
    rw[v,ae,c,ae,decide_eq_true (rfl:(0 :Int)=0),cond_true,cE,ae]
    dsimp only
    rw[cond_true,B,ae,cond_true,P_ ⟨by rw[hl];omega,by rw[hl];omega⟩,ae]
  ·rw[avL b g d,ae,c,ae,decide_eq_false d,cond_false]
   dsimp only
   rw[XA a _ d,ae,cond_true,Xz a,ae]
end Go.Proofs.YteeliipnilghaaaGreat
namespace Go.Proofs.YteeliipnilghaaaGreat.fullCollects
open Go Go.ChangeShapes Go.WideShapes Go.ChangeAt Go.RowKit
theorem own:ownKnob Tryz.prog.godebug=none:=by kernel_rfl
set_option maxRecDepth 100000 in
theorem ath(H:Type)(enc:TypeId×Value->H)(W:World)(base:Nat)(args:Array Value)(ds gs:List (DataW H))(before:List MemPlace)
 (h:∀(j:Nat) t v,Tryz.f9.params[j]? =some t->args[j]? =some v->Value.okWide Tryz.prog W .any base t v)
 (l:DataW.Whole enc Tryz.prog Tryz.f9.params.toList Rows.fullCollectsSpec.vars false W args.toList ds gs before)(N6:∀n∈DataW.weightsEach Tryz.prog Tryz.f9.params.toList ds,n<=reachBytes) :
 Calls Tryz.prog 9 args W λ e X=>∃v,e= .returned v/\Rows.fullCollectsSpec.post enc Tryz.prog Tryz.f9 false true false false W args v X:=by
 have o:=l
 have s:=l.lt
 obtain⟨p,q,u,qa,w,qf,kc⟩:=l
 have Y:DataW.TrodAll enc Tryz.prog W 0 (λ _=>true) true Tryz.f9.params.toList args.toList ds p:=u
 have i:=N6
 rw[Tryz.params9]at Y h i
 obtain⟨v0,aHr,a,aLL,ha,aMo,U_,rfl,rfl,aI,y⟩:=trodAll_cons Y
 obtain⟨v1,aMA,b,aLM,cG,bn,rfl,rfl,rfl,h1,z⟩:=trodAll_cons y
 obtain⟨Z,aMB,d,aLN,dX,bx,rfl,rfl,rfl,J,A⟩:=trodAll_cons z
 obtain⟨rfl,rfl,rfl⟩:=trodAll_nil A
 obtain rfl:args= #[v0,v1,Z]:=by cases args;simp_all
 obtain⟨rfl,rfl⟩:=trodVars_none qa
 have B:=aFL (enc:=enc) (N:=reachBytes)
 have C:=aq.SE B aI (λ x f=>s x (by subst w;simp[f]))
 have D:=C (λ m g=>i m (by simp only[DataW.weightsEach,b3];simp[g]))
 obtain⟨a,eY,iq⟩:=D
 obtain⟨v0,rfl,_⟩:=okWide_struct Tryz.underlying24 (h 0 24 v0 rfl rfl)
 obtain⟨aLn,aLB,aLo,aLC,cH,G,I⟩:=eY
 obtain rfl:=aq.acy cH
 have K:=aFM (enc:=enc) (N:=reachBytes)
 have L:=aq.SE K h1 (λ x f=>s x (by subst w;simp[f]))
 have M:=L (λ m g=>i m (by simp only[DataW.weightsEach,b3];simp[g]))
 obtain⟨b,cB,bh⟩:=M
 obtain⟨v1,rfl,_⟩:=okWide_struct Tryz.underlying30 (h 1 30 v1 rfl rfl)
 obtain⟨aLp,aLD,aLq,aLE,aLr,aLF,aLs,aLG,aLt,aLH,e1,O,P,Q,R,S⟩:=cB
 obtain rfl:=aq.acy e1
 have T:=PV (enc:=enc) (N:=reachBytes)
 have U:=aq.SE T J (λ x f=>s x (by subst w;simp[f]))
 have V:=U (λ m g=>i m (by simp only[DataW.weightsEach,b3];simp[g]))
 obtain⟨d,dw,bd⟩:=V
 obtain⟨a2,uo,c2,rfl⟩:=okWide_slice Tryz.underlying22 (h 2 22 Z rfl rfl)
 obtain⟨c6,ab9,e2⟩:=aq.m' dw
 obtain⟨rfl,rfl,rfl⟩:=Value.slice.inj (ei e2).1
 obtain⟨F,ay⟩:=Go.Proofs.YteeliipnilghaaaGreat.aDu a iq b bh d bd
 have c:∀k,aq.ii [] W k->k<W.heap.size/\W.heap[k]? =W.heap[k]? :=λ k hk=>⟨hk.2,rfl⟩
 have gj:((Wz F).run aB [.a [.s 3 a.Words,.p (.int .i64 a.av),.p (.int .i64 a.aL),.p (.int .i64 a.aU),.p (.int .i64 a.aT),.s 3 a.aS,.p (.int .i64 a.Next)],.a [.s 134 b.aY,.s 3 b.aW,.s 124 b.Fields,.s 120 b.Names,.s 121 b.aX],.s 3 d] [])= .op (Mk F a.Words a.av a.aL a.aU a.aT a.aS a.Next b.aY b.aW b.Fields b.Names b.aX d) λ r=>.ok ⟨.ret (.p (.bool r.1.1)),[],[]⟩:=by kernel_rfl
 refine(a8.aBt (E:=aB) rfl (asV F) (ys:=[.a [.s 3 a.Words,.p (.int .i64 a.av),.p (.int .i64 a.aL),.p (.int .i64 a.aU),.p (.int .i64 a.aT),.s 3 a.aS,.p (.int .i64 a.Next)],.a [.s 134 b.aY,.s 3 b.aW,.s 124 b.Fields,.s 120 b.Names,.s 121 b.aX],.s 3 d]) (W:=W) (by rw[gj];exact⟨((true,()),()),ay,rfl⟩) ⟨_,_,rfl,⟨_,rfl,_,_,rfl,a8.jl (λ _ _=>PU) ((aq.bY _).law c G),_,_,rfl,rfl,_,_,rfl,rfl,_,_,rfl,rfl,_,_,rfl,rfl,_,_,rfl,a8.jl (λ _ _=>PU) ((aq.bY _).law c I),_,_,rfl,rfl,rfl⟩,_,_,rfl,⟨_,rfl,_,_,rfl,a8.jl (λ _ _=>aFE) ((aq.bY _).law c O),_,_,rfl,a8.jl (λ _ _=>PU) ((aq.bY _).law c P),_,_,rfl,a8.jl (λ _ _=>aFB) ((aq.bY _).law c Q),_,_,rfl,a8.jl (λ _ _=>aFz) ((aq.bY _).law c R),_,_,rfl,a8.jl (λ _ _=>aFA) ((aq.bY _).law c S),rfl⟩,_,_,rfl,a8.jl (λ _ _=>PU) ((aq.bY _).law c dw),rfl⟩).mono λ e X ⟨he,ag⟩=>?_
 exact⟨_,he,aq.aDw o (by kernel_rfl) (by kernel_rfl) rfl rfl Tryz.underlying4 rfl ag⟩
theorem aBr(os:Os):laidMet Tryz.prog Rows.fullCollectsRow.laid ((World.holding Tryz.prog os ⟨#[],#[],[]⟩).forCall (λ _ _=>0) ⟨#[],#[.agg #[.slice none 0 0,.int .i64 0,.int .i64 0,.int .i64 0,.int .i64 0,.slice none 0 0,.int .i64 0],.agg #[.slice none 0 0,.slice none 0 0,.slice none 0 0,.slice none 0 0,.slice none 0 0],.slice none 0 0],[]⟩).memory:=
 laidMet_of_run' 8 (by kernel_rfl) (by kernel_rfl)
theorem reads(os:Os){H:Type}(enc:TypeId×Value->H):∃places,DataW.whole enc Tryz.prog ((World.holding Tryz.prog os ⟨#[],#[],[]⟩).forCall (λ _ _=>0) ⟨#[],#[.agg #[.slice none 0 0,.int .i64 0,.int .i64 0,.int .i64 0,.int .i64 0,.slice none 0 0,.int .i64 0],.agg #[.slice none 0 0,.slice none 0 0,.slice none 0 0,.slice none 0 0,.slice none 0 0],.slice none 0 0],[]⟩).memory Tryz.f9.params.toList Rows.fullCollectsSpec.vars false (#[.agg #[.slice none 0 0,.int .i64 0,.int .i64 0,.int .i64 0,.int .i64 0,.slice none 0 0,.int .i64 0],.agg #[.slice none 0 0,.slice none 0 0,.slice none 0 0,.slice none 0 0,.slice none 0 0],.slice none 0 0]:Array Value).toList 8=some ([.agg [.nil,.lit (.int .i64 0),.lit (.int .i64 0),.lit (.int .i64 0),.lit (.int .i64 0),.nil,.lit (.int .i64 0)],.agg [.nil,.nil,.nil,.nil,.nil],.nil],[],places):=
 ⟨[],by kernel_rfl⟩
set_option maxRecDepth 100000 in
theorem lifted(os:Os)(a:os.Started)(H:Type)(enc:TypeId×Value->H)(F:Stop.Interp) :
 ReturnsInHanded {} Tryz.checked os 9 .any ((OpenSpec.ofChange Rows.fullCollectsSpec).preRow enc Tryz.prog Tryz.f9 Rows.fullCollectsRow.domain false Rows.fullCollectsRow.laid) (((OpenSpec.ofChange Rows.fullCollectsSpec).at F).post enc Tryz.prog Tryz.f9 false true false false):=by
 obtain⟨places,e⟩:=reads os enc
 refine returnsInHanded_of_row (C:=Tryz.checked) (s:=OpenSpec.ofChange Rows.fullCollectsSpec) own a (by kernel_rfl) Tryz.func9
  (witness_row_at (enc:=enc) (C:=Tryz.checked) false (World.holding Tryz.prog os ⟨#[],#[],[]⟩) #[.agg #[.slice none 0 0,.int .i64 0,.int .i64 0,.int .i64 0,.int .i64 0,.slice none 0 0,.int .i64 0],.agg #[.slice none 0 0,.slice none 0 0,.slice none 0 0,.slice none 0 0,.slice none 0 0],.slice none 0 0] rfl (by kernel_rfl) (by kernel_rfl) (by kernel_rfl)
   (OpenSpec.preRow_of_cond 8 e (by kernel_rfl) (λ k f=>by cases f) (by kernel_rfl) (aBr os))) ?_
 intro W base args ds gs before g c _ h b _ _ _
 exact ath H enc W base args ds gs before g c (λ n i=>by obtain⟨_,_,_,j,_,_,_⟩:=c;obtain⟨rfl,_⟩:=trodVars_none j;have d:(DataW.weightsEach Tryz.prog (Tryz.f9.params.toList++[]) (ds++[])).all (·<=reachBytes)=true:=b;rw[gL,gL]at d;exact of_decide_eq_true (jN.1 d n i))
theorem said:Rows.FullCollectsSaid:=
 OpenClaim.holds_of_cond 9 Tryz.f9 rfl rfl rfl rfl rfl rfl rfl ⟨rfl,rfl,rfl,rfl,rfl⟩ rfl rfl rfl rfl rfl (by kernel_rfl) Tryz.func9 (by kernel_rfl)
  (of_decide_eq_true (by kernel_rfl)) (by unfold Func.isWrapper;first |(rw[if_pos (by decide+kernel)];kernel_rfl)|(rw[if_neg (by decide+kernel)];exact⟨rfl,rfl⟩))
  (λ os a H enc _ F=>by rw[OpenClaim.pre_eq_preRow];exact lifted os a H enc F)
end Go.Proofs.YteeliipnilghaaaGreat.fullCollects
