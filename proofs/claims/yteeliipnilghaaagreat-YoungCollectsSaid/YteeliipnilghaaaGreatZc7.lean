/- LAW: THE WALK AND THE PLAIN LAW, JOINED TO THE GIVEN STATEMENT: for every input that the row speaks of, the call returns true and what came in reads as it did. Made by program (liftgen2.py). -/
import Derived.Test.YteeliipnilghaaaGreatZc6
import Derived.Test.YteeliipnilghaaaGreatRows
import Derived.WalkKit
import Derived.ProofKit
import Derived.OpenShut
import Derived.Deep.DeepHandedRow
namespace Go.Proofs.YteeliipnilghaaaGreat
open J
def val (k:aP) (W o ns:List Int) (q i:Nat):Int:=if 3 <=i/\eN k (wd W q) (i - 3)=true then ej o ns (wd W (q+i)) else wd W (q+i)
theorem lv {a b:Nat} (h:a+b<= 100000):J.aE ((a:Int)+(b:Int))=((a+b:Nat):Int):=by rw [cE (by omega) (by omega)];omega
theorem j6 {a:Nat} (h:a<= 100000):J.aE ((a:Int)+ 1)=((a+ 1 :Nat):Int):=by rw [cE (by omega) (by omega)];omega
theorem FR {x:Int} {n:Nat} (aN:0 <=x) (h:n= 3 +x.toNat) (aA:n<= 100000):J.aE (3 +x)=(n:Int):=by rw [cE (by omega) (by omega)];omega
theorem ayd {a:Nat} (h:a<= 100000) (aq:3 <=a):J.aE ((a:Int) - 3)=((a - 3 :Nat):Int):=by rw [cE (by omega) (by omega)];omega
section
variable {F:Nat} {k:aP} {y ol yt ot nx:Int} {W nt o ns:List Int} {u1 u2 u3 u4 u6:Int} {u5:List Int}
theorem auu (az:10000 <F) (ai:fF k) (ap:o.length<= 5000) (iT:ns.length=o.length) {q t n:Nat} (cX:n= 3 +(wd W (q+ 1)).toNat) (aQ:q+n<=W.length) (fJ:W.length<= 5000) (aJ:gr k (wd W q)=true) (aA:isLen k (wd W q) (wd W (q+ 1))=true) :
 ∀ (d i f:Nat) (Z:List Int),i+d=n->d <f->Z.length<= 5000 ->t+n<=Z.length ->
 ∃ fU,qp F f (q:Int) (t:Int) (i:Int) W y ol yt ot nt nx k.a4 k.a0 k.Fields k.Names k.a1 o ns u1 u2 u3 u4 u5 u6 Z=some ((),(W,y,ol,yt,ot,nt,nx,()),(k.a4,k.a0,k.Fields,k.Names,k.a1,()),((),()),(o,()),((),()),ns,((),u1,u2,u3,u4,u5,u6,()),fU,()) /\
   fU.length=Z.length/\ ∀ p,wd fU p=if t+i<=p/\p <t+n then val k W o ns q (p - t) else wd Z p:=by
 intro d
 have aN:=(m5.1 aA).1
 have l_:q+ 1 <W.length:=by omega
 have u_:n<= 100000 :=by omega
 have yD:q<= 100000 :=by omega
 have hlen:idx W (J.aE ((q:Int)+ 1))=some (wd W (q+ 1)):=by rw [j6 yD];exact gp l_
 induction d with
 | zero=>
   intro i f Z h af l4 ik
   obtain ⟨f,rfl⟩:∃ bG,f=bG+ 1 :=⟨f - 1,by omega⟩
   have:i=n:=by omega
   subst this
   rw [qp,hlen,Option.bind_some,FR aN.1 cX u_,bE,cond_false]
   refine ⟨Z,rfl,rfl,fun p=>?_⟩
   rw [if_neg (by omega)]
 | succ d ba=>
   intro i f Z h af l4 ik
   obtain ⟨f,rfl⟩:∃ bG,f=bG+ 1 :=⟨f - 1,by omega⟩
   have hi:i <n:=by omega
   have ap8:q+i <W.length:=by omega
   have ap9:q+i<= 100000 :=by omega
   have Px:t+i<= 100000 :=by omega
   have Ib:i<= 100000 :=by omega
   have qH:idx W (J.aE ((q:Int)+i))=some (wd W (q+i)):=by rw [lv ap9];exact gp ap8
   have OG:idx Z ((t+i:Nat):Int)=some (wd Z (t+i)):=gp (by omega)
   have step:∀ v:Int,v=val k W o ns q i-> ∃ fU,qp F f (q:Int) (t:Int) ((i+ 1 :Nat):Int) W y ol yt ot nt nx k.a4 k.a0 k.Fields k.Names k.a1 o ns u1 u2 u3 u4 u5 u6 (Z.set (t+i) v)=some ((),(W,y,ol,yt,ot,nt,nx,()),(k.a4,k.a0,k.Fields,k.Names,k.a1,()),((),()),(o,()),((),()),ns,((),u1,u2,u3,u4,u5,u6,()),fU,()) /\
    fU.length=Z.length/\ ∀ p,wd fU p=if t+i<=p/\p <t+n then val k W o ns q (p - t) else wd Z p:=fun v ag=>by
    obtain ⟨fU,e1,e2,e3⟩:=ba (i+ 1) f (Z.set (t+i) v) (by omega) (by omega) (by rw [List.length_set];exact l4) (by rw [List.length_set];exact ik)
    refine ⟨fU,e1,by rw [e2,List.length_set],fun p=>?_⟩
    rw [e3 p]
    by_cases aD:p=t+i
    · subst aD
      rw [if_neg (by omega),if_pos (by omega),KC (by omega),if_pos rfl,ag,show t+i - t=i by omega]
    · by_cases ay:t+(i+ 1)<=p/\p <t+n
      · rw [if_pos ay,if_pos (by omega)]
      · rw [if_neg ay,if_neg (by omega),KC (by omega),if_neg aD]
   rw [qp,hlen,Option.bind_some,FR aN.1 cX u_,bF hi,cond_true,qH,Option.bind_some]
   by_cases aq:3 <=i
   · rw [decide_eq_true (show (3 :Int)<=(i:Int) by omega),cond_true,gp (show q <W.length by omega),Option.bind_some]
     have hw:uo (aP.mk k.a4 k.a0 k.Fields k.Names k.a1) (wd W q) (J.aE ((i:Int) - 3))=some (eN k (wd W q) (i - 3)):=by
      rw [ayd Ib aq]
      exact abt ai aJ aA (by omega)
     rw [hw,Option.bind_some]
     cases ay:eN k (wd W q) (i - 3) with
     | true=>
       rw [cond_true,acx ap az iT,Option.bind_some,lv Px,OG,Option.bind_some,j6 Ib,Int.toNat_natCast]
       exact step _ (by unfold val;rw [if_pos ⟨aq,ay⟩])
     | false=>
       rw [cond_false,lv Px,OG,Option.bind_some,j6 Ib,Int.toNat_natCast]
       exact step _ (by unfold val;rw [if_neg (fun h=>by rw [ay] at h;cases h.2)])
   · rw [decide_eq_false (show ¬ (3 :Int)<=(i:Int) by omega),cond_false,lv Px,OG,Option.bind_some,j6 Ib,Int.toNat_natCast]
     exact step _ (by unfold val;rw [if_neg (fun h=>aq h.1)])
end
end Go.Proofs.YteeliipnilghaaaGreat
namespace Go.Proofs.YteeliipnilghaaaGreat
open J
section
variable {F:Nat} {k:aP} {y ol yt ot nx:Int} {W nt o ns:List Int} {u1 u2 u3 u4 u6:Int} {u5:List Int}
theorem put_eq (az:10000 <F) (ai:fF k) (ap:o.length<= 5000) (iT:ns.length=o.length) {q t n:Nat} (cX:n= 3 +(wd W (q+ 1)).toNat) (aQ:q+n<=W.length) (fJ:W.length<= 5000) (aJ:gr k (wd W q)=true) (aA:isLen k (wd W q) (wd W (q+ 1))=true)
 {Z:List Int} (l4:Z.length<= 5000) (ik:t+n<=Z.length) :
 ∃ fU,CX F (q:Int) (t:Int) W y ol yt ot nt nx k.a4 k.a0 k.Fields k.Names k.a1 o ns u1 u2 u3 u4 u5 u6 Z=some ((),(W,y,ol,yt,ot,nt,nx,()),(k.a4,k.a0,k.Fields,k.Names,k.a1,()),((),()),(o,()),((),()),ns,((),u1,u2,u3,u4,u5,u6,()),fU,()) /\
   fU.length=Z.length/\ ∀ p,wd fU p=if t<=p/\p <t+n then val k W o ns q (p - t) else wd Z p:=by
 obtain ⟨fU,e1,e2,e3⟩:=auu (y:=y) (ol:=ol) (yt:=yt) (ot:=ot) (nx:=nx) (nt:=nt) (u1:=u1) (u2:=u2) (u3:=u3) (u4:=u4) (u5:=u5) (u6:=u6) (t:=t) az ai ap iT cX aQ fJ aJ aA n 0 F Z (by omega) (by omega) l4 ik
 refine ⟨fU,?_,e2,fun p=>by rw [e3 p,Nat.add_zero]⟩
 unfold CX
 have MB:qp F F (q:Int) (t:Int) 0 W y ol yt ot nt nx k.a4 k.a0 k.Fields k.Names k.a1 o ns u1 u2 u3 u4 u5 u6 Z=_:=e1
 rw [MB,Option.bind_some]
theorem atm {c1:List al} {c2:List Int} {c3:List (List J.Field)} {c4:List (List (List UInt8))} {c5:List (List J.Target)} {from_:Int} {roots e1 e6:List Int} {e2 e3 e4 e5 e7:Int} (ap:o.length<= 5000) (fJ:W.length<= 5000)
 (vf:∀ a ∈ o,1 <=a/\a.toNat+ 3 +(wd W (a.toNat+ 1)).toNat<=W.length/\ 0 <=wd W (a.toNat+ 1)):∀ (d i f t:Nat) (l:List Int),i+d=o.length->d <f->l.length=i->t+ 5000 *d<= 100000000 ->
 xZ F f from_ roots (t:Int) (i:Int) W y ol yt ot nt nx c1 c2 c3 c4 c5 o e1 e2 e3 e4 e5 e6 e7 l=some ((from_,roots,(),(),(),(),(),((bV W t (o.drop i):Nat):Int),()),(W,y,ol,yt,ot,nt,nx,()),(c1,c2,c3,c4,c5,()),(o,()),(e1,e2,e3,e4,e5,e6,e7,()),((),()),l++news W t (o.drop i),()):=by
 intro d
 induction d with
 | zero=>
   intro i f t l h af ak aJ
   obtain ⟨f,rfl⟩:∃ bG,f=bG+ 1 :=⟨f - 1,by omega⟩
   have:i=o.length:=by omega
   subst this
   rw [xZ,bE,cond_false,List.drop_length]
   simp [bV,news]
 | succ d ba=>
   intro i f t l h af ak aJ
   obtain ⟨f,rfl⟩:∃ bG,f=bG+ 1 :=⟨f - 1,by omega⟩
   have hi:i <o.length:=by omega
   have ad:o[i]? =some o[i]:=List.getElem?_eq_getElem hi
   obtain ⟨cF,dc,dJ⟩:=vf _ (List.getElem_mem hi)
   have sn:bR 8 l [(t:Int)]=some (l++[(t:Int)]):=by
    unfold bR
    rw [if_pos (by simp only [List.length_singleton];omega)]
   obtain ⟨q,aQ⟩:∃ q:Nat,o[i]=(q:Int):=⟨o[i].toNat,by omega⟩
   rw [aQ,Int.toNat_natCast] at dc dJ
   have yD:q<= 100000 :=by omega
   have l_:q+ 1 <W.length:=by omega
   obtain ⟨n,aA⟩:∃ n,n= 3 +(wd W (q+ 1)).toNat:=⟨_,rfl⟩
   have u_:n<= 100000 :=by omega
   have pv:i<= 100000 :=by omega
   have cX:sz W o[i]=n:=by rw [aQ];unfold sz;rw [Int.toNat_natCast,aA]
   have Bg:t+n+ 5000 *d<= 100000000 :=by omega
   have Yo:J.aE ((t:Int)+(n:Int))=((t+n:Nat):Int):=by rw [cE (by omega) (by omega)];omega
   rw [xZ,bF hi,cond_true,sn,Option.bind_some,bm ad,Option.bind_some,aQ,j6 yD,gp l_,Option.bind_some,FR dJ aA u_,Yo,j6 pv]
   clear Yo
   refine (ba (i+ 1) f (t+n) (l++[(t:Int)]) (by omega) (by omega) (by simp [ak]) Bg).trans ?_
   rw [List.drop_eq_getElem_cons hi,news,bV,cX,List.append_assoc,List.singleton_append]
end
end Go.Proofs.YteeliipnilghaaaGreat
namespace Go.Proofs.YteeliipnilghaaaGreat
open J
section
variable {F:Nat} {k:aP} {y ol yt ot nx:Int} {W nt o ns:List Int} {u1 u2 u3 u4 u6:Int} {u5:List Int} {e1 e6:List Int} {e2 e3 e4 e5 e7:Int} {roots:List Int}
theorem at0 (az:10000 <F) (ai:fF k) (ap:o.length<= 5000) (iT:ns.length=o.length) (fJ:W.length<= 5000) {to:Nat} (fX:to<=W.length) {q:Nat} {L:List Int} (h:J.eX k W to q L):∀ (f:Nat) (Z:List Int),to - q <f->Z.length=W.length ->
 ∃ fU,An F f (to:Int) roots (q:Int) W y ol yt ot nt nx o e1 e2 e3 e4 e5 e6 e7 ns u1 u2 u3 u4 u5 u6 Z k.a4 k.a0 k.Fields k.Names k.a1=some ((roots,(),(),(),(),(),((),(),(),(),()),()),(W,y,ol,yt,ot,nt,nx,()),(o,()),(e1,e2,e3,e4,e5,e6,e7,()),((),()),ns,((),()),((),u1,u2,u3,u4,u5,u6,()),fU,(k.a4,k.a0,k.Fields,k.Names,k.a1,()),()) /\
   fU.length=W.length/\(∀ a ∈ L,∀ i,i <sz W a->wd fU (a.toNat+i)=val k W o ns a.toNat i)/\ ∀ p,p <q\/to<=p->wd fU p=wd Z p:=by
 induction h with
 | nil=>
   intro f Z af l4
   obtain ⟨f,rfl⟩:∃ bG,f=bG+ 1 :=⟨f - 1,by omega⟩
   refine ⟨Z,?_,l4,fun a aK=>by simp at aK,fun p _=>rfl⟩
   rw [An,bE,cond_false]
 | @cons q r aJ aA ik ay ba=>
   intro f Z af l4
   obtain ⟨f,rfl⟩:∃ bG,f=bG+ 1 :=⟨f - 1,by omega⟩
   have hle:=ay.le
   obtain ⟨n,cX⟩:∃ n,n= 3 +(wd W (q+ 1)).toNat:=⟨_,rfl⟩
   have apS:=(m5.1 aA).1.1
   have bs:q <to:=by omega
   obtain ⟨Au,dN,f',hM⟩:=put_eq (y:=y) (ol:=ol) (yt:=yt) (ot:=ot) (nx:=nx) (nt:=nt) (u1:=u1) (u2:=u2) (u3:=u3) (u4:=u4) (u5:=u5) (u6:=u6) (t:=q) az ai ap iT cX (by omega) fJ aJ aA (Z:=Z) (by omega) (by omega)
   have apV:q+ 3 +(wd W (q+ 1)).toNat=q+n:=by omega
   rw [apV] at ba hle
   obtain ⟨fU,i1,i2,i3,i4⟩:=ba f Au (by omega) (by rw [f',l4])
   have yD:q<= 100000 :=by omega
   have l_:q+ 1 <W.length:=by omega
   have u_:n<= 100000 :=by omega
   have Ps:q+n<= 100000 :=by omega
   have Ed:sz W (q:Int)=n:=by unfold sz;rw [Int.toNat_natCast,cX]
   refine ⟨fU,?_,i2,fun a aK i hi=>?_,fun p aD=>?_⟩
   · rw [An,bF bs,cond_true,dN,Option.bind_some]
     dsimp only
     rw [j6 yD,gp l_,Option.bind_some,FR apS cX u_,lv Ps]
     exact i1
   · rcases List.mem_cons.1 aK with rfl | aK
     · rw [Ed] at hi
       rw [Int.toNat_natCast,i4 _ (by omega),hM,if_pos (by omega),show q+i - q=i by omega]
     · exact i3 a aK i hi
   · rw [i4 p (by omega),hM,if_neg (by omega)]
end
end Go.Proofs.YteeliipnilghaaaGreat
namespace Go.Proofs.YteeliipnilghaaaGreat
open J
def laid (k:aP) (W o ns Z:List Int):Nat->List Int->Prop
 | _,[]=>True
 | t,a::r=>(∀ m,m <sz W a->wd Z (t+m)=val k W o ns a.toNat m)/\laid k W o ns Z (t+sz W a) r
section
variable {F:Nat} {k:aP} {y ol yt ot nx:Int} {W nt o ns:List Int} {u1 u2 u3 u4 u6:Int} {u5:List Int} {e1 e6:List Int} {e2 e3 e4 e5 e7:Int} {roots:List Int}
theorem atk (az:10000 <F) (ai:fF k) (ap:o.length<= 5000) (iT:ns.length=o.length) (fJ:W.length<= 5000)
 (vf:∀ a ∈ o,1 <=a/\a.toNat+ 3 +(wd W (a.toNat+ 1)).toNat<=W.length/\gr k (wd W a.toNat)=true/\isLen k (wd W a.toNat) (wd W (a.toNat+ 1))=true):∀ (d i f t:Nat) (Z:List Int),i+d=o.length->d <f->ns.drop i=news W t (o.drop i)->bV W t (o.drop i)<=W.length->Z.length=W.length ->
 ∃ fU,x0 F f roots (i:Int) o e1 e2 e3 e4 e5 e6 e7 ns u1 u2 u3 u4 u5 u6 Z W y ol yt ot nt nx k.a4 k.a0 k.Fields k.Names k.a1=some ((roots,(),(),(),()),(o,()),(e1,e2,e3,e4,e5,e6,e7,()),((),()),ns,((),()),((),u1,u2,u3,u4,u5,u6,()),fU,(W,y,ol,yt,ot,nt,nx,()),(k.a4,k.a0,k.Fields,k.Names,k.a1,()),()) /\
   fU.length=W.length/\laid k W o ns fU t (o.drop i)/\ ∀ p,p <t\/bV W t (o.drop i)<=p->wd fU p=wd Z p:=by
 intro d
 induction d with
 | zero=>
   intro i f t Z h af aA aJ l4
   obtain ⟨f,rfl⟩:∃ bG,f=bG+ 1 :=⟨f - 1,by omega⟩
   have:i=o.length:=by omega
   subst this
   refine ⟨Z,?_,l4,by rw [List.drop_length];trivial,fun p _=>rfl⟩
   rw [x0,bE,cond_false]
 | succ d ba=>
   intro i f t Z h af aA aJ l4
   obtain ⟨f,rfl⟩:∃ bG,f=bG+ 1 :=⟨f - 1,by omega⟩
   have hi:i <o.length:=by omega
   have ad:o[i]? =some o[i]:=List.getElem?_eq_getElem hi
   have gm:i <ns.length:=by omega
   have apZ:ns[i]? =some ns[i]:=List.getElem?_eq_getElem gm
   rw [List.drop_eq_getElem_cons hi,List.drop_eq_getElem_cons gm,news] at aA
   rw [List.drop_eq_getElem_cons hi,bV] at aJ
   have Il:ns[i]=(t:Int):=(List.cons.inj aA).1
   have Im:=(List.cons.inj aA).2
   obtain ⟨cF,dc,dJ,eH⟩:=vf _ (List.getElem_mem hi)
   obtain ⟨q,aQ⟩:∃ q:Nat,o[i]=(q:Int):=⟨o[i].toNat,by omega⟩
   rw [aQ,Int.toNat_natCast] at dc dJ eH
   obtain ⟨n,cX⟩:∃ n,n= 3 +(wd W (q+ 1)).toNat:=⟨_,rfl⟩
   have Ed:sz W o[i]=n:=by rw [aQ];unfold sz;rw [Int.toNat_natCast,cX]
   rw [Ed] at Im aJ
   have Eh:=lq (W:=W) (o:=o.drop (i+ 1)) (t:=t+n)
   have pv:i<= 100000 :=by omega
   obtain ⟨Au,dN,f',hM⟩:=put_eq (y:=y) (ol:=ol) (yt:=yt) (ot:=ot) (nx:=nx) (nt:=nt) (u1:=u1) (u2:=u2) (u3:=u3) (u4:=u4) (u5:=u5) (u6:=u6) (t:=t) az ai ap iT cX (by omega) fJ dJ eH (Z:=Z) (by omega) (by omega)
   obtain ⟨fU,i1,i2,i3,i4⟩:=ba (i+ 1) f (t+n) Au (by omega) (by omega) Im aJ (by rw [f',l4])
   refine ⟨fU,?_,i2,?_,fun p aD=>?_⟩
   · rw [x0,bF hi,cond_true,bm ad,Option.bind_some,bm apZ,Option.bind_some,aQ,Il,dN,Option.bind_some]
     dsimp only
     rw [j6 pv]
     exact i1
   · rw [List.drop_eq_getElem_cons hi,laid,Ed]
     refine ⟨fun m hm=>?_,i3⟩
     rw [i4 _ (by omega),hM,if_pos (by omega),aQ,Int.toNat_natCast,show t+m - t=m by omega]
   · rw [List.drop_eq_getElem_cons hi,bV,Ed] at aD
     rw [i4 p (by omega),hM,if_neg (by omega)]
theorem abM (az:10000 <F) (ap:o.length<= 5000) (iT:ns.length=o.length) (ak:roots.length<= 5000):∀ (d i f:Nat) (l Z:List Int),i+d=roots.length->d <f->l.length=i ->
 x1 F f roots (i:Int) e1 e2 e3 e4 e5 e6 e7 o ns u1 u2 u3 u4 u5 u6 Z l=some (((),(),(),()),(e1,e2,e3,e4,e5,e6,e7,()),((),()),(o,()),((),()),ns,((),u1,u2,u3,u4,u5,u6,()),Z,l++(roots.drop i).map (ej o ns),()):=by
 intro d
 induction d with
 | zero=>
   intro i f l Z h af YM
   obtain ⟨f,rfl⟩:∃ bG,f=bG+ 1 :=⟨f - 1,by omega⟩
   have:i=roots.length:=by omega
   subst this
   rw [x1,bE,cond_false,List.drop_length,List.map_nil,List.append_nil]
 | succ d ba=>
   intro i f l Z h af YM
   obtain ⟨f,rfl⟩:∃ bG,f=bG+ 1 :=⟨f - 1,by omega⟩
   have hi:i <roots.length:=by omega
   have ad:roots[i]? =some roots[i]:=List.getElem?_eq_getElem hi
   have pv:i<= 100000 :=by omega
   have sn:bR 8 l [ej o ns roots[i]]=some (l++[ej o ns roots[i]]):=by
    unfold bR
    rw [if_pos (by simp only [List.length_singleton];omega)]
   rw [x1,bF hi,cond_true,bm ad,Option.bind_some,acx ap az iT,Option.bind_some]
   dsimp only
   rw [sn,Option.bind_some,j6 pv]
   refine (ba (i+ 1) f (l++[ej o ns roots[i]]) Z (by omega) (by omega) (by simp [YM])).trans ?_
   rw [List.drop_eq_getElem_cons hi,List.map_cons,List.append_assoc,List.singleton_append]
end
end Go.Proofs.YteeliipnilghaaaGreat
namespace Go.Proofs.YteeliipnilghaaaGreat
open J
section
variable {F:Nat} {h:aV} {k:aP} {Y O:List Int}
theorem awQ (az:10000 <F) (g:J.Good F h k Y O) {o roots:List Int} (ap:Ord Y o) (ak:roots.length<= 5000) (gI:bV h.Words h.aU.toNat o<=h.Words.length) :
 ∃ Z,xY F h.Words h.ar h.aO h.aZ h.aU h.aS h.Next k.a4 k.a0 k.Fields k.Names k.a1 o h.aU roots=some (((Z,h.ar,h.aO,1,((bV h.Words h.aU.toNat o:Nat):Int),[],h.Next,()),roots.map (ej o (news h.Words h.aU.toNat o)),()),()) /\
   Z.length=h.Words.length/\(∀ a ∈ O,∀ i,i <sz h.Words a->wd Z (a.toNat+i)=val k h.Words o (news h.Words h.aU.toNat o) a.toNat i) /\
   laid k h.Words o (news h.Words h.aU.toNat o) Z h.aU.toNat o/\ ∀ p,(p <(h.ar+ 1).toNat\/bV h.Words h.aU.toNat o<=p)->wd Z p= 0 :=by
 have iQ:=AF g.jJ g
 have Io:=ap.len
 have A1:=g.s.hE
 obtain ⟨⟨⟨bX,eb⟩,gk,gE⟩,kj,⟨r6,o7⟩,⟨kl,r7⟩,uy⟩:=g.s
 unfold okB at kj
 obtain ⟨t,aJ⟩:∃ t:Nat,h.aU=(t:Int):=⟨h.aU.toNat,by omega⟩
 have Bg:h.aU.toNat=t:=by omega
 have Y':=g.l.o
 rw [Bg] at gI Y' ⊢
 have iT:(news h.Words t o).length=o.length:=Jq
 have vf:∀ a ∈ o,1 <=a/\a.toNat+ 3 +(wd h.Words (a.toNat+ 1)).toNat<=h.Words.length/\gr k (wd h.Words a.toNat)=true/\isLen k (wd h.Words a.toNat) (wd h.Words (a.toNat+ 1))=true:=fun a aK=>by
  have hm:a ∈ Y++O:=List.mem_append_left O (ap.sub a aK)
  have I:=g.l.fit g.s a hm
  have aa:=g.l.FJ a hm
  exact ⟨I.1,I.2.1,aa.1,aa.2⟩
 unfold xY
 have cW:=atm (F:=F) (y:=h.ar) (ol:=h.aO) (yt:=h.aZ) (ot:=h.aU) (nx:=h.Next) (W:=h.Words) (nt:=h.aS) (c1:=k.a4) (c2:=k.a0) (c3:=k.Fields) (c4:=k.Names) (c5:=k.a1) (o:=o) (from_:=h.aU) (roots:=roots) (e1:=[]) (e2:=0) (e3:=0) (e4:=0) (e5:=0) (e6:=[]) (e7:=0) (by omega) (by omega) (fun a aK=>⟨(vf a aK).1,(vf a aK).2.1,(m5.1 (vf a aK).2.2.2).1.1⟩) o.length 0 F t [] (by omega) (by omega) rfl (by omega)
 rw [List.drop_zero,List.nil_append,<-aJ] at cW
 have Ho:xZ F F h.aU roots h.aU 0 h.Words h.ar h.aO h.aZ h.aU h.aS h.Next k.a4 k.a0 k.Fields k.Names k.a1 o [] 0 0 0 0 [] 0 []=_:=cW
 rw [Ho,Option.bind_some]
 dsimp only
 have aj:zb (0 :Int) 8 ((List.length h.Words:Nat):Int)=some (List.replicate h.Words.length 0):=by
  unfold zb
  rw [if_pos (by omega),Int.toNat_natCast]
 rw [aj,Option.bind_some]
 have Ix:J.aE (h.ar+ 1)=(((h.ar+ 1).toNat:Nat):Int):=by rw [cE (by omega) (by omega)];omega
 rw [Ix,aJ]
 clear Ix cW Ho aj
 obtain ⟨Au,dN,f',hM,kE⟩:=at0 (y:=h.ar) (ol:=h.aO) (yt:=h.aZ) (ot:=(t:Int)) (nx:=h.Next) (nt:=h.aS) (u1:=h.ar) (u2:=h.aO) (u3:=1) (u4:=((bV h.Words t o:Nat):Int)) (u5:=[]) (u6:=h.Next) (e1:=[]) (e2:=0) (e3:=0) (e4:=0) (e5:=0) (e6:=[]) (e7:=0) (roots:=roots) az g.jJ (by omega) iT (by omega) (by omega) Y' F (List.replicate h.Words.length 0) (by omega) (by simp)
 rw [dN,Option.bind_some]
 dsimp only
 obtain ⟨GX,bk,bH,bU,fp⟩:=atk (y:=h.ar) (ol:=h.aO) (yt:=h.aZ) (ot:=(t:Int)) (nx:=h.Next) (nt:=h.aS) (u1:=h.ar) (u2:=h.aO) (u3:=1) (u4:=((bV h.Words t o:Nat):Int)) (u5:=[]) (u6:=h.Next) (e1:=[]) (e2:=0) (e3:=0) (e4:=0) (e5:=0) (e6:=[]) (e7:=0) (roots:=roots) az g.jJ (by omega) iT (by omega) vf o.length 0 F t Au (by omega) (by omega) (by rw [List.drop_zero,List.drop_zero]) (by rw [List.drop_zero];exact gI) f'
 rw [List.drop_zero] at bU fp
 have Rm:x0 F F roots 0 o [] 0 0 0 0 [] 0 (news h.Words t o) h.ar h.aO 1 ((bV h.Words t o:Nat):Int) [] h.Next Au h.Words h.ar h.aO h.aZ (t:Int) h.aS h.Next k.a4 k.a0 k.Fields k.Names k.a1=_:=bk
 rw [Rm,Option.bind_some]
 dsimp only
 have b9:=abM (e1:=h.Words) (e2:=h.ar) (e3:=h.aO) (e4:=h.aZ) (e5:=(t:Int)) (e6:=h.aS) (e7:=h.Next) (u1:=h.ar) (u2:=h.aO) (u3:=1) (u4:=((bV h.Words t o:Nat):Int)) (u5:=[]) (u6:=h.Next) az (o:=o) (ns:=news h.Words t o) (by omega) iT ak roots.length 0 F [] GX (by omega) (by omega) rfl
 have cJ:=abM (e1:=[]) (e2:=0) (e3:=0) (e4:=0) (e5:=0) (e6:=[]) (e7:=0) (u1:=h.ar) (u2:=h.aO) (u3:=1) (u4:=((bV h.Words t o:Nat):Int)) (u5:=[]) (u6:=h.Next) az (o:=o) (ns:=news h.Words t o) (by omega) iT ak roots.length 0 F [] GX (by omega) (by omega) rfl
 rw [List.drop_zero,List.nil_append] at b9 cJ
 have avl:x1 F F roots 0 [] 0 0 0 0 [] 0 o (news h.Words t o) h.ar h.aO 1 ((bV h.Words t o:Nat):Int) [] h.Next GX []=_:=cJ
 rw [avl,Option.bind_some]
 refine ⟨GX,rfl,bH,fun a aK i hi=>?_,bU,fun p aD=>?_⟩
 · have I:=(g.l.kD g.s a aK).2
   rw [Bg] at I
   rw [fp _ (by left;unfold sz at hi;omega),hM a aK i hi]
 · have aa:=lq (W:=h.Words) (o:=o) (t:=t)
   rw [fp p (by omega),kE p (by omega)]
   unfold wd
   rcases Nat.lt_or_ge p h.Words.length with n_ | n_
   · simp [n_]
   · rw [List.getElem?_eq_none (by simpa using n_)];rfl
end
end Go.Proofs.YteeliipnilghaaaGreat
namespace Go.Proofs.YteeliipnilghaaaGreat
open J
theorem acs {W:List Int}:∀ {o:List Int} {t:Nat},bV W t o=t+(o.map (sz W)).sum
 | [],t=>rfl
 | a::r,t=>by rw [bV,acs (o:=r),List.map_cons,List.sum_cons];omega
theorem W2 {f:Int->Nat}:∀ {Y:List Int} {a:Int},a ∈ Y->(Y.map f).sum=f a+((Y.erase a).map f).sum
 | [],a,h=>by simp at h
 | b::r,a,h=>by
   by_cases e:b=a
   · subst e;simp
   · rw [List.erase_cons_tail (by simpa using e),List.map_cons,List.sum_cons,List.map_cons,List.sum_cons]
     have:a ∈ r:=by
      rcases List.mem_cons.1 h with h | h
      · exact absurd h.symm e
      · exact h
     have:=W2 (f:=f) this
     omega
theorem acf {f:Int->Nat}:∀ {o Y:List Int},o.Nodup->(∀ a ∈ o,a ∈ Y)->(o.map f).sum<=(Y.map f).sum
 | [],Y,_,_=>Nat.zero_le _
 | a::r,Y,aA,ao=>by
   have aA:=List.nodup_cons.1 aA
   have aK:a ∈ Y:=ao a (by simp)
   have I:=acf (f:=f) (o:=r) (Y:=Y.erase a) aA.2 fun b ah=>(List.mem_erase_of_ne fun e=>by subst e;exact aA.1 ah).2 (ao b (by simp [ah]))
   rw [List.map_cons,List.sum_cons,W2 aK]
   omega
theorem ayg {k:aP} {W:List Int} {to q:Nat} {L:List Int} (h:J.eX k W to q L):q+(L.map (sz W)).sum=to:=by
 induction h with
 | nil=>simp
 | @cons q r I aa aq a' ba=>
   rw [List.map_cons,List.sum_cons]
   have:sz W (q:Int)= 3 +(wd W (q+ 1)).toNat:=by unfold sz;rw [Int.toNat_natCast]
   omega
theorem aw0 {F:Nat} {h:aV} {k:aP} {Y O o:List Int} (g:J.Good F h k Y O) (ap:Ord Y o) (ak:0 <=h.ar+h.aO+ 1 - h.aU - (h.aZ - 1)):bV h.Words h.aU.toNat o<=h.Words.length:=by
 rw [acs]
 have I:=acf (f:=sz h.Words) ap.QT ap.sub
 have aa:=ayg g.l.y
 obtain ⟨⟨⟨bX,eb⟩,gk,gE⟩,kj,⟨r6,o7⟩,⟨kl,r7⟩,uy⟩:=g.s
 unfold okB at kj
 omega
end Go.Proofs.YteeliipnilghaaaGreat
namespace Go.Proofs.YteeliipnilghaaaGreat
open J
theorem ac5 {l ds:List Int} {p j:Nat} (h:p+ds.length<=l.length):wd (fo l p ds) j=if p<=j/\j <p+ds.length then wd ds (j - p) else wd l j:=by
 unfold wd fo
 have aD:(l.take p).length=p:=by rw [List.length_take];omega
 by_cases I:j <p
 · rw [if_neg (by omega),List.append_assoc,List.getElem?_append_left (by omega),List.getElem?_take_of_lt I]
 · by_cases aa:j <p+ds.length
   · rw [if_pos (by omega),List.append_assoc,List.getElem?_append_right (by omega),aD,List.getElem?_append_left (by omega)]
   · rw [if_neg (by omega),List.getElem?_append_right (by rw [List.length_append];omega),List.length_append,aD,List.getElem?_drop]
     rw [show p+ds.length+(j - (p+ds.length))=j by omega]
section
variable {F:Nat} {c1:List al} {c2:List Int} {c3:List (List J.Field)} {c4:List (List (List UInt8))} {c5:List (List J.Target)} {y ol yt nx:Int} {nt W:List Int} {m:List (Int × Int)}
theorem as4 {a ot:Int} (h:a= 0 \/y <a):rK F a c1 c2 c3 c4 c5 y ol yt ot nt nx W m=some ((a,()),((),c1,c2,c3,c4,c5,(),()),((),y,ol,yt,ot,nt,nx,()),W,m,()):=by
 unfold rK
 have:(decide (a= 0) || decide (y <a))=true:=by
  rcases h with h | h
  · rw [decide_eq_true h,Bool.true_or]
  · rw [decide_eq_true h,Bool.or_true]
 rw [this,cond_true]
theorem as2 {a ot to:Int} (aN:a≠ 0) (I:a<=y) (hm:du m a=some to):rK F a c1 c2 c3 c4 c5 y ol yt ot nt nx W m=some ((to,()),((),c1,c2,c3,c4,c5,(),()),((),y,ol,yt,ot,nt,nx,()),W,m,()):=by
 unfold rK
 rw [decide_eq_false aN,decide_eq_false (by omega),Bool.false_or,cond_false,hm]
 rfl
theorem as3 {q t n:Nat} (aN:1 <=q) (I:(q:Int)<=y) (hm:du m (q:Int)=none) (ak:0 <=wd W (q+ 1)) (cX:n= 3 +(wd W (q+ 1)).toNat) (aQ:q+n<=W.length) (aJ:t+n<=W.length) (fJ:W.length<= 5000) :
 ∃ cy,rK F (q:Int) c1 c2 c3 c4 c5 y ol yt (t:Int) nt nx W m=some (((t:Int),()),((),c1,c2,c3,c4,c5,(),()),((),y,ol,yt,((t+n:Nat):Int),nt,nx,()),cy,hA m (q:Int) (t:Int),()) /\
   cy.length=W.length/\ ∀ p,wd cy p=if t<=p/\p <t+n then wd W (q+(p - t)) else wd W p:=by
 have yD:q<= 100000 :=by omega
 have u_:n<= 100000 :=by omega
 have Ps:q+n<= 100000 :=by omega
 have Bg:t+n<= 100000 :=by omega
 have l_:q+ 1 <W.length:=by omega
 refine ⟨fo W t ((W.take (q+n)).drop q),?_,?_,fun p=>?_⟩
 · unfold rK
   rw [decide_eq_false (show ¬ (q:Int)= 0 by omega),decide_eq_false (show ¬ y <(q:Int) by omega),Bool.false_or,cond_false,hm]
   rw [Option.isSome_none,cond_false,j6 yD,gp l_,Option.bind_some,FR ak cX u_,lv Ps,lv Bg]
   rw [if_pos (by omega),Option.bind_some,if_pos (by omega),Option.bind_some]
   unfold tr
   rw [if_pos (decide_eq_true (by omega)),Option.bind_some,Int.toNat_natCast,Int.toNat_natCast,Int.toNat_natCast]
   have e:((W.take (q+n)).drop q).take ((W.length:Int) - (t:Int)).toNat=(W.take (q+n)).drop q:=by
    apply List.take_of_length_le
    rw [List.length_drop,List.length_take]
    omega
   rw [e]
 · apply BI
   rw [List.length_drop,List.length_take]
   omega
 · have hlen:((W.take (q+n)).drop q).length=n:=by rw [List.length_drop,List.length_take];omega
   rw [ac5 (by omega),hlen]
   by_cases aD:t<=p/\p <t+n
   · rw [if_pos aD,if_pos aD]
     unfold wd
     rw [List.getElem?_drop,List.getElem?_take_of_lt (by omega)]
   · rw [if_neg aD,if_neg aD]
end
end Go.Proofs.YteeliipnilghaaaGreat
namespace Go.Proofs.YteeliipnilghaaaGreat
open J
theorem Qx:∀ {o ns:List Int} {v:Int},ns.length=o.length->du (o.zip ns) v=(match pos o v with | some j=>ns[j]? | none=>none)
 | [],ns,v,_=>rfl
 | b::r,[],v,h=>by simp at h
 | b::r,n::ns,v,h=>by
   rw [List.zip_cons_cons,du,pos]
   by_cases e:b=v
   · rw [if_pos e,if_pos e]
     rfl
   · rw [if_neg e,if_neg e,Qx (by simpa using h)]
     cases pos r v <;> rfl
theorem Z8:∀ {o ns:List Int} {b x:Int},ns.length=o.length->b ∉ o->hA (o.zip ns) b x=(o++[b]).zip (ns++[x])
 | [],[],b,x,_,_=>rfl
 | [],n::ns,b,x,h,_=>by simp at h
 | c::r,[],b,x,h,_=>by simp at h
 | c::r,n::ns,b,x,h,ah=>by
   simp only [List.mem_cons,not_or] at ah
   rw [List.zip_cons_cons,hA,if_neg (fun e=>ah.1 e.symm),Z8 (by simpa using h) ah.2]
   rfl
def base (W:List Int):Nat->List Int->Nat->Int
 | _,[],_=>0
 | t,a::r,p=>if t<=p/\p <t+sz W a then wd W (a.toNat+(p - t)) else base W (t+sz W a) r p
def eZ (W:List Int) (t0:Nat) (o:List Int) (p:Nat):Int:=if p <t0 then wd W p else base W t0 o p
theorem Md {W:List Int} {b:Int}:∀ {o:List Int} {t p:Nat},t<=p->base W t (o++[b]) p=if bV W t o<=p/\p <bV W t o+sz W b then wd W (b.toNat+(p - bV W t o)) else base W t o p
 | [],t,p,_=>rfl
 | a::r,t,p,h=>by
   have hle:=lq (W:=W) (o:=r) (t:=t+sz W a)
   rw [List.cons_append,base,base,bV]
   by_cases I:t<=p/\p <t+sz W a
   · rw [if_pos I,if_pos I,if_neg (by omega)]
   · rw [if_neg I,if_neg I,Md (by omega)]
theorem Vu {W:List Int}:∀ {o:List Int} {t p:Nat},bV W t o<=p->base W t o p= 0
 | [],t,p,_=>rfl
 | a::r,t,p,h=>by
   have hle:=lq (W:=W) (o:=r) (t:=t+sz W a)
   rw [bV] at h
   rw [base,if_neg (by omega),Vu h]
theorem aun {o:List Int} {b v:Int}:∀ {j:Nat},pos o v=some j->pos (o++[b]) v=some j:=by
 induction o with
 | nil=>intro j h;simp [pos] at h
 | cons c r ba=>
   intro j h
   rw [List.cons_append,pos]
   rw [pos] at h
   by_cases e:c=v
   · rw [if_pos e] at h ⊢;exact h
   · rw [if_neg e] at h ⊢
     obtain ⟨i,I,rfl⟩:=Option.map_eq_some_iff.1 h
     rw [ba I];rfl
theorem aaV:∀ {o:List Int} {b:Int},b ∉ o->pos (o++[b]) b=some o.length
 | [],b,_=>by simp [pos]
 | c::r,b,h=>by
   simp only [List.mem_cons,not_or] at h
   rw [List.cons_append,pos,if_neg (fun e=>h.1 e.symm),aaV h.2];rfl
theorem acw {o ns:List Int} {b x v:Int} (ak:ns.length=o.length) (ag:v= 0 \/v ∈ o\/v≠b):ej (o++[b]) (ns++[x]) v=ej o ns v:=by
 unfold ej
 by_cases aN:v= 0
 · rw [if_pos aN,if_pos aN]
 · rw [if_neg aN,if_neg aN]
   cases aD:pos o v with
   | some j=>
     rw [aun aD]
     have:=(List.getElem?_eq_some_iff.1 (JG aD)).1
     dsimp only
     rw [List.getElem?_append_left (by omega)]
   | none=>
     have aA:=BP.1 aD
     have:pos (o++[b]) v=none:=BP.2 (by
      simp only [List.mem_append,List.mem_singleton,not_or]
      refine ⟨aA,?_⟩
      rcases ag with ag | ag | ag
      · exact absurd ag aN
      · exact absurd ag aA
      · exact ag)
     rw [this]
theorem ax2 {o ns:List Int} {b x:Int} (ak:ns.length=o.length) (ah:b≠ 0) (aA:b ∉ o):ej (o++[b]) (ns++[x]) b=x:=by
 unfold ej
 rw [if_neg ah,aaV aA]
 dsimp only
 rw [List.getElem?_append_right (by omega),ak,Nat.sub_self]
 rfl
theorem acy {o ns:List Int} {v:Int} (aA:v ∉ o):ej o ns v=v:=by
 unfold ej
 split
 · rfl
 · rw [BP.2 aA]
structure Inv (W:List Int) (y:Int) (t0:Nat) (o:List Int) (D:Nat->Bool) (cy:List Int):Prop where
 len:cy.length=W.length
 wA:∀ p,p <W.length->wd cy p=if D p=true then ej o (news W t0 o) (eZ W t0 o p) else eZ W t0 o p
 x_:∀ p,D p=true->y <(p:Int)/\p <bV W t0 o/\(eZ W t0 o p= 0 \/y <eZ W t0 o p\/eZ W t0 o p ∈ o)
end Go.Proofs.YteeliipnilghaaaGreat
namespace Go.Proofs.YteeliipnilghaaaGreat
open J
section
variable {F:Nat} {h:aV} {k:aP} {Y O:List Int} {c1:List al} {c2:List Int} {c3:List (List J.Field)} {c4:List (List (List UInt8))} {c5:List (List J.Target)} {ol yt nx:Int} {nt:List Int}
theorem CC (g:J.Good F h k Y O) {a:Int} (aK:a ∈ Y):1 <=a/\a.toNat+sz h.Words a<=h.aZ.toNat/\h.aZ<=h.ar+ 1 :=by
 have I:=g.l.CB g.s a aK
 obtain ⟨_,_,⟨_,o7⟩,_⟩:=g.s
 unfold sz
 exact ⟨I.1,by omega,o7⟩
theorem Z7 (g:J.Good F h k Y O) {t0:Nat} (iW:h.aU=(t0:Int)) {o:List Int} {D:Nat->Bool} {cy:List Int} (ap:Ord Y o) (hi:Inv h.Words h.ar t0 o D cy) {v:Int} (ag:v= 0 \/v ∈ Y++O) (gI:∀ cQ,Ord Y cQ->bV h.Words t0 cQ<=h.Words.length) :
 ∃ gD,rK F v c1 c2 c3 c4 c5 h.ar ol yt ((bV h.Words t0 o:Nat):Int) nt nx cy (o.zip (news h.Words t0 o))=some ((ej (cc h.ar o v) (news h.Words t0 (cc h.ar o v)) v,()),((),c1,c2,c3,c4,c5,(),()),((),h.ar,ol,yt,((bV h.Words t0 (cc h.ar o v):Nat):Int),nt,nx,()),gD,(cc h.ar o v).zip (news h.Words t0 (cc h.ar o v)),())/\Inv h.Words h.ar t0 (cc h.ar o v) D gD:=by
 have iT:(news h.Words t0 o).length=o.length:=Jq
 have A1:=g.s.hE
 by_cases aN:v= 0 \/h.ar <v
 · have ay:cc h.ar o v=o:=by
    unfold cc
    rw [if_neg (by omega)]
   have aJ:ej o (news h.Words t0 o) v=v:=by
    by_cases e:v= 0
    · unfold ej;rw [if_pos e]
    · refine acy fun hm=>?_
      have aq:3 <=sz h.Words v:=by unfold sz;omega
      have:=CC g (ap.sub v hm)
      omega
   rw [ay,aJ]
   exact ⟨cy,as4 aN,hi⟩
 · have I:v≠ 0 :=fun e=>aN (.inl e)
   have aa:v<=h.ar:=by omega
   have aq:1 <=v:=by
    rcases ag with ag | ag
    · exact absurd ag I
    · exact (g.l.fit g.s v ag).1
   have iQ:=nH g ag aq aa
   by_cases hm:v ∈ o
   · have ay:cc h.ar o v=o:=by
      unfold cc
      rw [if_neg (fun e=>e.2 hm)]
     obtain ⟨j,aC⟩:∃ j,pos o v=some j:=by
      cases aD:pos o v with
      | none=>exact absurd hm (BP.1 aD)
      | some j=>exact ⟨j,rfl⟩
     have bs:=(List.getElem?_eq_some_iff.1 (JG aC)).1
     have aw:du (o.zip (news h.Words t0 o)) v=some (news h.Words t0 o)[j]:=by
      rw [Qx iT,aC]
      exact List.getElem?_eq_getElem (by omega)
     have aJ:ej o (news h.Words t0 o) v=(news h.Words t0 o)[j]:=by
      unfold ej
      rw [if_neg I,aC]
      dsimp only
      rw [List.getElem?_eq_getElem (by omega)]
      rfl
     rw [ay,aJ]
     exact ⟨cy,as2 I aa aw,hi⟩
   · have ay:cc h.ar o v=o++[v]:=by
      unfold cc
      rw [if_pos ⟨⟨aq,aa⟩,hm⟩]
     have iU:Ord Y (o++[v]):=by rw [<-ay];exact ap.cc fun _ _=>iQ
     have ik:=gI _ iU
     rw [Cd] at ik
     obtain ⟨q,rfl⟩:∃ q:Nat,v=(q:Int):=⟨v.toNat,by omega⟩
     obtain ⟨dk,jv,p_⟩:=CC g iQ
     rw [Int.toNat_natCast] at jv
     obtain ⟨n,aA⟩:∃ n,n=sz h.Words (q:Int):=⟨_,rfl⟩
     have cX:n= 3 +(wd h.Words (q+ 1)).toNat:=by rw [aA];unfold sz;rw [Int.toNat_natCast]
     rw [<-aA] at jv ik
     obtain ⟨_,_,⟨r6,o7⟩,⟨kl,r7⟩,_⟩:=g.s
     have fx:=lq (W:=h.Words) (o:=o) (t:=t0)
     have agX:∀ p,p <h.aZ.toNat->wd cy p=wd h.Words p:=fun p aD=>by
      rw [hi.wA p (by omega),if_neg (fun dU=>by have:=(hi.x_ p dU).1;omega)]
      unfold eZ
      rw [if_pos (by omega)]
     have Bi:=agX (q+ 1) (by omega)
     have hlen:=(m5.1 (g.l.FJ _ (List.mem_append_left O iQ)).2).1.1
     rw [Int.toNat_natCast] at hlen
     have aw:du (o.zip (news h.Words t0 o)) (q:Int)=none:=by rw [Qx iT,BP.2 hm]
     obtain ⟨gD,e1,e2,e3⟩:=as3 (F:=F) (c1:=c1) (c2:=c2) (c3:=c3) (c4:=c4) (c5:=c5) (ol:=ol) (yt:=yt) (nt:=nt) (nx:=nx) (W:=cy) (t:=bV h.Words t0 o) (n:=n) (by omega) aa aw (by rw [Bi];exact hlen) (by rw [Bi];exact cX) (by rw [hi.len];omega) (by rw [hi.len];omega) (by rw [hi.len];omega)
     have aj:cc h.ar o (q:Int)=o++[(q:Int)]:=ay
     rw [aj,Jp,Cd,<-aA,ax2 iT I hm,<-Z8 iT hm]
     refine ⟨gD,e1,?_⟩
     have qA:∀ p,eZ h.Words t0 (o++[(q:Int)]) p=if bV h.Words t0 o<=p/\p <bV h.Words t0 o+n then wd h.Words (q+(p - bV h.Words t0 o)) else eZ h.Words t0 o p:=fun p=>by
      unfold eZ
      by_cases aD:p <t0
      · rw [if_pos aD,if_pos aD,if_neg (by omega)]
      · rw [if_neg aD,if_neg aD,Md (by omega),<-aA,Int.toNat_natCast]
     refine ⟨by rw [e2,hi.len],fun p aD=>?_,fun p dU=>?_⟩
     · rw [e3 p,qA p,Jp]
       by_cases m1:bV h.Words t0 o<=p/\p <bV h.Words t0 o+n
       · rw [if_pos m1,if_pos m1,if_neg (fun dU=>by have:=(hi.x_ p dU).2.1;omega),agX _ (by omega)]
       · rw [if_neg m1,if_neg m1,hi.wA p aD]
         by_cases dU:D p=true
         · rw [if_pos dU,if_pos dU,acw iT (by
            rcases (hi.x_ p dU).2.2 with e | e | e
            · exact .inl e
            · exact .inr (.inr (by omega))
            · exact .inr (.inl e))]
         · rw [if_neg dU,if_neg dU]
     · obtain ⟨d1,d2,d3⟩:=hi.x_ p dU
       rw [qA p,if_neg (by omega),Cd]
       refine ⟨d1,by omega,?_⟩
       rcases d3 with e | e | e
       · exact .inl e
       · exact .inr (.inl e)
       · exact .inr (.inr (List.mem_append_left _ e))
end
end Go.Proofs.YteeliipnilghaaaGreat
namespace Go.Proofs.YteeliipnilghaaaGreat
open J
theorem axC {W:List Int} {y:Int} {t0:Nat} {o:List Int} {D:Nat->Bool} {cy:List Int} (hi:Inv W y t0 o D cy) {w:Nat} (hw:w <W.length) (I:y <(w:Int)) (aa:w <bV W t0 o) (aq:eZ W t0 o w= 0 \/y <eZ W t0 o w\/eZ W t0 o w ∈ o) :
 Inv W y t0 o (fun p=>D p || Nat.beq p w) (cy.set w (ej o (news W t0 o) (eZ W t0 o w))):=by
 refine ⟨by rw [List.length_set,hi.len],fun p aD=>?_,fun p dU=>?_⟩
 · rw [KC (by rw [hi.len];exact hw)]
   by_cases e:p=w
   · subst e
     rw [if_pos rfl,if_pos (by simp)]
   · rw [if_neg e,hi.wA p aD]
     have:Nat.beq p w=false:=by
      rw [Bool.eq_false_iff]
      intro ah
      exact e (Nat.eq_of_beq_eq_true ah)
     simp only [this,Bool.or_false]
 · simp only [Bool.or_eq_true] at dU
   rcases dU with dU | dU
   · exact hi.x_ p dU
   · have:=Nat.eq_of_beq_eq_true dU
     subst this
     exact ⟨I,aa,aq⟩
theorem Sy {y:Int} {o:List Int} {v:Int} (h:1 <=v) (aa:v<=y):v ∈ cc y o v:=by
 unfold cc
 split
 · simp
 · rename_i aA
   by_cases hm:v ∈ o
   · exact hm
   · exact absurd ⟨⟨h,aa⟩,hm⟩ aA
theorem XD {W:List Int} {t0:Nat} {o t:List Int} {p:Nat} (aD:p <bV W t0 o):eZ W t0 (o++t) p=eZ W t0 o p:=by
 induction t generalizing o with
 | nil=>rw [List.append_nil]
 | cons b r ba=>
   rw [show o++b::r=(o++[b])++r by simp]
   have I:p <bV W t0 (o++[b]):=by rw [Cd];omega
   rw [ba I]
   unfold eZ
   by_cases aa:p <t0
   · rw [if_pos aa,if_pos aa]
   · rw [if_neg aa,if_neg aa,Md (by omega),if_neg (by omega)]
def np (k:aP) (W:List Int) (a:Nat):Nat->Nat->List Int
 | _,0 =>[]
 | j,d+ 1 =>if eN k (wd W a) j=true then wd W (a+ 3 +j)::np k W a (j+ 1) d else np k W a (j+ 1) d
theorem abU {k:aP} {W:List Int} {a:Nat}:∀ {d j:Nat},np k W a j d=((List.range' j d).flatMap fun i=>if eN k (wd W a) i then [((a+ 3 +i:Nat):Int)] else []).map fun w=>wd W w.toNat
 | 0,j=>rfl
 | d+ 1,j=>by
   rw [np,List.range'_succ,List.flatMap_cons,List.map_append,<-abU]
   split
   · rfl
   · rfl
theorem axo {k:aP} {W:List Int} {a:Nat}:np k W a 0 (wd W (a+ 1)).toNat=gN k W (a:Int):=by
 rw [abU]
 unfold gN refs
 rw [Int.toNat_natCast,List.range_eq_range']
end Go.Proofs.YteeliipnilghaaaGreat
namespace Go.Proofs.YteeliipnilghaaaGreat
open J
def tY (k:aP) (tag:Int) (u:Nat):Nat->Nat->(Nat->Bool)->Nat->Bool
 | _,0,D=>D
 | j,d+ 1,D=>tY k tag u (j+ 1) d (if eN k tag j=true then fun p=>D p || Nat.beq p (u+ 3 +j) else D)
section
variable {F:Nat} {h:aV} {k:aP} {Y O:List Int} {ol yt nx:Int} {nt:List Int}
theorem awV (g:J.Good F h k Y O) {t0:Nat} (iW:h.aU=(t0:Int)) (gI:∀ cQ,Ord Y cQ->bV h.Words t0 cQ<=h.Words.length) {a u:Nat} (aK:(a:Int) ∈ Y++O) (hu:h.ar <(u:Int)) {len:Nat} (hlen:wd h.Words (a+ 1)=(len:Int)) :
 ∀ (d j f:Nat) (o:List Int) (D:Nat->Bool) (cy:List Int),j+d=len->d <f->Ord Y o->Inv h.Words h.ar t0 o D cy->(∀ i,i < 3 +len->eZ h.Words t0 o (u+i)=wd h.Words (a+i))->u+ 3 +len<=bV h.Words t0 o->(∀ i,i < 3 ->D (u+i)=false)->(∀ i,j<=i->i <len->D (u+ 3 +i)=false) ->
 ∃ gD,w8 F f (u:Int) (len:Int) (j:Int) k.a4 k.a0 k.Fields k.Names k.a1 h.ar ol yt ((bV h.Words t0 o:Nat):Int) nt nx cy (o.zip (news h.Words t0 o))=some ((),((),k.a4,k.a0,k.Fields,k.Names,k.a1,(),()),((),h.ar,ol,yt,((bV h.Words t0 ((np k h.Words a j d).foldl (cc h.ar) o):Nat):Int),nt,nx,()),gD,((np k h.Words a j d).foldl (cc h.ar) o).zip (news h.Words t0 ((np k h.Words a j d).foldl (cc h.ar) o)),()) /\
   Inv h.Words h.ar t0 ((np k h.Words a j d).foldl (cc h.ar) o) (tY k (wd h.Words a) u j d D) gD:=by
 intro d
 have A1:=g.s.hE
 have Eg:=g.l.FJ _ aK
 rw [Int.toNat_natCast] at Eg
 obtain ⟨aJ,ak⟩:=Eg
 rw [hlen] at ak
 induction d with
 | zero=>
   intro j f o D cy aC af ap hi ah Eh dU H0
   obtain ⟨f,rfl⟩:∃ bG,f=bG+ 1 :=⟨f - 1,by omega⟩
   have:j=len:=by omega
   subst this
   refine ⟨cy,?_,hi⟩
   rw [w8,bE,cond_false]
   rfl
 | succ d ba=>
   intro j f o D cy aC af ap hi ah Eh dU H0
   obtain ⟨f,rfl⟩:∃ bG,f=bG+ 1 :=⟨f - 1,by omega⟩
   have mY:j <len:=by omega
   have Y0:=gI o ap
   have qT:u <cy.length:=by rw [hi.len];omega
   have aqv:wd cy u=wd h.Words a:=by
    have:=hi.wA u (by omega)
    rw [this,if_neg (by have:=dU 0 (by omega);simpa using this)]
    simpa using ah 0 (by omega)
   have yw:j<= 100000 :=by omega
   have vg:u+ 3 +j <cy.length:=by rw [hi.len];omega
   have aqB:wd cy (u+ 3 +j)=wd h.Words (a+ 3 +j):=by
    rw [hi.wA _ (by omega),if_neg (by rw [H0 j (by omega) mY];simp)]
    have:=ah (3 +j) (by omega)
    rw [show u+ 3 +j=u+(3 +j) by omega,this,show a+ 3 +j=a+(3 +j) by omega]
   have PA:u+ 3 <= 100000 :=by omega
   have PB:u+ 3 +j<= 100000 :=by omega
   have Pt:uY (cb.mk (aP.mk k.a4 k.a0 k.Fields k.Names k.a1)) (wd h.Words a) (j:Int)=some (eN k (wd h.Words a) j):=ab7 g.jJ aJ ak (by omega)
   rw [w8,bF mY,cond_true,gp qT,Option.bind_some,aqv,Pt,Option.bind_some]
   cases ay:eN k (wd h.Words a) j with
   | false=>
     rw [cond_false,j6 yw]
     have:=ba (j+ 1) f o D cy (by omega) (by omega) ap hi ah Eh dU (fun i I aa=>H0 i (by omega) aa)
     rw [np,tY,ay]
     simpa using this
   | true=>
     have gS:idx cy (J.aE (J.aE ((u:Int)+ 3)+(j:Int)))=some (wd cy (u+ 3 +j)):=by
      rw [show J.aE ((u:Int)+ 3)=((u+ 3 :Nat):Int) from lv (b:=3) PA,lv PB]
      exact gp vg
     obtain ⟨v,ag⟩:∃ v,v=wd h.Words (a+ 3 +j):=⟨_,rfl⟩
     have yI:v= 0 \/v ∈ Y++O:=by
      have:=g.ok.ref _ aK ((a+ 3 +j:Nat):Int) (Bv.2 ⟨j,by rw [Int.toNat_natCast,hlen,Int.toNat_natCast];exact mY,by rw [Int.toNat_natCast];exact ay,by rw [Int.toNat_natCast]⟩)
      rw [Int.toNat_natCast,<-ag] at this
      exact this
     obtain ⟨hV,dd,dY⟩:=Z7 (F:=F) (c1:=k.a4) (c2:=k.a0) (c3:=k.Fields) (c4:=k.Names) (c5:=k.a1) (ol:=ol) (yt:=yt) (nx:=nx) (nt:=nt) g iW ap hi yI gI
     obtain ⟨dz,k5⟩:∃ dz,dz=cc h.ar o v:=⟨_,rfl⟩
     rw [<-k5] at dd dY
     obtain ⟨Tb,yG⟩:=Sz (y:=h.ar) (a:=v) (o:=o)
     rw [<-k5] at yG
     have mS:Ord Y dz:=by rw [k5];exact ap.cc (nH g yI)
     have aqr:bV h.Words t0 o<=bV h.Words t0 dz:=by rw [yG,Ks];exact lq
     have yr:∀ p,p <bV h.Words t0 o->eZ h.Words t0 dz p=eZ h.Words t0 o p:=fun p aD=>by rw [yG];exact XD aD
     have YC:eZ h.Words t0 dz (u+ 3 +j)=v:=by
      rw [yr _ (by omega),show u+ 3 +j=u+(3 +j) by omega,ah (3 +j) (by omega),ag,show a+ 3 +j=a+(3 +j) by omega]
     have ao:=axC dY (w:=u+ 3 +j) (by rw [hi.len] at vg;exact vg) (by omega) (by omega) (by
      rw [YC]
      rcases yI with e | e
      · exact .inl e
      · by_cases hy:h.ar <v
        · exact .inr (.inl hy)
        · refine .inr (.inr ?_)
          rw [k5]
          exact Sy (g.l.fit g.s v e).1 (by omega))
     rw [YC] at ao
     have ap6:idx hV (J.aE (J.aE ((u:Int)+ 3)+(j:Int)))=some (wd hV (u+ 3 +j)):=by
      rw [show J.aE ((u:Int)+ 3)=((u+ 3 :Nat):Int) from lv (b:=3) PA,lv PB]
      exact gp (by rw [dY.len];rw [hi.len] at vg;exact vg)
     obtain ⟨nT,b9,cJ⟩:=ba (j+ 1) f dz (fun p=>D p || Nat.beq p (u+ 3 +j)) (hV.set (u+ 3 +j) (ej dz (news h.Words t0 dz) v)) (by omega) (by omega) mS ao (fun i I=>by rw [yr _ (by omega)];exact ah i I) (by omega)
      (fun i I=>by
       have:Nat.beq (u+i) (u+ 3 +j)=false:=by
        rw [Bool.eq_false_iff];intro aQ;have:=Nat.eq_of_beq_eq_true aQ;omega
       simp [dU i I,this])
      (fun i I aa=>by
       have:Nat.beq (u+ 3 +i) (u+ 3 +j)=false:=by
        rw [Bool.eq_false_iff];intro aQ;have:=Nat.eq_of_beq_eq_true aQ;omega
       simp [H0 i (by omega) aa,this])
     refine ⟨nT,?_,?_⟩
     · rw [cond_true,gS,Option.bind_some,aqB,<-ag,dd,Option.bind_some]
       dsimp only
       rw [ap6,Option.bind_some,show J.aE ((u:Int)+ 3)=((u+ 3 :Nat):Int) from lv (b:=3) PA,lv PB,j6 yw,Int.toNat_natCast,np,if_pos ay,List.foldl_cons,<-ag,<-k5]
       exact b9
     · rw [np,if_pos ay,List.foldl_cons,<-ag,<-k5,tY,if_pos ay]
       exact cJ
end
end Go.Proofs.YteeliipnilghaaaGreat
namespace Go.Proofs.YteeliipnilghaaaGreat
open J
theorem Wh {k:aP} {tag:Int} {u:Nat}:∀ {d j:Nat} {D:Nat->Bool} {p:Nat},tY k tag u j d D p=true ↔ D p=true\/ ∃ i,j<=i/\i <j+d/\eN k tag i=true/\p=u+ 3 +i
 | 0,j,D,p=>by
   rw [tY]
   exact ⟨.inl,fun h=>h.elim id fun ⟨i,I,aa,_⟩=>by omega⟩
 | d+ 1,j,D,p=>by
   rw [tY,Wh]
   cases ay:eN k tag j with
   | true=>
     simp only [if_true,Bool.or_eq_true]
     constructor
     · rintro ((h | h) | ⟨i,I,aa,aq,a'⟩)
       · exact .inl h
       · exact .inr ⟨j,Nat.le_refl _,by omega,ay,Nat.eq_of_beq_eq_true h⟩
       · exact .inr ⟨i,by omega,by omega,aq,a'⟩
     · rintro (h | ⟨i,I,aa,aq,a'⟩)
       · exact .inl (.inl h)
       · by_cases e:i=j
         · subst e
           exact .inl (.inr (by rw [a'];simp))
         · exact .inr ⟨i,by omega,by omega,aq,a'⟩
   | false=>
     simp only [Bool.false_eq_true,if_false]
     constructor
     · rintro (h | ⟨i,I,aa,aq,a'⟩)
       · exact .inl h
       · exact .inr ⟨i,by omega,by omega,aq,a'⟩
     · rintro (h | ⟨i,I,aa,aq,a'⟩)
       · exact .inl h
       · by_cases e:i=j
         · subst e
           rw [ay] at aq
           cases aq
         · exact .inr ⟨i,by omega,by omega,aq,a'⟩
def tZ (k:aP) (W:List Int) (a u:Nat) (D:Nat->Bool):Nat->Bool:=tY k (wd W a) u 0 (wd W (a+ 1)).toNat D
theorem C' {k:aP} {W:List Int} {a u:Nat} {D:Nat->Bool} {p:Nat}:tZ k W a u D p=true ↔ D p=true\/ ∃ i,i <(wd W (a+ 1)).toNat/\eN k (wd W a) i=true/\p=u+ 3 +i:=by
 unfold tZ
 rw [Wh]
 constructor
 · rintro (h | ⟨i,_,aa,aq,a'⟩)
   · exact .inl h
   · exact .inr ⟨i,by omega,aq,a'⟩
 · rintro (h | ⟨i,aa,aq,a'⟩)
   · exact .inl h
   · exact .inr ⟨i,Nat.zero_le _,by omega,aq,a'⟩
section
variable {F:Nat} {h:aV} {k:aP} {Y O:List Int} {ol yt nx:Int} {nt:List Int}
theorem abI (az:10000 <F) (g:J.Good F h k Y O) {t0:Nat} (iW:h.aU=(t0:Int)) (gI:∀ cQ,Ord Y cQ->bV h.Words t0 cQ<=h.Words.length) {a u:Nat} (aK:(a:Int) ∈ Y++O) (hu:h.ar <(u:Int)) {o:List Int} {D:Nat->Bool} {cy:List Int} (ap:Ord Y o) (hi:Inv h.Words h.ar t0 o D cy)
 (ah:∀ i,i <sz h.Words (a:Int)->eZ h.Words t0 o (u+i)=wd h.Words (a+i)) (Eh:u+sz h.Words (a:Int)<=bV h.Words t0 o) (dU:∀ i,i <sz h.Words (a:Int)->D (u+i)=false) :
 ∃ gD,Gt F (u:Int) k.a4 k.a0 k.Fields k.Names k.a1 h.ar ol yt ((bV h.Words t0 o:Nat):Int) nt nx cy (o.zip (news h.Words t0 o))=some ((),((),k.a4,k.a0,k.Fields,k.Names,k.a1,(),()),((),h.ar,ol,yt,((bV h.Words t0 ((gN k h.Words (a:Int)).foldl (cc h.ar) o):Nat):Int),nt,nx,()),gD,((gN k h.Words (a:Int)).foldl (cc h.ar) o).zip (news h.Words t0 ((gN k h.Words (a:Int)).foldl (cc h.ar) o)),()) /\
   Inv h.Words h.ar t0 ((gN k h.Words (a:Int)).foldl (cc h.ar) o) (tZ k h.Words a u D) gD:=by
 have A1:=g.s.hE
 have Eg:=g.l.FJ _ aK
 rw [Int.toNat_natCast] at Eg
 have n9:=(m5.1 Eg.2).1
 obtain ⟨len,hlen⟩:∃ len:Nat,wd h.Words (a+ 1)=(len:Int):=⟨(wd h.Words (a+ 1)).toNat,by omega⟩
 have cX:sz h.Words (a:Int)= 3 +len:=by unfold sz;rw [Int.toNat_natCast,hlen,Int.toNat_natCast]
 rw [cX] at ah Eh dU
 have Y0:=gI o ap
 obtain ⟨nT,b9,cJ⟩:=awV (F:=F) (ol:=ol) (yt:=yt) (nx:=nx) (nt:=nt) g iW gI aK hu hlen len 0 F o D cy (by omega) (by omega) ap hi ah (by omega) (fun i I=>dU i (by omega)) (fun i _ aa=>by rw [show u+ 3 +i=u+(3 +i) by omega];exact dU (3 +i) (by omega))
 have e:np k h.Words a 0 len=gN k h.Words (a:Int):=by rw [<-axo,hlen,Int.toNat_natCast]
 rw [e] at b9 cJ
 refine ⟨nT,?_,by unfold tZ;rw [hlen,Int.toNat_natCast];exact cJ⟩
 have Bh:u<= 100000 :=by omega
 have qT:u+ 1 <cy.length:=by rw [hi.len];omega
 have hw:wd cy (u+ 1)=(len:Int):=by
  rw [hi.wA _ (by omega),if_neg (by rw [dU 1 (by omega)];simp),ah 1 (by omega),hlen]
 unfold Gt
 rw [j6 Bh,gp qT,Option.bind_some,hw]
 have auU:w8 F F (u:Int) (len:Int) 0 k.a4 k.a0 k.Fields k.Names k.a1 h.ar ol yt ((bV h.Words t0 o:Nat):Int) nt nx cy (o.zip (news h.Words t0 o))=_:=b9
 rw [auU,Option.bind_some]
end
end Go.Proofs.YteeliipnilghaaaGreat
namespace Go.Proofs.YteeliipnilghaaaGreat
open J
def nw (n:Nat):List Int:=(List.range n).map fun (x:Nat)=>(x:Int)
theorem acL {n:Nat}:(nw n).length=n:=by simp [nw]
theorem ax9 {n i:Nat} (h:i <n):(nw n)[i]? =some (i:Int):=by
 unfold nw
 rw [List.getElem?_map,List.getElem?_range h]
 rfl
theorem auk {n:Nat} (aA:n<= 5000):∀ (d i f:Nat),i+d=n->d <f->J.p' (n:Int) f (nw i) (i:Int)=some (nw n):=by
 intro d
 induction d with
 | zero=>
   intro i f h af
   obtain ⟨f,rfl⟩:∃ bG,f=bG+ 1 :=⟨f - 1,by omega⟩
   have:i=n:=by omega
   subst this
   rw [J.p',bE,cond_false]
 | succ d ba=>
   intro i f h af
   obtain ⟨f,rfl⟩:∃ bG,f=bG+ 1 :=⟨f - 1,by omega⟩
   have hi:i <n:=by omega
   have pv:i<= 100000 :=by omega
   have sn:bR 8 (nw i) [(i:Int)]=some (nw (i+ 1)):=by
    unfold bR
    rw [if_pos (by rw [acL];simp only [List.length_singleton];omega)]
    unfold nw
    rw [List.range_succ,List.map_append]
    rfl
   rw [J.p',bF hi,cond_true,sn,Option.bind_some,j6 pv]
   exact ba (i+ 1) f (by omega) (by omega)
theorem auj {F n:Nat} (aA:n<= 5000) (az:10000 <F):J.rJ F (n:Int)=some (nw n):=auk aA n 0 F (by omega) (by omega)
theorem acz {W:List Int} {t0:Nat} {y v:Int} {o:List Int} (ag:v= 0 \/v ∈ o\/y <v):∀ {t:List Int},(∀ b ∈ t,b<=y)->ej (o++t) (news W t0 (o++t)) v=ej o (news W t0 o) v:=by
 intro t
 induction t generalizing o with
 | nil=>intro _;rw [List.append_nil]
 | cons b r ba=>
   intro ah
   rw [show o++b::r=(o++[b])++r by simp]
   rw [ba (o:=o++[b]) (by
    rcases ag with e | e | e
    · exact .inl e
    · exact .inr (.inl (List.mem_append_left _ e))
    · exact .inr (.inr e)) (fun c hc=>ah c (by simp [hc]))]
   rw [Jp,acw Jq (by
    rcases ag with e | e | e
    · exact .inl e
    · exact .inr (.inl e)
    · have:=ah b (by simp);exact .inr (.inr (by omega)))]
end Go.Proofs.YteeliipnilghaaaGreat
namespace Go.Proofs.YteeliipnilghaaaGreat
open J
section
variable {F:Nat} {h:aV} {k:aP} {Y O:List Int} {c1:List al} {c2:List Int} {c3:List (List J.Field)} {c4:List (List (List UInt8))} {c5:List (List J.Target)} {ol yt nx bg:Int} {nt:List Int}
theorem axe (g:J.Good F h k Y O) {t0:Nat} (iW:h.aU=(t0:Int)) (gI:∀ cQ,Ord Y cQ->bV h.Words t0 cQ<=h.Words.length) {D:Nat->Bool} {roots:List Int} (aA:roots.length<= 5000) (ay:∀ v ∈ roots,v= 0 \/v ∈ Y++O) :
 ∀ (d i f:Nat) (o cy rs:List Int),i+d=roots.length->d <f->Ord Y o->Inv h.Words h.ar t0 o D cy->rs=(roots.take i).map (ej o (news h.Words t0 o))++roots.drop i->(∀ v ∈ roots.take i,v= 0 \/v ∈ o\/h.ar <v) ->
 ∃ gD,z1 F f bg (nw roots.length) (roots.length:Int) (i:Int) h.ar ol yt ((bV h.Words t0 o:Nat):Int) nt nx cy c1 c2 c3 c4 c5 (o.zip (news h.Words t0 o)) rs=some (((),(),bg,()),((),h.ar,ol,yt,((bV h.Words t0 ((roots.drop i).foldl (cc h.ar) o):Nat):Int),nt,nx,()),gD,((),c1,c2,c3,c4,c5,(),()),((roots.drop i).foldl (cc h.ar) o).zip (news h.Words t0 ((roots.drop i).foldl (cc h.ar) o)),roots.map (ej ((roots.drop i).foldl (cc h.ar) o) (news h.Words t0 ((roots.drop i).foldl (cc h.ar) o))),()) /\
   Inv h.Words h.ar t0 ((roots.drop i).foldl (cc h.ar) o) D gD:=by
 intro d
 induction d with
 | zero=>
   intro i f o cy rs aL af ap hi qS ag
   obtain ⟨f,rfl⟩:∃ bG,f=bG+ 1 :=⟨f - 1,by omega⟩
   have:i=roots.length:=by omega
   subst this
   refine ⟨cy,?_,by rw [List.drop_length];exact hi⟩
   rw [z1,bE,cond_false,qS,List.drop_length,List.take_length,List.append_nil]
   rfl
 | succ d ba=>
   intro i f o cy rs aL af ap hi qS ag
   obtain ⟨f,rfl⟩:∃ bG,f=bG+ 1 :=⟨f - 1,by omega⟩
   have cA:i <roots.length:=by omega
   have pv:i<= 100000 :=by omega
   have hZ:roots[i] ∈ roots:=List.getElem_mem cA
   have yI:=ay _ hZ
   have yG:((roots.take i).map (ej o (news h.Words t0 o))).length=i:=by simp;omega
   have ad:rs[i]? =some roots[i]:=by
    rw [qS,List.getElem?_append_right (by omega),yG,Nat.sub_self,List.drop_eq_getElem_cons cA]
    rfl
   obtain ⟨hV,dd,dY⟩:=Z7 (F:=F) (c1:=c1) (c2:=c2) (c3:=c3) (c4:=c4) (c5:=c5) (ol:=ol) (yt:=yt) (nx:=nx) (nt:=nt) g iW ap hi yI gI
   have mS:Ord Y (cc h.ar o roots[i]):=ap.cc (nH g yI)
   obtain ⟨Tb,Py⟩:=Sz (y:=h.ar) (a:=roots[i]) (o:=o)
   have aqu:∀ b ∈ Tb,b<=h.ar:=fun b ah=>by
    have I:=CC g (mS.sub b (by rw [Py];exact List.mem_append_right _ ah))
    have aq:3 <=sz h.Words b:=by unfold sz;omega
    omega
   have apY:roots[i]= 0 \/roots[i] ∈ cc h.ar o roots[i]\/h.ar <roots[i]:=by
    rcases yI with e | e
    · exact .inl e
    · by_cases hy:h.ar <roots[i]
      · exact .inr (.inr hy)
      · exact .inr (.inl (Sy (g.l.fit g.s _ e).1 (by omega)))
   obtain ⟨nT,b9,cJ⟩:=ba (i+ 1) f (cc h.ar o roots[i]) hV (rs.set i (ej (cc h.ar o roots[i]) (news h.Words t0 (cc h.ar o roots[i])) roots[i])) (by omega) (by omega) mS dY (by
    rw [qS,List.set_append_right _ _ (by omega),yG,Nat.sub_self,List.drop_eq_getElem_cons cA,List.set_cons_zero,List.take_succ_eq_append_getElem cA,List.map_append,List.append_assoc]
    congr 1
    refine List.map_congr_left fun v fc=>?_
    have:=acz (W:=h.Words) (t0:=t0) (o:=o) (ag v fc) aqu
    rw [Py]
    exact this.symm) (fun v fc=>by
     rw [List.take_succ_eq_append_getElem cA] at fc
     rcases List.mem_append.1 fc with fc | fc
     · rcases ag v fc with e | e | e
       · exact .inl e
       · exact .inr (.inl (by rw [Py];exact List.mem_append_left _ e))
       · exact .inr (.inr e)
     · cases List.mem_singleton.1 fc;exact apY)
   refine ⟨nT,?_,by rw [List.drop_eq_getElem_cons cA,List.foldl_cons];exact cJ⟩
   rw [z1,bF cA,cond_true,bm (ax9 cA),Option.bind_some,bm ad,Option.bind_some,dd,Option.bind_some]
   dsimp only
   rw [j6 pv,Int.toNat_natCast,List.drop_eq_getElem_cons cA,List.foldl_cons]
   exact b9
end
end Go.Proofs.YteeliipnilghaaaGreat
namespace Go.Proofs.YteeliipnilghaaaGreat
open J
section
variable {F:Nat} {h:aV} {k:aP} {Y O:List Int} {ol yt nx bg:Int} {nt:List Int}
theorem axf (az:10000 <F) (g:J.Good F h k Y O) {t0:Nat} (iW:h.aU=(t0:Int)) (gI:∀ cQ,Ord Y cQ->bV h.Words t0 cQ<=h.Words.length) {l:List Int} (aA:l.length<= 5000) (ak:∀ x ∈ l,x ∈ O) (sD:l.Nodup) :
 ∀ (d i f:Nat) (o:List Int) (D:Nat->Bool) (cy:List Int),i+d=l.length->d <f->Ord Y o->Inv h.Words h.ar t0 o D cy->(∀ x ∈ l.drop i,∀ m,m <sz h.Words x->D (x.toNat+m)=false) ->
 ∃ gD,z2 F f bg l (l.length:Int) (i:Int) h.ar ol yt ((bV h.Words t0 o:Nat):Int) nt nx cy k.a4 k.a0 k.Fields k.Names k.a1 (o.zip (news h.Words t0 o))=some (((),(),bg,()),((),h.ar,ol,yt,((bV h.Words t0 (((l.drop i).flatMap (gN k h.Words)).foldl (cc h.ar) o):Nat):Int),nt,nx,()),gD,((),k.a4,k.a0,k.Fields,k.Names,k.a1,(),()),(((l.drop i).flatMap (gN k h.Words)).foldl (cc h.ar) o).zip (news h.Words t0 (((l.drop i).flatMap (gN k h.Words)).foldl (cc h.ar) o)),()) /\
   Inv h.Words h.ar t0 (((l.drop i).flatMap (gN k h.Words)).foldl (cc h.ar) o) ((l.drop i).foldl (fun D x=>tZ k h.Words x.toNat x.toNat D) D) gD:=by
 intro d
 induction d with
 | zero=>
   intro i f o D cy aL af ap hi dU
   obtain ⟨f,rfl⟩:∃ bG,f=bG+ 1 :=⟨f - 1,by omega⟩
   have:i=l.length:=by omega
   subst this
   refine ⟨cy,?_,by rw [List.drop_length];exact hi⟩
   rw [z2,bE,cond_false,List.drop_length]
   rfl
 | succ d ba=>
   intro i f o D cy aL af ap hi dU
   obtain ⟨f,rfl⟩:∃ bG,f=bG+ 1 :=⟨f - 1,by omega⟩
   have cA:i <l.length:=by omega
   have pv:i<= 100000 :=by omega
   have hZ:l[i] ∈ l:=List.getElem_mem cA
   have hJ:=ak _ hZ
   have OE:l[i] ∈ Y++O:=List.mem_append_right Y hJ
   obtain ⟨bk,bH⟩:=g.l.kD g.s _ hJ
   obtain ⟨⟨⟨bX,eb⟩,gk,gE⟩,kj,⟨r6,o7⟩,⟨kl,r7⟩,uy⟩:=g.s
   obtain ⟨a,aK⟩:∃ a:Nat,l[i]=(a:Int):=⟨l[i].toNat,by omega⟩
   have aos:∀ m,m <sz h.Words (a:Int)->D (a+m)=false:=fun m hm=>by
    have:=dU l[i] (by rw [List.drop_eq_getElem_cons cA];exact List.mem_cons_self) m (by rw [aK];exact hm)
    rwa [aK,Int.toNat_natCast] at this
   have fx:=lq (W:=h.Words) (o:=o) (t:=t0)
   have ik:a+sz h.Words (a:Int)<=t0:=by
    rw [aK,Int.toNat_natCast] at bH
    unfold sz
    rw [Int.toNat_natCast]
    omega
   obtain ⟨hV,dd,dY⟩:=abI (ol:=ol) (yt:=yt) (nx:=nx) (nt:=nt) az g iW gI (a:=a) (u:=a) (by rw [<-aK];exact OE) (by omega) ap hi (fun m hm=>by unfold eZ;rw [if_pos (by omega)]) (by omega) aos
   have mS:Ord Y ((gN k h.Words (a:Int)).foldl (cc h.ar) o):=ap.fold fun v ag=>nH g (B3 g (by rw [<-aK];exact OE) v ag)
   obtain ⟨nT,b9,cJ⟩:=ba (i+ 1) f _ _ hV (by omega) (by omega) mS dY (fun x ad m hm=>by
    have ob:x ∈ l:=List.mem_of_mem_drop ad
    have b2:l[i]≠x:=fun e=>by
     have I:(l.drop i).Nodup:=sD.sublist (List.drop_sublist _ _)
     rw [List.drop_eq_getElem_cons cA] at I
     exact (List.nodup_cons.1 I).1 (by rw [e];exact ad)
    rw [Bool.eq_false_iff]
    intro hc
    rcases C'.1 hc with hc | ⟨j,I,aa,aq⟩
    · have:=dU x (by rw [List.drop_eq_getElem_cons cA];exact List.mem_cons_of_mem _ ad) m hm
      rw [this] at hc
      cases hc
    · have:=g.l.apart g.s _ OE _ (List.mem_append_right Y (ak _ ob)) b2
      rw [aK,Int.toNat_natCast] at this
      unfold sz at hm
      omega)
   refine ⟨nT,?_,?_⟩
   · rw [z2,bF cA,cond_true,bm (List.getElem?_eq_getElem cA),Option.bind_some,aK,dd,Option.bind_some]
     dsimp only
     rw [j6 pv,List.drop_eq_getElem_cons cA,List.flatMap_cons,List.foldl_append,aK]
     exact b9
   · rw [List.drop_eq_getElem_cons cA,List.flatMap_cons,List.foldl_append,List.foldl_cons,aK,Int.toNat_natCast]
     exact cJ
end
end Go.Proofs.YteeliipnilghaaaGreat
namespace Go.Proofs.YteeliipnilghaaaGreat
open J
theorem acu {W:List Int} {t i:Nat} {o:List Int} (hi:i <o.length):bV W t (o.take (i+ 1))=bV W t (o.take i)+sz W o[i]:=by
 rw [List.take_succ_eq_append_getElem hi,Cd]
theorem acv {W:List Int} {t i:Nat} {o:List Int}:bV W t (o.take i)<=bV W t o:=by
 conv=>rhs;rw [<-List.take_append_drop i o,Ks]
 exact lq
theorem Vt {W:List Int}:∀ {o:List Int} {t i m:Nat} (hi:i <o.length),m <sz W o[i]->base W t o (bV W t (o.take i)+m)=wd W (o[i].toNat+m)
 | [],t,i,m,hi,_=>by simp at hi
 | a::r,t,0,m,hi,hm=>by
   have hm:m <sz W a:=hm
   show base W t (a::r) (t+m)=wd W (a.toNat+m)
   rw [base,if_pos (by omega),Nat.add_sub_cancel_left]
 | a::r,t,i+ 1,m,hi,hm=>by
   have I:i <r.length:=by simpa using hi
   have hm:m <sz W r[i]:=hm
   show base W t (a::r) (bV W (t+sz W a) (r.take i)+m)=wd W (r[i].toNat+m)
   have:=lq (W:=W) (o:=r.take i) (t:=t+sz W a)
   rw [base,if_neg (by omega)]
   exact Vt I hm
theorem XC {W:List Int} {o:List Int} {t i m:Nat} (hi:i <o.length) (hm:m <sz W o[i]):eZ W t o (bV W t (o.take i)+m)=wd W (o[i].toNat+m):=by
 have:=lq (W:=W) (o:=o.take i) (t:=t)
 unfold eZ
 rw [if_neg (by omega)]
 exact Vt hi hm
section
variable {F:Nat} {h:aV} {k:aP} {Y O:List Int} {ol yt nx:Int} {nt:List Int}
theorem axg (az:10000 <F) (g:J.Good F h k Y O) {t0:Nat} (iW:h.aU=(t0:Int)) (gI:∀ cQ,Ord Y cQ->bV h.Words t0 cQ<=h.Words.length) :
 ∀ (d i f:Nat) (o:List Int) (D:Nat->Bool) (cy:List Int),Y.length <i+d->d <f->i<=o.length->Ord Y o->Inv h.Words h.ar t0 o D cy->(∀ p,bV h.Words t0 (o.take i)<=p->D p=false) ->
 ∃ gD UZ,z3 F f ((bV h.Words t0 (o.take i):Nat):Int) h.ar ol yt ((bV h.Words t0 o:Nat):Int) nt nx cy k.a4 k.a0 k.Fields k.Names k.a1 (o.zip (news h.Words t0 o))=some (((),()),((),h.ar,ol,yt,((bV h.Words t0 (scan k h.Words h.ar d i o):Nat):Int),nt,nx,()),gD,((),k.a4,k.a0,k.Fields,k.Names,k.a1,(),()),(scan k h.Words h.ar d i o).zip (news h.Words t0 (scan k h.Words h.ar d i o)),()) /\
   Inv h.Words h.ar t0 (scan k h.Words h.ar d i o) UZ gD/\(∃ t,scan k h.Words h.ar d i o=o++t) /\
   ∀ p,UZ p=true ↔ D p=true\/ ∃ (j:Nat) (a:Int),i<=j/\(scan k h.Words h.ar d i o)[j]? =some a/\ ∃ m,m <(wd h.Words (a.toNat+ 1)).toNat/\eN k (wd h.Words a.toNat) m=true/\p=bV h.Words t0 ((scan k h.Words h.ar d i o).take j)+ 3 +m:=by
 intro d
 have iQ:=AF g.jJ g
 have A1:=g.s.hE
 induction d with
 | zero=>
   intro i f o D cy hi af DS ap
   have:=ap.len
   omega
 | succ d ba=>
   intro i f o D cy aL af DS ap hi dU
   obtain ⟨f,rfl⟩:∃ bG,f=bG+ 1 :=⟨f - 1,by omega⟩
   rcases Nat.lt_or_ge i o.length with cA | cA
   · have ad:o[i]? =some o[i]:=List.getElem?_eq_getElem cA
     have YO:o[i] ∈ Y:=ap.sub _ (List.getElem_mem cA)
     have hZ:o[i] ∈ Y++O:=List.mem_append_left O YO
     obtain ⟨dk,jv,p_⟩:=CC g YO
     obtain ⟨⟨⟨bX,eb⟩,gk,gE⟩,kj,⟨r6,o7⟩,⟨kl,r7⟩,uy⟩:=g.s
     obtain ⟨a,aK⟩:∃ a:Nat,o[i]=(a:Int):=⟨o[i].toNat,by omega⟩
     have n9:=(m5.1 (g.l.FJ _ hZ).2).1
     rw [aK,Int.toNat_natCast] at n9
     obtain ⟨n,aA⟩:∃ n:Nat,wd h.Words (a+ 1)=(n:Int):=⟨(wd h.Words (a+ 1)).toNat,by omega⟩
     have Pw:sz h.Words (a:Int)= 3 +n:=by unfold sz;rw [Int.toNat_natCast,aA,Int.toNat_natCast]
     have Iu:=acu (W:=h.Words) (t:=t0) cA
     rw [aK,Pw] at Iu
     have aCU:=acv (W:=h.Words) (t:=t0) (i:=i+ 1) (o:=o)
     have Ef:=lq (W:=h.Words) (t:=t0) (o:=o.take i)
     have Y0:=gI o ap
     obtain ⟨u,hu⟩:∃ u,u=bV h.Words t0 (o.take i):=⟨_,rfl⟩
     rw [<-hu] at Iu dU Ef ⊢
     have yr:∀ m,m <sz h.Words (a:Int)->eZ h.Words t0 o (u+m)=wd h.Words (a+m):=fun m hm=>by
      have:=XC (W:=h.Words) (t:=t0) (m:=m) cA (by rw [aK];exact hm)
      rw [<-hu,aK,Int.toNat_natCast] at this
      exact this
     obtain ⟨hV,dd,dY⟩:=abI (ol:=ol) (yt:=yt) (nx:=nx) (nt:=nt) az g iW gI (a:=a) (u:=u) (by rw [<-aK];exact hZ) (by omega) ap hi yr (by rw [Pw];omega) (fun m _=>dU _ (by omega))
     have mS:Ord Y ((gN k h.Words (a:Int)).foldl (cc h.ar) o):=ap.fold fun v ag=>nH g (B3 g (by rw [<-aK];exact hZ) v ag)
     obtain ⟨dz,k5⟩:∃ dz,dz=(gN k h.Words (a:Int)).foldl (cc h.ar) o:=⟨_,rfl⟩
     rw [<-k5] at dd dY mS
     obtain ⟨t,aJ⟩:=Dj (y:=h.ar) (l:=gN k h.Words (a:Int)) (o:=o)
     rw [<-k5] at aJ
     have Y6:dz.take (i+ 1)=o.take (i+ 1):=by rw [aJ,List.take_append_of_le_length (by omega)]
     have aCR:=gI dz mS
     have aqr:bV h.Words t0 o<=bV h.Words t0 dz:=by rw [aJ,Ks];exact lq
     obtain ⟨nT,akH,b9,cJ,⟨t2,hg⟩,rk⟩:=ba (i+ 1) f dz (tZ k h.Words a u D) hV (by omega) (by omega) (by rw [aJ,List.length_append];omega) mS dY (fun p aD=>by
      rw [Y6,Iu] at aD
      rw [Bool.eq_false_iff]
      intro hc
      rcases C'.1 hc with hc | ⟨m,I,aa,aq⟩
      · rw [dU p (by omega)] at hc
        cases hc
      · rw [aA,Int.toNat_natCast] at I
        omega)
     have Pu:scan k h.Words h.ar (d+ 1) i o=scan k h.Words h.ar d (i+ 1) dz:=by rw [scan,ad,aK,k5]
     rw [Y6,Iu] at b9
     rw [Pu]
     refine ⟨nT,akH,?_,cJ,⟨t++t2,by rw [hg,aJ,List.append_assoc]⟩,fun p=>?_⟩
     · have qT:u+ 1 <hV.length:=by rw [dY.len];omega
       have Bh:u<= 100000 :=by omega
       have aqx:u+(3 +n)<= 100000 :=by omega
       have Bi:wd hV (u+ 1)=(n:Int):=by
        rw [dY.wA _ (by omega),if_neg (by
         intro hc
         rcases C'.1 hc with hc | ⟨m,I,aa,aq⟩
         · rw [dU (u+ 1) (by omega)] at hc
           cases hc
         · omega),aJ,XD (by omega),yr 1 (by rw [Pw];omega),aA]
       have aq:3 +n<= 100000 :=by omega
       have bs:((u:Nat):Int) <((bV h.Words t0 o:Nat):Int):=by omega
       rw [z3,decide_eq_true bs,cond_true,dd,Option.bind_some]
       dsimp only
       rw [j6 Bh,gp qT,Option.bind_some,Bi,show J.aE (3 +(n:Int))=((3 +n:Nat):Int) from lv (a:=3) aq,lv aqx]
       exact b9
     · rw [rk p,C']
       have Y2:(scan k h.Words h.ar d (i+ 1) dz)[i]? =some (a:Int):=by
        rw [hg,aJ,List.append_assoc,List.getElem?_append_left (by omega),ad,aK]
       have Y3:(scan k h.Words h.ar d (i+ 1) dz).take i=o.take i:=by
        rw [hg,aJ,List.append_assoc,List.take_append_of_le_length (by omega)]
       constructor
       · rintro ((hc | ⟨m,I,aa,aq⟩) | ⟨j,b,I,aa,aq⟩)
         · exact .inl hc
         · exact .inr ⟨i,(a:Int),Nat.le_refl _,Y2,m,by rw [Int.toNat_natCast];exact I,by rw [Int.toNat_natCast];exact aa,by rw [Y3,<-hu];exact aq⟩
         · exact .inr ⟨j,b,by omega,aa,aq⟩
       · rintro (hc | ⟨j,b,I,aa,m,aq,a',c8⟩)
         · exact .inl (.inl hc)
         · by_cases e:j=i
           · subst e
             rw [Y2] at aa
             cases aa
             rw [Int.toNat_natCast] at aq a'
             rw [Y3,<-hu] at c8
             exact .inl (.inr ⟨m,aq,a',c8⟩)
           · exact .inr ⟨j,b,by omega,aa,m,aq,a',c8⟩
   · have:i=o.length:=by omega
     subst this
     have Pu:scan k h.Words h.ar (d+ 1) o.length o=o:=by rw [scan,List.getElem?_eq_none (Nat.le_refl _)]
     rw [Pu,List.take_length]
     refine ⟨cy,D,?_,hi,⟨[],by simp⟩,fun p=>⟨.inl,?_⟩⟩
     · rw [z3,decide_eq_false (by omega),cond_false]
     · rintro (hc | ⟨j,b,I,aa,_⟩)
       · exact hc
       · rw [List.getElem?_eq_none I] at aa
         cases aa
end
end Go.Proofs.YteeliipnilghaaaGreat
namespace Go.Proofs.YteeliipnilghaaaGreat
open J
theorem axH {l:List Int} (h:ur l):l.Nodup:=by
 rw [List.nodup_iff_pairwise_ne,List.pairwise_iff_getElem]
 intro i j hi aC yv e
 have:=h i j yv aC
 rw [lx (List.getElem?_eq_getElem hi),lx (List.getElem?_eq_getElem aC)] at this
 omega
theorem Mz {k:aP} {W:List Int} {p:Nat}:∀ {l:List Int} {D:Nat->Bool},l.foldl (fun D x=>tZ k W x.toNat x.toNat D) D p=true ↔ D p=true\/ ∃ x ∈ l,∃ i,i <(wd W (x.toNat+ 1)).toNat/\eN k (wd W x.toNat) i=true/\p=x.toNat+ 3 +i
 | [],D=>by simp
 | y::r,D=>by
   rw [List.foldl_cons,Mz (l:=r),C']
   constructor
   · rintro ((h | ⟨i,h⟩) | ⟨x,ad,h⟩)
     · exact .inl h
     · exact .inr ⟨y,List.mem_cons_self,i,h⟩
     · exact .inr ⟨x,List.mem_cons_of_mem _ ad,h⟩
   · rintro (h | ⟨x,ad,h⟩)
     · exact .inl (.inl h)
     · rcases List.mem_cons.1 ad with rfl | ad
       · exact .inl (.inr h)
       · exact .inr ⟨x,ad,h⟩
theorem XN {y v:Int}:∀ {l o:List Int},v ∈ l-> 1 <=v->v<=y->v ∈ l.foldl (cc y) o
 | a::r,o,ag,I,aa=>by
   rw [List.foldl_cons]
   rcases List.mem_cons.1 ag with rfl | ag
   · obtain ⟨t,aJ⟩:=Dj (y:=y) (l:=r) (o:=cc y o v)
     rw [aJ]
     exact List.mem_append_left _ (Sy I aa)
   · exact XN ag I aa
structure Vf (k:aP) (W:List Int) (t0:Nat) (nt o:List Int) (p:Nat):Prop where
 it:(∃ x ∈ nt,∃ i,i <(wd W (x.toNat+ 1)).toNat/\eN k (wd W x.toNat) i=true/\p=x.toNat+ 3 +i) \/
  ∃ (j:Nat) (a:Int),o[j]? =some a/\ ∃ m,m <(wd W (a.toNat+ 1)).toNat/\eN k (wd W a.toNat) m=true/\p=bV W t0 (o.take j)+ 3 +m
section
variable {F:Nat} {h:aV} {k:aP} {Y O:List Int}
theorem run_eq (az:10000 <F) (g:J.Good F h k Y O) {t0:Nat} (iW:h.aU=(t0:Int)) (gI:∀ cQ,Ord Y cQ->bV h.Words t0 cQ<=h.Words.length) {roots:List Int} (ak:roots.length<= 5000) (ay:∀ v ∈ roots,v= 0 \/v ∈ Y++O) :
 ∃ (gD:List Int) (D:Nat->Bool),z0 F k.a4 k.a0 k.Fields k.Names k.a1 (nw roots.length) h.ar h.aO h.aZ h.aU h.aS h.Next h.Words roots=some ((),((),h.ar,h.aO,1,((bV h.Words t0 (order k h Y roots):Nat):Int),[],h.Next,()),gD,roots.map (ej (order k h Y roots) (news h.Words t0 (order k h Y roots))),()) /\
   gD.length=h.Words.length /\
   (∀ p:Nat,p <h.Words.length->wd gD p=if 1 <=p/\(p:Int)<=h.ar then 0 else if D p=true then ej (order k h Y roots) (news h.Words t0 (order k h Y roots)) (eZ h.Words t0 (order k h Y roots) p) else eZ h.Words t0 (order k h Y roots) p) /\
   (∀ p:Nat,D p=true ↔ Vf k h.Words t0 h.aS (order k h Y roots) p)/\ ∀ p:Nat,D p=true->h.ar <(p:Int)/\p <bV h.Words t0 (order k h Y roots):=by
 have A1:=g.s.hE
 have aA:=g.Jv
 have iQ:=AF g.jJ g
 have mS:=Q_ g ay
 have OC:=Q' g ay
 obtain ⟨⟨⟨bX,eb⟩,gk,gE⟩,kj,⟨r6,o7⟩,⟨kl,r7⟩,uy⟩:=id g.s
 unfold okB at kj
 have DR:Inv h.Words h.ar t0 [] (fun _=>false) h.Words:=⟨rfl,fun p aD=>by
  rw [if_neg (by simp)]
  unfold eZ
  by_cases va:p <t0
  · rw [if_pos va]
  · rw [if_neg va]
    exact g.ok.a_ p aD (.inr (.inr (by omega))),fun p aD=>by cases aD⟩
 obtain ⟨hV,l1,cj⟩:=axe (F:=F) (c1:=k.a4) (c2:=k.a0) (c3:=k.Fields) (c4:=k.Names) (c5:=k.a1) (ol:=h.aO) (yt:=h.aZ) (nx:=h.Next) (nt:=h.aS) (bg:=h.aU) g iW gI ak ay roots.length 0 F [] h.Words roots (by omega) (by omega) Ord.nil DR (by simp) (by simp)
 rw [List.drop_zero] at l1 cj
 obtain ⟨dz,k5⟩:∃ dz,dz=roots.foldl (cc h.ar) []:=⟨_,rfl⟩
 rw [<-k5] at l1 cj mS
 obtain ⟨nT,dd,dY⟩:=axf (ol:=h.aO) (yt:=h.aZ) (nx:=h.Next) (nt:=h.aS) (bg:=h.aU) az g iW gI (l:=h.aS) aA (fun x ad=>(g.ok.nt x ad).1) (axH g.ok.S6) h.aS.length 0 F dz (fun _=>false) hV (by omega) (by omega) mS cj (fun _ _ _ _=>rfl)
 rw [List.drop_zero] at dd dY
 obtain ⟨c9,Pn⟩:∃ c9,c9=(h.aS.flatMap (gN k h.Words)).foldl (cc h.ar) dz:=⟨_,rfl⟩
 rw [<-k5] at OC
 rw [<-Pn] at dd dY OC
 have aot:∀ p,h.aS.foldl (fun D x=>tZ k h.Words x.toNat x.toNat D) (fun _=>false) p=true->p <t0:=fun p aD=>by
  rcases Mz.1 aD with aD | ⟨x,ad,i,I,aa,aq⟩
  · cases aD
  · have:=g.l.kD g.s x (g.ok.nt x ad).1
    omega
 obtain ⟨akS,akI,bk,bH,⟨Tb,bU⟩,fp⟩:=axg (ol:=h.aO) (yt:=h.aZ) (nx:=h.Next) (nt:=h.aS) az g iW gI (Y.length+ 1) 0 F c9 _ nT (by omega) (by omega) (Nat.zero_le _) OC dY (fun p aD=>by
  rw [List.take_zero] at aD
  have aD:t0<=p:=aD
  rw [Bool.eq_false_iff]
  intro hc
  have:=aot p hc
  omega)
 have ap2:order k h Y roots=scan k h.Words h.ar (Y.length+ 1) 0 c9:=by rw [Pn,k5];rfl
 rw [<-ap2] at bk bH bU fp
 rw [List.take_zero] at bk
 have hlen:(List.replicate (((h.ar+ 1) - 1).toNat) (0 :Int)).length=h.ar.toNat:=by rw [List.length_replicate];omega
 refine ⟨fo akS 1 (List.replicate (((h.ar+ 1) - 1).toNat) 0),akI,?_,?_,fun p aD=>?_,fun p=>?_,fun p aD=>⟨(bH.x_ p aD).1,(bH.x_ p aD).2.1⟩⟩
 · rw [iW] at l1 dd
   have arn:z1 F F (t0:Int) (nw roots.length) (roots.length:Int) 0 h.ar h.aO h.aZ (t0:Int) h.aS h.Next h.Words k.a4 k.a0 k.Fields k.Names k.a1 [] roots=_:=l1
   have Rm:z3 F F (t0:Int) h.ar h.aO h.aZ ((bV h.Words t0 c9:Nat):Int) h.aS h.Next nT k.a4 k.a0 k.Fields k.Names k.a1 (c9.zip (news h.Words t0 c9))=_:=bk
   have asN:z2 F F (t0:Int) h.aS (h.aS.length:Int) 0 h.ar h.aO h.aZ ((bV h.Words t0 dz:Nat):Int) h.aS h.Next hV k.a4 k.a0 k.Fields k.Names k.a1 (dz.zip (news h.Words t0 dz))=_:=dd
   have Ix:J.aE (h.ar+ 1)=h.ar+ 1 :=cE (by omega) (by omega)
   have aCH:=bH.len
   unfold z0
   rw [acL,iW,arn,Option.bind_some]
   dsimp only
   rw [asN,Option.bind_some]
   dsimp only
   rw [Rm,Option.bind_some]
   dsimp only
   rw [Ix,if_pos (by omega),Option.bind_some]
   unfold tr
   rw [if_pos (decide_eq_true (by omega)),Option.bind_some]
   obtain ⟨aC7,hm⟩:=Dj (y:=h.ar) (l:=h.aS.flatMap (gN k h.Words)) (o:=dz)
   rw [<-Pn] at hm
   have hOr:=aaE g ay
   have ya:roots.map (ej dz (news h.Words t0 dz))=roots.map (ej (order k h Y roots) (news h.Words t0 (order k h Y roots))):=by
    refine List.map_congr_left fun v ag=>?_
    rw [bU,hm,List.append_assoc] at hOr ⊢
    refine (acz (y:=h.ar) ?_ fun b ah=>?_).symm
    · rcases ay v ag with e | e
      · exact .inl e
      · by_cases hy:h.ar <v
        · exact .inr (.inr hy)
        · refine .inr (.inl ?_)
          rw [k5]
          exact XN ag (g.l.fit g.s v e).1 (by omega)
    · have:=CC g (hOr.sub b (List.mem_append_right _ ah))
      have aq:3 <=sz h.Words b:=by unfold sz;omega
      omega
   rw [ya]
   rfl
 · rw [BI (by rw [hlen,bH.len];omega),bH.len]
 · rw [ac5 (by rw [hlen,bH.len];omega),hlen]
   by_cases yC:1 <=p/\(p:Int)<=h.ar
   · rw [if_pos (by omega),if_pos yC]
     unfold wd
     rw [List.getElem?_replicate]
     split <;> rfl
   · rw [if_neg (by omega),if_neg yC]
     exact bH.wA p aD
 · rw [fp p,Mz]
   constructor
   · rintro ((hc | hc) | ⟨j,a,_,aa,aq⟩)
     · cases hc
     · exact ⟨.inl hc⟩
     · exact ⟨.inr ⟨j,a,aa,aq⟩⟩
   · rintro ⟨hc | ⟨j,a,aa,aq⟩⟩
     · exact .inl (.inr hc)
     · exact .inr ⟨j,a,Nat.zero_le _,aa,aq⟩
end
end Go.Proofs.YteeliipnilghaaaGreat
namespace Go.Proofs.YteeliipnilghaaaGreat
open J
theorem ayl {l m:List Int} (ak:l.length=m.length) (h:∀ p,p <l.length->wd l p=wd m p):l=m:=by
 refine List.ext_getElem ak fun i I aa=>?_
 have:=h i I
 rwa [lx (List.getElem?_eq_getElem I),lx (List.getElem?_eq_getElem aa)] at this
theorem ayf {k:aP} {W:List Int} {to q:Nat} {L:List Int} (h:J.eX k W to q L):∀ {p:Nat},q<=p->p <to-> ∃ a ∈ L,∃ i,i <sz W a/\p=a.toNat+i:=by
 induction h with
 | nil=>intro p I aa;omega
 | @cons q r I aa aq a' ba=>
   intro p aD n_
   by_cases hc:p <q+ 3 +(wd W (q+ 1)).toNat
   · exact ⟨_,List.mem_cons_self,p - q,by unfold sz;rw [Int.toNat_natCast];omega,by rw [Int.toNat_natCast];omega⟩
   · obtain ⟨a,aK,i,c8,gH⟩:=ba (p:=p) (by omega) n_
     exact ⟨a,List.mem_cons_of_mem _ aK,i,c8,gH⟩
theorem acr {W:List Int}:∀ {o:List Int} {t p:Nat},t<=p->p <bV W t o-> ∃ j,∃ aC:j <o.length,∃ i,i <sz W o[j]/\p=bV W t (o.take j)+i
 | [],t,p,I,aa=>by rw [bV] at aa;omega
 | a::r,t,p,I,aa=>by
   by_cases hc:p <t+sz W a
   · exact ⟨0,by simp,p - t,by simpa using (by omega:p - t <sz W a),by simp [bV];omega⟩
   · obtain ⟨j,aC,i,aq,a'⟩:=acr (o:=r) (t:=t+sz W a) (p:=p) (by omega) aa
     exact ⟨j+ 1,by simpa using aC,i,by simpa using aq,by simpa [bV] using a'⟩
theorem axX {W:List Int} {o:List Int} {t i i' j fM:Nat} (aC:j <o.length) (l7:fM <o.length) (hi:i <sz W o[j]) (cL:i' <sz W o[fM]) (e:bV W t (o.take j)+i=bV W t (o.take fM)+i'):j=fM:=by
 have key:∀ {a b:Nat} (aK:a <o.length),a <b->bV W t (o.take a)+sz W o[a]<=bV W t (o.take b):=fun {a b} aK DE=>by
  rw [<-acu aK]
  have:o.take (a+ 1)=(o.take b).take (a+ 1):=by rw [List.take_take,Nat.min_eq_left (by omega)]
  rw [this]
  exact acv
 rcases Nat.lt_trichotomy j fM with h | h | h
 · have:=key aC h;omega
 · exact h
 · have:=key l7 h;omega
theorem ZN {k:aP} {W o ns Z:List Int}:∀ {l:List Int} {t j m:Nat} (aC:j <l.length),laid k W o ns Z t l->m <sz W l[j]->wd Z (bV W t (l.take j)+m)=val k W o ns l[j].toNat m
 | [],t,j,m,aC,_,_=>by simp at aC
 | a::r,t,0,m,aC,ak,hm=>ak.1 m hm
 | a::r,t,j+ 1,m,aC,ak,hm=>by
   have I:j <r.length:=by simpa using aC
   exact ZN (l:=r) I ak.2 hm
section
variable {F:Nat} {h:aV} {k:aP} {Y O:List Int}
theorem axv (g:J.Good F h k Y O) {t0:Nat} (iW:h.aU=(t0:Int)) {o gD Z:List Int} {D:Nat->Bool} (ap:Ord Y o) (gI:bV h.Words t0 o<=h.Words.length)
 (hlen:gD.length=h.Words.length) (hw:∀ p:Nat,p <h.Words.length->wd gD p=if 1 <=p/\(p:Int)<=h.ar then 0 else if D p=true then ej o (news h.Words t0 o) (eZ h.Words t0 o p) else eZ h.Words t0 o p)
 (dU:∀ p,D p=true ↔ Vf k h.Words t0 h.aS o p) (Yi:∀ p:Nat,D p=true->h.ar <(p:Int)/\p <bV h.Words t0 o)
 (qa:Z.length=h.Words.length) (w9:∀ a ∈ O,∀ i,i <sz h.Words a->wd Z (a.toNat+i)=val k h.Words o (news h.Words t0 o) a.toNat i)
 (UI:laid k h.Words o (news h.Words t0 o) Z t0 o) (UJ:∀ p,(p <(h.ar+ 1).toNat\/bV h.Words t0 o<=p)->wd Z p= 0):gD=Z:=by
 refine ayl (by rw [hlen,qa]) fun p aD=>?_
 rw [hlen] at aD
 obtain ⟨⟨⟨bX,eb⟩,gk,gE⟩,kj,⟨r6,o7⟩,⟨kl,r7⟩,uy⟩:=id g.s
 have fx:=lq (W:=h.Words) (o:=o) (t:=t0)
 rw [hw p aD]
 by_cases yC:1 <=p/\(p:Int)<=h.ar
 · rw [if_pos yC,UJ p (.inl (by omega))]
 rw [if_neg yC]
 by_cases va:p= 0
 · subst va
   rw [if_neg (fun hc=>by have:=Yi 0 hc;omega),UJ 0 (.inl (by omega))]
   unfold eZ
   rw [if_pos (by omega)]
   exact g.ok.a_ 0 aD (.inl rfl)
 by_cases n_:bV h.Words t0 o<=p
 · rw [if_neg (fun hc=>by have:=Yi p hc;omega),UJ p (.inr n_)]
   unfold eZ
   rw [if_neg (by omega)]
   exact Vu n_
 by_cases ap3:p <t0
 · obtain ⟨a,aK,i,I,rfl⟩:=ayf g.l.o (p:=p) (by omega) (by omega)
   rw [w9 a aK i I]
   have yr:eZ h.Words t0 o (a.toNat+i)=wd h.Words (a.toNat+i):=by unfold eZ;rw [if_pos ap3]
   rw [yr]
   unfold val
   have Bc:D (a.toNat+i)=true ↔ a ∈ h.aS/\ 3 <=i/\eN k (wd h.Words a.toNat) (i - 3)=true:=by
    rw [dU]
    constructor
    · rintro ⟨⟨x,ad,m,dd,dY,lf⟩ | ⟨j,b,_,m,_,_,lf⟩⟩
      · have aqJ:=(g.ok.nt x ad).1
        by_cases e:a=x
        · subst e
          refine ⟨ad,by omega,?_⟩
          rw [show i - 3 =m by omega]
          exact dY
        · have:=g.l.apart g.s _ (List.mem_append_right Y aK) _ (List.mem_append_right Y aqJ) e
          unfold sz at I
          omega
      · have:=lq (W:=h.Words) (o:=o.take j) (t:=t0)
        omega
    · rintro ⟨aa,aq,a'⟩
      unfold sz at I
      exact ⟨.inl ⟨a,aa,i - 3,by omega,a',by omega⟩⟩
   by_cases ay:3 <=i/\eN k (wd h.Words a.toNat) (i - 3)=true
   · rw [if_pos ay]
     by_cases aA:a ∈ h.aS
     · rw [if_pos (Bc.2 ⟨aA,ay⟩)]
     · rw [if_neg (fun hc=>aA (Bc.1 hc).1)]
       unfold sz at I
       have hm:((a.toNat+i:Nat):Int) ∈ refs k h.Words a.toNat:=Bv.2 ⟨i - 3,by omega,ay.2,by omega⟩
       have YQ:=g.ok.must a aK aA _ hm
       have Pt:=g.ok.ref a (List.mem_append_right Y aK) _ hm
       rw [Int.toNat_natCast] at YQ Pt
       by_cases cW:wd h.Words (a.toNat+i)= 0
       · rw [cW];unfold ej;rw [if_pos rfl]
       · refine (acy fun hZ=>YQ ?_).symm
         have:=CC g (ap.sub _ hZ)
         have aq:3 <=sz h.Words (wd h.Words (a.toNat+i)):=by unfold sz;omega
         omega
   · rw [if_neg ay,if_neg (fun hc=>ay (Bc.1 hc).2)]
 · obtain ⟨j,aC,i,I,rfl⟩:=acr (W:=h.Words) (o:=o) (t:=t0) (p:=p) (by omega) (by omega)
   rw [ZN aC UI I,XC aC I]
   unfold val
   have Bc:D (bV h.Words t0 (o.take j)+i)=true ↔ 3 <=i/\eN k (wd h.Words o[j].toNat) (i - 3)=true:=by
    rw [dU]
    constructor
    · rintro ⟨⟨x,ad,m,dd,dY,lf⟩ | ⟨fM,b,ah,m,dd,dY,lf⟩⟩
      · have:=g.l.kD g.s x (g.ok.nt x ad).1
        omega
      · obtain ⟨l7,e⟩:=List.getElem?_eq_some_iff.1 ah
        have:=axX (t:=t0) aC l7 I (i':=3 +m) (by rw [e];unfold sz;omega) (by omega)
        subst this
        rw [e]
        refine ⟨by omega,?_⟩
        rw [show i - 3 =m by omega]
        exact dY
    · rintro ⟨aa,aq⟩
      unfold sz at I
      exact ⟨.inr ⟨j,o[j],List.getElem?_eq_getElem aC,i - 3,by omega,aq,by omega⟩⟩
   by_cases ay:3 <=i/\eN k (wd h.Words o[j].toNat) (i - 3)=true
   · rw [if_pos ay,if_pos (Bc.2 ay)]
   · rw [if_neg ay,if_neg (fun hc=>ay (Bc.1 hc))]
end
end Go.Proofs.YteeliipnilghaaaGreat
namespace J
section
variable {F:Nat} {k:aP} {h:aV} {Y O:List Int}
theorem axO (az:10000 <F) (g:Good F h k Y O):o1 F h k=some (Y,O,true):=by
 rcases abr (F:=F) (by omega) g.jJ g.s with ⟨CY,Aa,ak,e⟩ | ⟨iS,_⟩
 · obtain rfl:=ak.y.wy g.l.y
   obtain rfl:=ak.o.wy g.l.o
   exact e
 · exact absurd g.l (iS _ _)
def uz (Y O:List Int) (a:Int):Bool:=!decide (a= 0) && !decide (a ∈ Y++O)
def oH (Y O roots:List Int):Int:=if 1000 <(roots.length:Int) then 2 else if roots.any (uz Y O) then 5 else 0
theorem SP (az:10000 <F) (g:Good F h k Y O) (roots:List Int):w7 F (view h k Y O) roots=some (oH Y O roots):=by
 unfold w7 oH
 by_cases ak:1000 <(roots.length:Int)
 · rw [decide_eq_true ak,if_pos ak];rfl
 · rw [decide_eq_false ak,if_neg ak,cond_false]
   unfold Ki Km
   have af:=Nh (l:=roots) (L:=wq roots (view h k Y O)) (uz Y O) (by omega) (fun f i x ad=>by
    rw [wq,bF (List.getElem?_eq_some_iff.1 ad).1,cond_true,bm ad,Option.bind_some]
    unfold LK uz
    by_cases aN:x= 0
    · rw [decide_eq_true aN];rfl
    · rw [decide_eq_false aN,Bool.not_false,cond_true,Bool.true_and]
      show Option.bind (Option.bind (A4 (view h k Y O) x) _) _=_
      rw [g.dM x]
      rfl) (fun f=>by rw [wq,bE];rfl) (F:=F) (by omega)
   refine Eq.trans (congrArg (fun o=>Option.bind o fun (r:Bool)=>cond r (some (5 :Int)) (some 0)) (af:_)) ?_
   rw [Option.bind_some]
   cases roots.any (uz Y O) <;> rfl
theorem aw1 (az:10000 <F) (g:Good F h k Y O) (roots:List Int):Ag F h k roots=some (oH Y O roots):=by
 have hc:Y.length+O.length<= 5000 :=(g.l.oN g.jJ g.s).pa
 unfold Ag oH
 by_cases ak:1000 <(roots.length:Int)
 · rw [decide_eq_true ak,if_pos ak];rfl
 · rw [decide_eq_false ak,if_neg ak,cond_false]
   have e1:o1 F (⟨h.Words,h.ar,h.aO,h.aZ,h.aU,h.aS,h.Next⟩:aV) (⟨k.a4,k.a0,k.Fields,k.Names,k.a1⟩:aP)=_:=axO az g
   rw [e1,Option.bind_some]
   have dK:nP F roots (Y,O,true) F 0 =some (cn (roots.findSome? fun a=>if uz Y O a then some 5 else none)):=each _ (by omega) (fun f i x ad=>by
    rw [nP,bF (List.getElem?_eq_some_iff.1 ad).1,cond_true,bm ad,Option.bind_some,Option.bind_some]
    rw [show kg F (Y,O,true).1 x=some (decide (x ∈ Y)) from BV (l:=Y) ⟨by omega,by omega⟩ x,Option.bind_some,Option.bind_some]
    rw [show kg F (Y,O,true).2.1 x=some (decide (x ∈ O)) from BV (l:=O) ⟨by omega,by omega⟩ x,Option.bind_some]
    unfold uz
    by_cases aN:x= 0
    · rw [decide_eq_true aN];rfl
    · by_cases hy:x ∈ Y <;> by_cases ap:x ∈ O <;> simp [aN,hy,ap,gy]) (fun f=>by rw [nP,bE];rfl) (by omega)
   rw [dK,Nu]
   cases roots.any (uz Y O) <;> rfl
theorem at8 (az:10000 <F) (g:Good F h k Y O) (roots:List Int) (he:qo F h k=some 0):rR F h k roots=some (oH Y O roots):=by
 unfold rR
 have e1:qo F (⟨h.Words,h.ar,h.aO,h.aZ,h.aU,h.aS,h.Next⟩:aV) (⟨k.a4,k.a0,k.Fields,k.Names,k.a1⟩:aP)=_:=he
 have e2:Ag F (⟨h.Words,h.ar,h.aO,h.aZ,h.aU,h.aS,h.Next⟩:aV) (⟨k.a4,k.a0,k.Fields,k.Names,k.a1⟩:aP) roots=_:=aw1 az g roots
 rw [e1,Option.bind_some,e2]
 rfl
theorem at9 {e:Int} (roots:List Int) (he:qo F h k=some e) (aN:e≠ 0):rR F h k roots=some e:=by
 unfold rR
 have e1:qo F (⟨h.Words,h.ar,h.aO,h.aZ,h.aU,h.aS,h.Next⟩:aV) (⟨k.a4,k.a0,k.Fields,k.Names,k.a1⟩:aP)=_:=he
 rw [e1,Option.bind_some,decide_eq_false aN]
 rfl
theorem abL {roots:List Int} (h:oH Y O roots= 0):roots.length<= 1000 /\ ∀ a ∈ roots,a= 0 \/a ∈ Y++O:=by
 unfold oH at h
 split at h
 · cases h
 · rename_i I
   split at h
   · cases h
   · rename_i aa
     refine ⟨by omega,fun a aK=>?_⟩
     have:=List.any_eq_false.1 (Bool.eq_false_iff.2 aa) a aK
     unfold uz at this
     by_cases aN:a= 0
     · exact .inl aN
     · by_cases hm:a ∈ Y++O
       · exact .inr hm
       · simp only [Bool.and_eq_true,Bool.not_eq_true',decide_eq_false_iff_not] at this
         exact absurd ⟨aN,hm⟩ this
end
end J
namespace Go.Proofs.YteeliipnilghaaaGreat
open J
section
variable {F:Nat} {k:aP} {h:aV} {Y O:List Int}
theorem left_eq (g:J.Good F h k Y O):J.aE (J.aE (J.aE (J.aE (h.ar+h.aO)+ 1) - h.aU) - J.aE (h.aZ - 1))=h.ar+h.aO+ 1 - h.aU - (h.aZ - 1):=by
 obtain ⟨⟨⟨bX,eb⟩,gk,gE⟩,kj,⟨r6,o7⟩,⟨kl,r7⟩,uy⟩:=g.s
 rw [cE (n:=h.ar+h.aO) (by omega) (by omega),cE (n:=h.ar+h.aO+ 1) (by omega) (by omega),cE (n:=h.ar+h.aO+ 1 - h.aU) (by omega) (by omega),cE (n:=h.aZ - 1) (by omega) (by omega),cE (by omega) (by omega)]
theorem ZR (g:J.Good F h k Y O):J.aE (J.aE (J.aE (J.aE (J.aE (h.ar+h.aO)+ 1) - h.aU) - h.aZ)+ 1)=h.ar+h.aO+ 1 - h.aU - (h.aZ - 1):=by
 obtain ⟨⟨⟨bX,eb⟩,gk,gE⟩,kj,⟨r6,o7⟩,⟨kl,r7⟩,uy⟩:=g.s
 rw [cE (n:=h.ar+h.aO) (by omega) (by omega),cE (n:=h.ar+h.aO+ 1) (by omega) (by omega),cE (n:=h.ar+h.aO+ 1 - h.aU) (by omega) (by omega),cE (n:=h.ar+h.aO+ 1 - h.aU - h.aZ) (by omega) (by omega),cE (by omega) (by omega)]
 omega
theorem auc (g:J.Good F h k Y O):n6 h=some h:=by
 have I:=g.Jv;have aa:=g.s.hE
 unfold n6 Kf
 rw [hW (by simp;omega),Option.bind_some,hW (by simp;omega)]
 rfl
theorem alI (az:10000 <F) (g:J.Good F h k Y O) {roots:List Int} (ay:oH Y O roots= 0) (ak:0 <=h.ar+h.aO+ 1 - h.aU - (h.aZ - 1)) :
 ∃ (Z l:List Int) (t:Int),Z.length=h.Words.length/\l.length=roots.length /\
   rI F h.Words h.ar h.aO h.aZ h.aU h.aS h.Next k.a4 k.a0 k.Fields k.Names k.a1 roots=some (((Z,h.ar,h.aO,1,t,[],h.Next,()),l,0,()),()) /\
   ∃ q,Ah F h.Words h.ar h.aO h.aZ h.aU h.aS h.Next k.a4 k.a0 k.Fields k.Names k.a1 roots=some (((Z,h.ar,h.aO,1,t,[],h.Next,()),l,()),q):=by
 obtain ⟨aA,hm⟩:=abL ay
 obtain ⟨⟨⟨bX,eb⟩,gk,gE⟩,kj,⟨r6,o7⟩,⟨kl,r7⟩,uy⟩:=id g.s
 obtain ⟨t0,iW⟩:∃ t0:Nat,h.aU=(t0:Int):=⟨h.aU.toNat,by omega⟩
 have Ef:h.aU.toNat=t0:=by omega
 have gI:∀ cQ,Ord Y cQ->bV h.Words t0 cQ<=h.Words.length:=fun cQ iU=>by rw [<-Ef];exact aw0 g iU ak
 have hJ:=aaE g hm
 obtain ⟨W,D,b9,cJ,hg,rk,BT⟩:=run_eq az g iW gI (roots:=roots) (by omega) hm
 obtain ⟨Z,d1,d2,d3,d4,d5⟩:=awQ az g hJ (roots:=roots) (by omega) (by rw [Ef];exact gI _ hJ)
 rw [Ef] at d1 d3 d4 d5
 have hw:W=Z:=axv g iW hJ (gI _ hJ) cJ hg rk BT d2 d3 d4 d5
 subst hw
 refine ⟨W,_,_,cJ,List.length_map _,?_,_,(al5 az g g.Jv (by omega) hm).trans d1⟩
 have kn:jC F (⟨h.Words,h.ar,h.aO,h.aZ,h.aU,h.aS,h.Next⟩:aV) (⟨k.a4,k.a0,k.Fields,k.Names,k.a1⟩:aP)=_:=g.open az
 have ya:w7 F (⟨⟨h.Words,h.ar,h.aO,h.aZ,h.aU,h.aS,h.Next⟩,⟨⟨k.a4,k.a0,k.Fields,k.Names,k.a1⟩⟩,Y,O,(Y++O).map fun a=>(a,true)⟩:bc) roots=_:=SP az g roots
 have am4:n6 (⟨h.Words,h.ar,h.aO,h.aZ,h.aU,h.aS,h.Next⟩:aV)=_:=auc g
 have Hp:bR 8 [] roots=some roots:=hW (by simp;omega)
 have am9:J.rJ F (roots.length:Int)=_:=auj (by omega) az
 unfold rI
 rw [kn]
 dsimp only [iw,dx,view]
 rw [decide_eq_true (rfl:(0 :Int)= 0),cond_true,ya,Option.bind_some,ay,decide_eq_true (rfl:(0 :Int)= 0),cond_true,left_eq g,decide_eq_false (by omega),cond_false,Bool.not_true,cond_false,am4,Option.bind_some,Hp,Option.bind_some,am9,Option.bind_some]
 rw [b9,Option.bind_some]
theorem alG (az:10000 <F) {roots:List Int} {r:Option bc × Int} (e:jC F h k=some r) (I:r.1 =none) (aa:r.2 ≠ 0) :
 rI F h.Words h.ar h.aO h.aZ h.aU h.aS h.Next k.a4 k.a0 k.Fields k.Names k.a1 roots=some ((([],0,0,0,0,[],0,()),[],r.2,()),()):=by
 have kn:jC F (⟨h.Words,h.ar,h.aO,h.aZ,h.aU,h.aS,h.Next⟩:aV) (⟨k.a4,k.a0,k.Fields,k.Names,k.a1⟩:aP)=_:=e
 obtain ⟨b9,cJ⟩:=r
 obtain rfl:b9=none:=I
 have aa:cJ≠ 0 :=aa
 unfold rI
 rw [kn]
 dsimp only [iw,dx]
 rw [decide_eq_false aa,cond_false,cond_false,Bool.not_false,cond_true]
theorem alJ (az:10000 <F) (g:J.Good F h k Y O) {roots:List Int} (ay:oH Y O roots≠ 0) :
 rI F h.Words h.ar h.aO h.aZ h.aU h.aS h.Next k.a4 k.a0 k.Fields k.Names k.a1 roots=some ((([],0,0,0,0,[],0,()),[],oH Y O roots,()),()):=by
 have kn:jC F (⟨h.Words,h.ar,h.aO,h.aZ,h.aU,h.aS,h.Next⟩:aV) (⟨k.a4,k.a0,k.Fields,k.Names,k.a1⟩:aP)=_:=g.open az
 have ya:w7 F (⟨⟨h.Words,h.ar,h.aO,h.aZ,h.aU,h.aS,h.Next⟩,⟨⟨k.a4,k.a0,k.Fields,k.Names,k.a1⟩⟩,Y,O,(Y++O).map fun a=>(a,true)⟩:bc) roots=_:=SP az g roots
 unfold rI
 rw [kn]
 dsimp only [iw,dx,view]
 rw [decide_eq_true (rfl:(0 :Int)= 0),cond_true,ya,Option.bind_some,decide_eq_false ay,cond_false,Bool.not_false,cond_true]
theorem alH (az:10000 <F) (g:J.Good F h k Y O) {roots:List Int} (ay:oH Y O roots= 0) (ak:h.ar+h.aO+ 1 - h.aU - (h.aZ - 1) < 0) :
 rI F h.Words h.ar h.aO h.aZ h.aU h.aS h.Next k.a4 k.a0 k.Fields k.Names k.a1 roots=some ((([],0,0,0,0,[],0,()),[],8,()),()):=by
 have kn:jC F (⟨h.Words,h.ar,h.aO,h.aZ,h.aU,h.aS,h.Next⟩:aV) (⟨k.a4,k.a0,k.Fields,k.Names,k.a1⟩:aP)=_:=g.open az
 have ya:w7 F (⟨⟨h.Words,h.ar,h.aO,h.aZ,h.aU,h.aS,h.Next⟩,⟨⟨k.a4,k.a0,k.Fields,k.Names,k.a1⟩⟩,Y,O,(Y++O).map fun a=>(a,true)⟩:bc) roots=_:=SP az g roots
 unfold rI
 rw [kn]
 dsimp only [iw,dx,view]
 rw [decide_eq_true (rfl:(0 :Int)= 0),cond_true,ya,Option.bind_some,ay,decide_eq_true (rfl:(0 :Int)= 0),cond_true,left_eq g,decide_eq_true ak,cond_true]
end
end Go.Proofs.YteeliipnilghaaaGreat
namespace Go.Proofs.YteeliipnilghaaaGreat
open J
theorem YA {F:Nat} {e:Int} {x w:aV} (ad:e= 0 ->Small F x.Words.length/\Small F x.aS.length) (I:0 <F) (ex:x=if e= 0 then w else (⟨[],0,0,0,0,[],0⟩:aV)):oV F x e e w=some true:=by
 unfold oV
 by_cases he:e= 0
 · rw [if_pos he] at ex
   subst ex
   rw [he,show decide ((0 :Int)= 0)=true from rfl,Bool.not_true,cond_false,Option.bind_some]
   have:=abX (F:=F) (h:=x) (ad he).1 (ad he).2
   show cond (decide ((0 :Int)= 0)) ((xO F x x).bind _) _=_
   rw [this];rfl
 · rw [if_neg he] at ex
   subst ex
   rw [decide_eq_false he,Bool.not_false,cond_true,Option.bind_some]
   have:=abX (F:=F) (h:=(⟨[],0,0,0,0,[],0⟩:aV)) ⟨by simp,by simpa using I⟩ ⟨by simp,by simpa using I⟩
   show cond (decide (e=e)) ((xO F (⟨[],0,0,0,0,[],0⟩:aV) (⟨[],0,0,0,0,[],0⟩:aV)).bind _) _=_
   rw [this,decide_eq_true rfl];rfl
theorem QW {F:Nat} (I:0 <F) (e:Int) (he:e≠ 0) (w:aV):oV F (⟨[],0,0,0,0,[],0⟩:aV) e e w=some true:=YA (fun q=>absurd q he) I (by rw [if_neg he])
theorem QV {F:Nat} (I:0 <F):nR F [] []=some true:=J' ⟨by simp,by simpa using I⟩
theorem aul (h:aV) (aN:U' Go.reachBytes h) (k:aP) (I:GQ Go.reachBytes k) (roots:List Int) (_:roots.length* 8 <=Go.reachBytes/\ ∀ x ∈ roots,av.iK x) :
 ∃ F,GO F h.Words h.ar h.aO h.aZ h.aU h.aS h.Next k.a4 k.a0 k.Fields k.Names k.a1 roots=some ((true,()),()):=by
 refine ⟨140737488355940 + 60,?_⟩
 have az:10000 < 140737488355940 + 60 :=by omega
 have yp:=alz I
 have aA:Small (140737488355940 + 60) h.aS.length:=nq 7 aN.2.2.2.2.2.1.1
 generalize Yj:(140737488355940 + 60 :Nat)=F at az aA ⊢
 have yp:∃ e,m' F k=some e/\rW F k=some e/\(e≠ 0 \/(e= 0 /\fF k)):=by rw [<-Yj];exact yp
 clear Yj
 obtain ⟨r,e1,e2,hc⟩:=at6 az yp aA aN.2.2.2.2.2.2.2
 have uT:0 <F:=by omega
 unfold GO
 rcases hc with ⟨c1,c2⟩ | ⟨Y,O,g,rfl⟩
 · have kn:rR F (⟨h.Words,h.ar,h.aO,h.aZ,h.aU,h.aS,h.Next⟩:aV) (⟨k.a4,k.a0,k.Fields,k.Names,k.a1⟩:aP) roots=_:=at9 roots e2 c1
   rw [alG az e1 c2 c1,Option.bind_some,kn,Option.bind_some,decide_eq_false c1,cond_false,cond_false]
   dsimp only
   rw [QW uT _ c1,Option.bind_some,cond_true,QV uT,Option.bind_some]
 · have e2:qo F h k=some 0 :=e2
   have kn:rR F (⟨h.Words,h.ar,h.aO,h.aZ,h.aU,h.aS,h.Next⟩:aV) (⟨k.a4,k.a0,k.Fields,k.Names,k.a1⟩:aP) roots=_:=at8 az g roots e2
   by_cases ay:oH Y O roots= 0
   · rw [ay] at kn
     by_cases ak:h.ar+h.aO+ 1 - h.aU - (h.aZ - 1) < 0
     · rw [alH az g ay ak,Option.bind_some,kn,Option.bind_some,decide_eq_true (rfl:(0 :Int)= 0),cond_true,ZR g,decide_eq_true ak,cond_true]
       dsimp only
       rw [QW uT 8 (by decide),Option.bind_some,cond_true,QV uT,Option.bind_some]
     · obtain ⟨Z,l,t,qa,l1,c1,q,c2⟩:=alI az g ay (by omega)
       have A1:=g.s.hE
       have Ir:=(abL ay).1
       have ad:oV F (⟨Z,h.ar,h.aO,1,t,[],h.Next⟩:aV) 0 0 (⟨Z,h.ar,h.aO,1,t,[],h.Next⟩:aV)=some true:=
        YA (fun _=>⟨⟨by show Z.length<=_;omega,by show Z.length <_;omega⟩,⟨by simp,by simpa using uT⟩⟩) uT (by rw [if_pos rfl])
       rw [c1,Option.bind_some,kn,Option.bind_some,decide_eq_true (rfl:(0 :Int)= 0),cond_true,ZR g,decide_eq_false ak,cond_false,c2,Option.bind_some]
       dsimp only
       rw [cond_true,ad,Option.bind_some,cond_true,J' ⟨by omega,by omega⟩,Option.bind_some]
   · rw [alJ az g ay,Option.bind_some,kn,Option.bind_some,decide_eq_false ay,cond_false,cond_false]
     dsimp only
     rw [QW uT _ ay,Option.bind_some,cond_true,QV uT,Option.bind_some]
end Go.Proofs.YteeliipnilghaaaGreat
namespace Go.Proofs.YteeliipnilghaaaGreat.youngCollects
open Go Go.ChangeShapes Go.WideShapes Go.ChangeAt Go.RowKit
theorem own:ownKnob Tryz.prog.godebug=none:=by kernel_rfl
set_option maxRecDepth 100000 in
theorem alK (H:Type) (enc:TypeId × Value->H) (W:World) (base:Nat) (args:Array Value) (ds gs:List (DataW H)) (before:List MemPlace)
 (qU:∀ (j:Nat) t v,Tryz.f3.params[j]? =some t->args[j]? =some v->Value.okWide Tryz.prog W .any base t v)
 (fJ:DataW.Whole enc Tryz.prog Tryz.f3.params.toList Rows.youngCollectsSpec.vars false W args.toList ds gs before) (Is:∀ n ∈ DataW.weightsEach Tryz.prog Tryz.f3.params.toList ds,n<=reachBytes) :
 Calls Tryz.prog 3 args W fun e cy=>∃ v,e= .returned v/\Rows.youngCollectsSpec.post enc Tryz.prog Tryz.f3 false true false false W args v cy:=by
 have aoI:=fJ
 have bs:=fJ.lt
 obtain ⟨p,q,aoj,qG,Bd,n8,sD⟩:=fJ
 have dB:DataW.TrodAll enc Tryz.prog W 0 (fun _=>true) true Tryz.f3.params.toList args.toList ds p:=aoj
 have cX:=Is
 rw [Tryz.params3] at dB qU cX
 obtain ⟨aY,aC_,d0,aCy,gM,aC5,OI,rfl,rfl,aN,axY⟩:=trodAll_cons dB
 obtain ⟨v1,aC',d1,aCz,dN,bk,rfl,rfl,rfl,I,axZ⟩:=trodAll_cons axY
 obtain ⟨v2,aDa,d2,aCA,f',bH,rfl,rfl,rfl,aa,ax0⟩:=trodAll_cons axZ
 obtain ⟨rfl,rfl,rfl⟩:=trodAll_nil ax0
 obtain rfl:args= #[aY,v1,v2]:=by cases args;simp_all
 obtain ⟨rfl,rfl⟩:=trodVars_none qG
 have aw9:=awC (enc:=enc) (N:=reachBytes)
 have aw5:=av.Mc aw9 aN (fun x ad=>bs x (by subst Bd;simp [ad]))
 have axa:=aw5 (fun m hm=>cX m (by simp only [DataW.weightsEach,List.mem_append];simp [hm]))
 obtain ⟨d0,fO,hK⟩:=axa
 obtain ⟨aY,rfl,_⟩:=okWide_struct Tryz.underlying24 (qU 0 24 aY rfl rfl)
 obtain ⟨aB',aCp,aCa,aCq,cW,auw,auy⟩:=fO
 obtain rfl:=av.Vh cW
 have aw_:=awD (enc:=enc) (N:=reachBytes)
 have aw6:=av.Mc aw_ I (fun x ad=>bs x (by subst Bd;simp [ad]))
 have axb:=aw6 (fun m hm=>cX m (by simp only [DataW.weightsEach,List.mem_append];simp [hm]))
 obtain ⟨d1,b9,bf⟩:=axb
 obtain ⟨v1,rfl,_⟩:=okWide_struct Tryz.underlying30 (qU 1 30 v1 rfl rfl)
 obtain ⟨aCb,aCr,aCc,aCs,aCd,aCt,aCe,aCu,aCf,aCv,e1,auD,auE,auF,auG,auH⟩:=b9
 obtain rfl:=av.Vh e1
 have aw':=JY (enc:=enc) (N:=reachBytes)
 have aw7:=av.Mc aw' aa (fun x ad=>bs x (by subst Bd;simp [ad]))
 have axc:=aw7 (fun m hm=>cX m (by simp only [DataW.weightsEach,List.mem_append];simp [hm]))
 obtain ⟨d2,cJ,bh⟩:=axc
 obtain ⟨dc,BA,c2,rfl⟩:=okWide_slice Tryz.underlying22 (qU 2 22 v2 rfl rfl)
 obtain ⟨cZ,UY,e2⟩:=av.lp cJ
 obtain ⟨rfl,rfl,rfl⟩:=Value.slice.inj (List.cons.inj e2).1
 obtain ⟨F,az⟩:=Go.Proofs.YteeliipnilghaaaGreat.aul d0 hK d1 bf d2 bh
 have uU:∀ k,av.hF [] W k->k <W.heap.size/\W.heap[k]? =W.heap[k]? :=fun k ai=>⟨ai.2,rfl⟩
 have g8:((P3 F).run aR [.a [.s 3 d0.Words,.p (.int .i64 d0.ar),.p (.int .i64 d0.aO),.p (.int .i64 d0.aZ),.p (.int .i64 d0.aU),.s 3 d0.aS,.p (.int .i64 d0.Next)],.a [.s 134 d1.a4,.s 3 d1.a0,.s 124 d1.Fields,.s 120 d1.Names,.s 121 d1.a1],.s 3 d2] [])= .op (GO F d0.Words d0.ar d0.aO d0.aZ d0.aU d0.aS d0.Next d1.a4 d1.a0 d1.Fields d1.Names d1.a1 d2) fun r=>.ok ⟨.ret (.p (.bool r.1.1)),[],[]⟩:=by kernel_rfl
 refine (bz.asv (E:=aR) rfl (alm F) (ys:=[.a [.s 3 d0.Words,.p (.int .i64 d0.ar),.p (.int .i64 d0.aO),.p (.int .i64 d0.aZ),.p (.int .i64 d0.aU),.s 3 d0.aS,.p (.int .i64 d0.Next)],.a [.s 134 d1.a4,.s 3 d1.a0,.s 124 d1.Fields,.s 120 d1.Names,.s 121 d1.a1],.s 3 d2]) (W:=W) (by rw [g8];exact ⟨((true,()),()),az,rfl⟩) ⟨_,_,rfl,⟨_,rfl,_,_,rfl,bz.iy (fun _ _=>JX) ((av.bZ _).law uU auw),_,_,rfl,rfl,_,_,rfl,rfl,_,_,rfl,rfl,_,_,rfl,rfl,_,_,rfl,bz.iy (fun _ _=>JX) ((av.bZ _).law uU auy),_,_,rfl,rfl,rfl⟩,_,_,rfl,⟨_,rfl,_,_,rfl,bz.iy (fun _ _=>awv) ((av.bZ _).law uU auD),_,_,rfl,bz.iy (fun _ _=>JX) ((av.bZ _).law uU auE),_,_,rfl,bz.iy (fun _ _=>aws) ((av.bZ _).law uU auF),_,_,rfl,bz.iy (fun _ _=>awq) ((av.bZ _).law uU auG),_,_,rfl,bz.iy (fun _ _=>awr) ((av.bZ _).law uU auH),rfl⟩,_,_,rfl,bz.iy (fun _ _=>JX) ((av.bZ _).law uU cJ),rfl⟩).mono fun e cy ⟨he,ag⟩=>?_
 exact ⟨_,he,av.auo aoI (by kernel_rfl) (by kernel_rfl) rfl rfl Tryz.underlying4 rfl ag⟩
theorem ast (os:Os):laidMet Tryz.prog Rows.youngCollectsRow.laid ((World.holding Tryz.prog os ⟨#[],#[],[]⟩).forCall (fun _ _=>0) ⟨#[],#[.agg #[.slice none 0 0,.int .i64 0,.int .i64 0,.int .i64 0,.int .i64 0,.slice none 0 0,.int .i64 0],.agg #[.slice none 0 0,.slice none 0 0,.slice none 0 0,.slice none 0 0,.slice none 0 0],.slice none 0 0],[]⟩).memory:=
 laidMet_of_run' 8 (by kernel_rfl) (by kernel_rfl)
theorem reads (os:Os) {H:Type} (enc:TypeId × Value->H):∃ places,DataW.whole enc Tryz.prog ((World.holding Tryz.prog os ⟨#[],#[],[]⟩).forCall (fun _ _=>0) ⟨#[],#[.agg #[.slice none 0 0,.int .i64 0,.int .i64 0,.int .i64 0,.int .i64 0,.slice none 0 0,.int .i64 0],.agg #[.slice none 0 0,.slice none 0 0,.slice none 0 0,.slice none 0 0,.slice none 0 0],.slice none 0 0],[]⟩).memory Tryz.f3.params.toList Rows.youngCollectsSpec.vars false (#[.agg #[.slice none 0 0,.int .i64 0,.int .i64 0,.int .i64 0,.int .i64 0,.slice none 0 0,.int .i64 0],.agg #[.slice none 0 0,.slice none 0 0,.slice none 0 0,.slice none 0 0,.slice none 0 0],.slice none 0 0]:Array Value).toList 8 =some ([.agg [.nil,.lit (.int .i64 0),.lit (.int .i64 0),.lit (.int .i64 0),.lit (.int .i64 0),.nil,.lit (.int .i64 0)],.agg [.nil,.nil,.nil,.nil,.nil],.nil],[],places):=
 ⟨[],by kernel_rfl⟩
set_option maxRecDepth 100000 in
theorem lifted (os:Os) (started:os.Started) (H:Type) (enc:TypeId × Value->H) (F:Stop.Interp) :
 ReturnsInHanded {} Tryz.checked os 3 .any ((OpenSpec.ofChange Rows.youngCollectsSpec).preRow enc Tryz.prog Tryz.f3 Rows.youngCollectsRow.domain false Rows.youngCollectsRow.laid) (((OpenSpec.ofChange Rows.youngCollectsSpec).at F).post enc Tryz.prog Tryz.f3 false true false false):=by
 obtain ⟨places,ad⟩:=reads os enc
 refine returnsInHanded_of_row (C:=Tryz.checked) (s:=OpenSpec.ofChange Rows.youngCollectsSpec) own started (by kernel_rfl) Tryz.func3
  (witness_row_at (enc:=enc) (C:=Tryz.checked) false (World.holding Tryz.prog os ⟨#[],#[],[]⟩) #[.agg #[.slice none 0 0,.int .i64 0,.int .i64 0,.int .i64 0,.int .i64 0,.slice none 0 0,.int .i64 0],.agg #[.slice none 0 0,.slice none 0 0,.slice none 0 0,.slice none 0 0,.slice none 0 0],.slice none 0 0] rfl (by kernel_rfl) (by kernel_rfl) (by kernel_rfl)
   (OpenSpec.preRow_of_cond 8 ad (by kernel_rfl) (fun k ai=>by cases ai) (by kernel_rfl) (ast os))) ?_
 intro W base args ds gs before qU fJ _ aCJ aqA _ _ _
 exact alK H enc W base args ds gs before qU fJ (fun n aA=>by obtain ⟨_,_,_,qG,_,_,_⟩:=fJ;obtain ⟨rfl,_⟩:=trodVars_none qG;have Y_:(DataW.weightsEach Tryz.prog (Tryz.f3.params.toList++[]) (ds++[])).all (· <=reachBytes)=true:=aqA;rw [List.append_nil,List.append_nil] at Y_;exact of_decide_eq_true (List.all_eq_true.1 Y_ n aA))
theorem said:Rows.YoungCollectsSaid:=
 OpenClaim.holds_of_cond 3 Tryz.f3 rfl rfl rfl rfl rfl rfl rfl ⟨rfl,rfl,rfl,rfl,rfl⟩ rfl rfl rfl rfl rfl (by kernel_rfl) Tryz.func3 (by kernel_rfl)
  (of_decide_eq_true (by kernel_rfl)) (by unfold Func.isWrapper;first | (rw [if_pos (by decide +kernel)];kernel_rfl) | (rw [if_neg (by decide +kernel)];exact ⟨rfl,rfl⟩))
  (fun os started H enc _ F=>by rw [OpenClaim.pre_eq_preRow];exact lifted os started H enc F)
end Go.Proofs.YteeliipnilghaaaGreat.youngCollects
