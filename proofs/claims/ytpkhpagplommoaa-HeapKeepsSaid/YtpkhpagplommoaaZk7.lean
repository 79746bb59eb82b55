/- LAW: THE WALK AND THE PLAIN LAW, JOINED TO THE GIVEN STATEMENT: for every input that the row speaks of, the call returns true and what came in reads as it did. Made by program (liftgen2.py). -/
import Derived.Test.YtpkhpagplommoaaZk6
import Derived.KernelRfl
import Derived.Test.YtpkhpagplommoaaRows
import Derived.WalkKit
import Derived.ProofKit
import Derived.OpenShut
import Derived.Deep.DeepHandedRow
namespace Cin
section
variable {F:Nat} {l:List aG}
theorem yb:(dC l).length=l.length:=by simp [dC]
theorem rP {n:Int} (bk:0 <=n) (aq:n <l.length):∃ x,idx l n=some x/\idx (dC l) n=some (dm l x.bY):=by
 obtain ⟨x,af⟩:∃ x,l[n.toNat]? =some x:=⟨l[n.toNat]'(by omega),List.getElem?_eq_getElem _⟩
 refine ⟨x,?_,?_⟩
 · unfold idx;rw [if_pos bk,af]
 · unfold idx;rw [if_pos bk,MD af]
def MK (o:Option (List Int)) (acc:List Int):Way (List Int) (List Int):=match o with
 | some c=>.go (c.reverse++acc)
 | none=>.out []
def dW (l:List aG) (n:Int):List Int:=(dQ (dC l) l.length n).getD []
theorem Fw (bu:1100 <F) (h:Right l) {n:Int} (aq:n <l.length):wQ F l n=some (dW l n).reverse:=by
 have hlen:=h.len
 have key:∀ (d:Nat) (acc:List Int) (n:Int) (f:Nat),acc.length+d=l.length+ 1 ->d+ 1 <f->n <l.length->zr F l f n acc=some (MK (dQ (dC l) d n) acc):=by
  intro d
  induction d with
  | zero=>
    intro acc n f a' I ad
    obtain ⟨f,rfl⟩:∃ eU,f=eU+ 1 :=⟨f - 1,by omega⟩
    rw [zr,dQ]
    by_cases bk:n < 0
    · rw [if_pos bk,decide_eq_false (by omega)];rfl
    · rw [if_neg bk,decide_eq_true (by omega),cond_true,decide_eq_true (by omega)];rfl
  | succ d cb=>
    intro acc n f a' I ad
    obtain ⟨f,rfl⟩:∃ eU,f=eU+ 1 :=⟨f - 1,by omega⟩
    rw [zr,dQ]
    by_cases bk:n < 0
    · rw [if_pos bk,decide_eq_false (by omega)];rfl
    · obtain ⟨x,af,aY⟩:=rP (l:=l) (n:=n) (by omega) ad
      rw [if_neg bk,decide_eq_true (by omega),cond_true,decide_eq_false (by omega),cond_false]
      unfold ei
      rw [if_pos (by simp only [List.length_cons,List.length_nil];omega)]
      show ((some ([n]++acc)).bind fun Rq=>(idx l n).bind fun S0=>_)=_
      rw [Option.bind_some,af,Option.bind_some,sl ⟨by omega,by omega⟩,Option.bind_some,aY,Option.bind_some,cb ([n]++acc) _ f (by simp only [List.length_append,List.length_cons,List.length_nil];omega) (by omega) HB]
      cases dQ (dC l) d (dm l x.bY) with
      | none=>rfl
      | some c=>simp [MK]
 unfold wQ
 rw [key (l.length+ 1) [] n F (by simp) (by omega) aq,akp (k:=l.length+ 1) (by rw [yb];omega),yb]
 unfold dW
 cases dQ (dC l) l.length n with
 | none=>rfl
 | some c=>simp [MK,dp]
def qm (l:List aG) (i:Nat):Option Int:=if (dQ (dC l) l.length (i:Int)).isSome then none else some 4
theorem MJ {S:List Int} {k:Nat} {n:Int} {c:List Int} (h:dQ S k n=some c) (bk:0 <=n):∃ r,c=n::r:=by
 cases k with
 | zero=>simp only [dQ] at h;rw [if_neg (by omega)] at h;cases h
 | succ k=>
   rw [dQ,if_neg (by omega)] at h
   cases hi:idx S n with
   | none=>rw [hi] at h;cases h
   | some m=>
     rw [hi,Option.bind_some] at h
     cases hu:dQ S k m with
     | none=>rw [hu] at h;cases h
     | some dw=>rw [hu] at h;simp only [Option.map_some,Option.some.injEq] at h;exact ⟨dw,h.symm⟩
theorem Vl (bu:1100 <F) (h:Right l):y6 F l F 0 =some (dv ((List.range l.length).findSome? (qm l))):=kd _ (by have:=h.len;omega) (fun k i hi=>by
 rw [y6,cL hi,cond_true,Fw bu h (by omega),Option.bind_some]
 unfold qm dW
 cases hu:dQ (dC l) l.length (i:Int) with
 | none=>rfl
 | some c=>
   obtain ⟨r,rfl⟩:=MJ hu (by omega)
   rw [decide_eq_false (by simp;omega)]
   rfl) (fun k=>by rw [y6,cK];rfl) (by have:=h.len;omega)
theorem Pz (h:Right l) (m:List (List UInt8 × Int)) (s:List Int):∀ (d i f:Nat) (n:Int),i+d=l.length->d <f-> 0 <=n->n <l.length-> ∃ r,tz ⟨l,m,s⟩ (dC l) f n i=some r/\(r < 0 ↔ (dQ (dC l) d n).isSome=true)
 | 0,i,f,n,hi,I,bk,ad=>by
   obtain ⟨f,rfl⟩:∃ eU,f=eU+ 1 :=⟨f - 1,by omega⟩
   have:i=l.length:=by omega
   subst this
   refine ⟨n,?_,?_⟩
   · rw [tz]
     show cond (decide ((l.length:Int) <(l.length:Int))) _ _=_
     rw [cK];rfl
   · rw [dQ,if_neg (by omega)];simp;omega
 | d+ 1,i,f,n,hi,I,bk,ad=>by
   obtain ⟨f,rfl⟩:∃ eU,f=eU+ 1 :=⟨f - 1,by omega⟩
   obtain ⟨x,af,aY⟩:=rP (l:=l) (n:=n) bk ad
   have hlen:=h.len
   rw [tz]
   have hc:decide ((i:Int) <((⟨l,m,s⟩:cZ).l.length:Int))=true:=cL (n:=l.length) (by omega)
   rw [hc,cond_true,aY,Option.bind_some,dQ,if_neg (by omega),aY,Option.bind_some]
   by_cases A9:dm l x.bY < 0
   · rw [decide_eq_true A9,cond_true]
     refine ⟨_,rfl,?_⟩
     have:dQ (dC l) d (dm l x.bY)=some []:=by cases d <;> simp [dQ,A9]
     rw [this];simp [A9]
   · rw [decide_eq_false A9,cond_false,gB (n:=l.length) (by omega) (by omega)]
     obtain ⟨r,aq,aC⟩:=Pz h m s d (i+ 1) f (dm l x.bY) (by omega) (by omega) (by omega) HB
     refine ⟨r,aq,aC.trans ?_⟩
     simp
theorem Vk (bu:1100 <F) (h:Right l) (m:List (List UInt8 × Int)) (s:List Int):rl F ⟨l,m,s⟩ (dC l) F 0 =some (dv (((List.range l.length).findSome? (qm l)).map fun e=>(e,(⟨l,m,dC l⟩:cZ)))):=by
 have hlen:=h.len
 have:=kd (n:=l.length) (L:=rl F ⟨l,m,s⟩ (dC l)) (fun i=>(qm l i).map fun e=>(e,(⟨l,m,dC l⟩:cZ))) (by omega) (fun k i hi=>by
  rw [rl]
  have hc:decide ((i:Int) <((⟨l,m,s⟩:cZ).l.length:Int))=true:=cL (n:=l.length) hi
  obtain ⟨r,aq,aC⟩:=Pz h m s l.length 0 F (i:Int) (by omega) (by omega) (by omega) (by omega)
  rw [hc,cond_true,show (0 :Int)=((0 :Nat):Int) from rfl,aq]
  simp only [Option.bind_some]
  unfold qm
  cases hu:(dQ (dC l) l.length (i:Int)).isSome with
  | true=>rw [if_pos rfl,decide_eq_false (show ¬ ((0 :Nat):Int)<=r from fun bm=>by have:=aC.2 hu;omega)];rfl
  | false=>rw [if_neg (by simp),decide_eq_true (show ((0 :Nat):Int)<=r from by
   rcases Int.lt_or_le r 0 with bm | bm
   · have:=aC.1 bm;rw [hu] at this;cases this
   · exact bm)];rfl) (fun k=>by
    rw [rl]
    show cond (decide ((l.length:Int) <(l.length:Int))) _ _=_
    rw [cK];rfl) (F:=F) (by omega)
 rw [this,DY]
structure hq (l:List aG):Prop where
 right:Right l
 anH:uH l
 anG:∀ c ∈ l,c.bY= []\/ 0 <=dm l c.bY
 up:∀ i,i <l.length-> ∃ c,dQ (dC l) l.length (i:Int)=some c
 top:∀ c ∈ l,pQ c=none
 obj:0 <=dm l [79,98,106,101,99,116]
theorem hq.chain (h:hq l) {n:Int} (bk:0 <=n) (aq:n <l.length):dQ (dC l) l.length n=some (dW l n)/\(dW l n).length<= 10 /\(∀ x ∈ dW l n,0 <=x/\x <l.length):=by
 obtain ⟨c,hc⟩:=h.up n.toNat (by omega)
 rw [show ((n.toNat:Nat):Int)=n by omega] at hc
 have e:dW l n=c:=by unfold dW;rw [hc];rfl
 rw [e]
 refine ⟨hc,?_,fun x af=>?_⟩
 · have:=SE hc;rw [yb] at this;have:=h.right.len;omega
 · have:=(Fy hc x af).1;rw [yb] at this;exact this
theorem hq.Lf (h:hq l) (bu:1100 <F) (m:List (List UInt8 × Int)) {n:Int} (bk:0 <=n) (aq:n <l.length):rm F ⟨l,m,dC l⟩ n=some (dW l n):=by
 obtain ⟨hc,ag,_⟩:=h.chain bk aq
 exact U1 (l:=l) hc (by omega) (by omega)
def lK (l:List aG) (i:Int):List Field:=((idx l i).map (·.Fields)).getD []
def fE (l:List aG) (n:Int):List Field:=(dW l n).reverse.flatMap (lK l)
theorem HN (h:Right l) (i:Int):(lK l i).length<= 6 :=by
 unfold lK
 cases af:idx l i with
 | none=>simp
 | some x=>
   obtain ⟨_,_,aC⟩:=ti af
   exact h.fields x (List.mem_of_getElem? aC)
theorem HO (h:Right l):∀ r:List Int,(r.flatMap (lK l)).length<= 6 *r.length
 | []=>by simp
 | x::r=>by
   have aq:=HN h x
   have aC:=HO h r
   simp only [List.flatMap_cons,List.length_append,List.length_cons]
   omega
theorem PT (h:Right l) (m:List (List UInt8 × Int)) (s:List Int):∀ (rem:List Int) (acc:List Field),(∀ x ∈ rem,0 <=x/\x <l.length)->acc.length+ 6 *rem.length<= 1000 ->tB ⟨l,m,s⟩ rem acc=some (acc++rem.flatMap (lK l))
 | [],acc,_,_=>by simp [tB]
 | x::rem,acc,af,ag=>by
   obtain ⟨c,hc,_⟩:=rP (l:=l) (af x (by simp)).1 (af x (by simp)).2
   have I:lK l x=c.Fields:=by unfold lK;rw [hc];rfl
   have aq:=HN h x
   rw [I] at aq
   simp only [List.length_cons] at ag
   rw [tB]
   show ((idx l x).bind fun ul=>_)=_
   rw [hc,Option.bind_some]
   unfold ei
   rw [if_pos (by omega),Option.bind_some,PT h m s rem _ (fun y hy=>af y (by simp [hy])) (by simp only [List.length_append];omega),List.flatMap_cons,I]
   simp
theorem hq.Lg (h:hq l) (bu:1100 <F) (m:List (List UInt8 × Int)) {n:Int} (bk:0 <=n) (aq:n <l.length):tA F ⟨l,m,dC l⟩ n=some (fE l n):=by
 obtain ⟨_,ag,hm⟩:=h.chain bk aq
 unfold tA
 have:=h.Lf bu m bk aq
 simp only at this ⊢
 rw [this,Option.bind_some]
 unfold B_
 rw [Option.bind_some,PT h.right m (dC l) _ [] (fun x af=>hm x (by simpa using af)) (by simp;omega)]
 simp [fE]
theorem hq.Mo (h:hq l) (bu:1100 <F) {n:Int} (bk:0 <=n) (aq:n <l.length):yS F l n=some (fE l n):=by
 obtain ⟨_,ag,hm⟩:=h.chain bk aq
 unfold yS
 rw [Fw bu h.right aq,Option.bind_some]
 have:sk l (dW l n).reverse F [] 0 =some (fE l n):=by
  refine Li (n:=(dW l n).reverse.length) (fun k i=>sk l (dW l n).reverse k (((dW l n).reverse.take i).flatMap (lK l)) (i:Int)) (fE l n) (fun k i hi=>?_) (fun k=>?_) (F:=F) (by simp;omega)
  · obtain ⟨x,af⟩:∃ x,(dW l n).reverse[i]? =some x:=⟨(dW l n).reverse[i],List.getElem?_eq_getElem hi⟩
    have aM:=hm x (by simpa using List.mem_of_getElem? af)
    obtain ⟨c,hc,_⟩:=rP (l:=l) aM.1 aM.2
    have I:lK l x=c.Fields:=by unfold lK;rw [hc];rfl
    have aC:=HN h.right x
    rw [I] at aC
    have bw:=HO h.right ((dW l n).reverse.take i)
    simp only [List.length_take,List.length_reverse] at bw hi
    show sk l (dW l n).reverse (k+ 1) (((dW l n).reverse.take i).flatMap (lK l)) (i:Int)=_
    rw [sk,cL (by simpa using hi),cond_true,b3 af,Option.bind_some,hc,Option.bind_some]
    unfold ei
    rw [if_pos (by omega),Option.bind_some,gB (n:=(dW l n).length) hi (by omega),List.take_add_one,af,List.flatMap_append]
    simp [I]
  · show sk l (dW l n).reverse (k+ 1) (((dW l n).reverse.take (dW l n).reverse.length).flatMap (lK l)) ((dW l n).reverse.length:Int)=_
    rw [sk,cK,List.take_length];rfl
 rw [this];rfl
end
end Cin
namespace Cin
section
variable {F:Nat} {l:List aG}
abbrev mh:=List (List UInt8) × List Target
def mC (nm:List UInt8) (x:List UInt8):Bool:=decide (nm=x)
def p8 (p:mh) (nm:List UInt8) (t:Target):mh:=match eT (mC nm) p.1 with
 | some k=>(p.1,p.2.set k t)
 | none=>(p.1 ++[nm],p.2 ++[t])
def nK (ci:Int):List Method->Nat->mh->mh
 | [],_,p=>p
 | m::r,k,p=>nK ci r (k+ 1) (p8 p m.Name ⟨ci,k⟩)
def ff (l:List aG) (i:Int):List Method:=((idx l i).map (·.aE)).getD []
def ss (l:List aG):List Int->mh->mh
 | [],p=>p
 | ci::r,p=>ss l r (nK ci (ff l ci) 0 p)
def tab (l:List aG) (n:Int):mh:=ss l (dW l n).reverse ([],[])
theorem G2 {p:mh} {nm:List UInt8} {t:Target} (h:p.1.length=p.2.length):(p8 p nm t).1.length=(p8 p nm t).2.length/\(p8 p nm t).1.length<=p.1.length+ 1 :=by
 unfold p8
 cases eT (mC nm) p.1 with
 | some k=>simp [h]
 | none=>simp [h]
theorem G1 {ci:Int}:∀ {r:List Method} {k:Nat} {p:mh},p.1.length=p.2.length->(nK ci r k p).1.length=(nK ci r k p).2.length/\(nK ci r k p).1.length<=p.1.length+r.length
 | [],_,p,h=>⟨h,Nat.le_refl _⟩
 | m::r,k,p,h=>by
   obtain ⟨aq,aC⟩:=G2 (nm:=m.Name) (t:=⟨ci,k⟩) h
   obtain ⟨bw,dz⟩:=G1 (ci:=ci) (r:=r) (k:=k+ 1) aq
   exact ⟨bw,by simp only [nK,List.length_cons];omega⟩
theorem agK {er:List (List UInt8)} (h:Small F er.length) (nm:List UInt8):Cj F er nm=some (((eT (mC nm) er).map fun n:Nat=>(n:Int)).getD (-1)):=by
 unfold Cj
 have l1:uf er nm F 0 =some (dv ((eT (mC nm) er).map fun n:Nat=>(n:Int))):=HM (mC nm) _ h.1 (fun k i x af=>by
  rw [uf,cL (List.getElem?_eq_some_iff.1 af).1,cond_true,b3 af,Option.bind_some];rfl) (fun k=>by rw [uf,cK];rfl) h.2
 rw [l1,l2]
 cases eT (mC nm) er <;> rfl
theorem Sw (bu:1100 <F) (ci:Int) (c:aG) (hc:c.aE.length<= 8):∀ (d i f:Nat) (p:mh),i+d=c.aE.length->d <f->p.1.length=p.2.length->p.1.length+d<= 1000 ->
 tH F ci c f p.1 p.2 (i:Int)=some (nK ci (c.aE.drop i) i p)
 | 0,i,f,p,hi,I,bD,_=>by
   obtain ⟨f,rfl⟩:∃ eU,f=eU+ 1 :=⟨f - 1,by omega⟩
   have:i=c.aE.length:=by omega
   subst this
   rw [tH,cK,List.drop_of_length_le (Nat.le_refl _)];rfl
 | d+ 1,i,f,p,hi,I,bD,ag=>by
   obtain ⟨f,rfl⟩:∃ eU,f=eU+ 1 :=⟨f - 1,by omega⟩
   have fw:i <c.aE.length:=by omega
   obtain ⟨aq,aC⟩:=G2 (nm:=c.aE[i].Name) (t:=⟨ci,i⟩) bD
   have next:=Sw bu ci c hc d (i+ 1) f (p8 p c.aE[i].Name ⟨ci,i⟩) (by omega) (by omega) aq (by omega)
   rw [tH,cL fw,cond_true,b3 (List.getElem?_eq_getElem fw),Option.bind_some,agK ⟨by omega,by omega⟩,Option.bind_some,List.drop_eq_getElem_cons fw,nK,<-next]
   unfold p8
   cases JP:eT (mC c.aE[i].Name) p.1 with
   | some k=>
     have aZ:=LP JP
     simp only [Option.map_some,Option.getD_some]
     rw [decide_eq_true (show (0 :Int)<=(k:Int) by omega),cond_true,b3 (List.getElem?_eq_getElem (show k <p.2.length by omega)),Option.bind_some,Option.bind_some,Option.bind_some,gB fw (by omega)]
     simp
   | none=>
     simp only [Option.map_none,Option.getD_none]
     rw [decide_eq_false (show ¬ (0 :Int)<= -1 by decide),cond_false]
     unfold ei
     rw [if_pos (by simp only [List.length_cons,List.length_nil];omega),Option.bind_some,if_pos (by simp only [List.length_cons,List.length_nil];omega),Option.bind_some,Option.bind_some,gB fw (by omega)]
theorem RH (h:Right l) (i:Int):(ff l i).length<= 8 :=by
 unfold ff
 cases af:idx l i with
 | none=>simp
 | some x=>
   obtain ⟨_,_,aC⟩:=ti af
   exact h.methods x (List.mem_of_getElem? aC)
theorem Sv (bu:1100 <F) (h:Right l) (m:List (List UInt8 × Int)) (s:List Int):∀ (rem:List Int) (p:mh),(∀ x ∈ rem,0 <=x/\x <l.length)->p.1.length=p.2.length->p.1.length+ 8 *rem.length<= 900 ->
 tG F ⟨l,m,s⟩ rem p.1 p.2 =some (ss l rem p)
 | [],p,_,_,_=>by simp [tG,ss]
 | x::rem,p,af,bD,ag=>by
   obtain ⟨c,hc,_⟩:=rP (l:=l) (af x (by simp)).1 (af x (by simp)).2
   have hm:ff l x=c.aE:=by unfold ff;rw [hc];rfl
   have pj:=RH h x
   have Ac:=pj
   rw [hm] at Ac
   simp only [List.length_cons] at ag
   obtain ⟨h1,jL⟩:=G1 (ci:=x) (r:=ff l x) (k:=0) bD
   rw [tG]
   show (Option.bind (α:=(List (List UInt8)) × (List Target)) ((idx l x).bind fun eb=>_) _)=_
   rw [hc,Option.bind_some]
   have:=Sw bu x c Ac c.aE.length 0 F p (by omega) (by omega) bD (by omega)
   rw [show ((0 :Nat):Int)= 0 from rfl] at this
   rw [this,List.drop_zero,Option.bind_some,Option.bind_some,ss,<-hm]
   exact Sv bu h m s rem _ (fun y hy=>af y (by simp [hy])) h1 (by omega)
theorem hq.ahQ (h:hq l) (bu:1100 <F) (m:List (List UInt8 × Int)) {n:Int} (bk:0 <=n) (aq:n <l.length):BF F ⟨l,m,dC l⟩ n=some (tab l n):=by
 obtain ⟨_,ag,hm⟩:=h.chain bk aq
 unfold BF
 have:=h.Lf bu m bk aq
 simp only at this ⊢
 rw [this,Option.bind_some]
 unfold B_
 rw [Option.bind_some,Sv bu h.right m (dC l) _ ([],[]) (fun x af=>hm x (by simpa using af)) rfl (by simp;omega)]
 rfl
theorem aj_ (er:List (List UInt8)) (m:Method) (h:Small F er.length):wO er m F 0 =some (((eT (mC m.Name) er).getD er.length:Nat):Int):=by
 have key:∀ (d i f:Nat),i+d=er.length->d <f->wO er m f (i:Int)=some ((i+(eT (mC m.Name) (er.drop i)).getD d:Nat):Int):=by
  intro d
  induction d with
  | zero=>
    intro i f hi I
    obtain ⟨f,rfl⟩:∃ eU,f=eU+ 1 :=⟨f - 1,by omega⟩
    have:i=er.length:=by omega
    subst this
    rw [wO,cK,List.drop_of_length_le (Nat.le_refl _)];rfl
  | succ d cb=>
    intro i f hi I
    obtain ⟨f,rfl⟩:∃ eU,f=eU+ 1 :=⟨f - 1,by omega⟩
    have fw:i <er.length:=by omega
    rw [wO,cL fw,cond_true,b3 (List.getElem?_eq_getElem fw),Option.bind_some,List.drop_eq_getElem_cons fw,eT]
    by_cases e:er[i]=m.Name
    · rw [decide_eq_true e,if_pos (by simp [mC,e])];simp
    · rw [decide_eq_false e,if_neg (by simp [mC];exact fun h=>e h.symm)]
      simp only [Bool.not_false,cond_true]
      rw [gB fw h.1,cb (i+ 1) f (by omega) (by omega)]
      congr 2
      cases eT (mC m.Name) (er.drop (i+ 1)) with
      | none=>simp;omega
      | some k=>simp;omega
 have:=key er.length 0 F (by omega) h.2
 simpa using this
theorem SA (bu:1100 <F) (jp:List Int) (n:Nat) (ci:Int) (c:aG) (bm:jp[n]? =some ci) (po:idx l ci=some c) (hc:c.aE.length<= 8):∀ (d i f:Nat) (p:mh),i+d=c.aE.length->d <f->p.1.length=p.2.length->p.1.length+d<= 1000 ->
 zp F l jp (n:Int) f p.2 p.1 (i:Int)=some ((nK ci (c.aE.drop i) i p).2,(nK ci (c.aE.drop i) i p).1)
 | 0,i,f,p,hi,I,bD,_=>by
   obtain ⟨f,rfl⟩:∃ eU,f=eU+ 1 :=⟨f - 1,by omega⟩
   have:i=c.aE.length:=by omega
   subst this
   rw [zp,b3 bm,Option.bind_some,po,Option.bind_some,cK,List.drop_of_length_le (Nat.le_refl _)];rfl
 | d+ 1,i,f,p,hi,I,bD,ag=>by
   obtain ⟨f,rfl⟩:∃ eU,f=eU+ 1 :=⟨f - 1,by omega⟩
   have fw:i <c.aE.length:=by omega
   obtain ⟨aq,aC⟩:=G2 (nm:=c.aE[i].Name) (t:=⟨ci,i⟩) bD
   have next:=SA bu jp n ci c bm po hc d (i+ 1) f (p8 p c.aE[i].Name ⟨ci,i⟩) (by omega) (by omega) aq (by omega)
   rw [zp,b3 bm,Option.bind_some,po,Option.bind_some,cL fw,cond_true,Option.bind_some,po,Option.bind_some,b3 (List.getElem?_eq_getElem fw),Option.bind_some,aj_ p.1 _ ⟨by omega,by omega⟩,Option.bind_some,List.drop_eq_getElem_cons fw,nK,<-next]
   unfold p8
   cases JP:eT (mC c.aE[i].Name) p.1 with
   | some k=>
     have aZ:=LP JP
     simp only [Option.getD_some]
     rw [decide_eq_false (show ¬ ((k:Nat):Int)=(p.1.length:Int) by omega),cond_false,Option.bind_some]
     simp only [b3 bm,Option.bind_some]
     rw [b3 (List.getElem?_eq_getElem (show k <p.2.length by omega)),Option.bind_some,Option.bind_some,gB fw (by omega)]
     simp
   | none=>
     simp only [Option.getD_none,decide_true,cond_true]
     unfold ei
     rw [if_pos (by simp only [List.length_cons,List.length_nil];omega),Option.bind_some,if_pos (by simp only [List.length_cons,List.length_nil];omega),Option.bind_some,Option.bind_some]
     simp only [b3 bm,Option.bind_some]
     rw [b3 (i:=p.1.length) (x:=(⟨0,0⟩:Target)) (by rw [bD];simp),Option.bind_some,Option.bind_some,gB fw (by omega)]
     simp [bD,List.set_append]
theorem hq.aju (h:hq l) (bu:1100 <F) {n:Int} (bk:0 <=n) (aq:n <l.length):GV F l n=some (tab l n):=by
 obtain ⟨_,ag,hm⟩:=h.chain bk aq
 unfold GV
 rw [Fw bu h.right aq,Option.bind_some]
 have key:∀ (d i f:Nat) (p:mh),i+d=(dW l n).reverse.length->d <f->p.1.length=p.2.length->p.1.length+ 8 *d<= 900 ->zo F l (dW l n).reverse f p.2 p.1 (i:Int)=some ((ss l ((dW l n).reverse.drop i) p).2,(ss l ((dW l n).reverse.drop i) p).1):=by
  intro d
  induction d with
  | zero=>
    intro i f p hi I _ _
    obtain ⟨f,rfl⟩:∃ eU,f=eU+ 1 :=⟨f - 1,by omega⟩
    have:i=(dW l n).reverse.length:=by omega
    subst this
    rw [zo,cK,List.drop_of_length_le (Nat.le_refl _)];rfl
  | succ d cb=>
    intro i f p hi I bD anB
    obtain ⟨f,rfl⟩:∃ eU,f=eU+ 1 :=⟨f - 1,by omega⟩
    have fw:i <(dW l n).reverse.length:=by omega
    obtain ⟨ci,po⟩:∃ x,(dW l n).reverse[i]? =some x:=⟨(dW l n).reverse[i],List.getElem?_eq_getElem fw⟩
    have aM:=hm ci (by simpa using List.mem_of_getElem? po)
    obtain ⟨c,hc,_⟩:=rP (l:=l) aM.1 aM.2
    have A8:ff l ci=c.aE:=by unfold ff;rw [hc];rfl
    have pj:=RH h.right ci
    have Ac:=pj
    rw [A8] at Ac
    obtain ⟨h1,jL⟩:=G1 (ci:=ci) (r:=ff l ci) (k:=0) bD
    have t2:=SA (l:=l) bu (dW l n).reverse i ci c po hc Ac c.aE.length 0 F p (by omega) (by omega) bD (by omega)
    rw [show ((0 :Nat):Int)= 0 from rfl] at t2
    have abF:(dW l n).reverse[i]=ci:=by
     have:=List.getElem?_eq_getElem fw
     rw [po] at this;exact (Option.some.inj this).symm
    rw [zo,cL fw,cond_true,t2,List.drop_zero,Option.bind_some,Option.bind_some,gB (n:=(dW l n).length) (by simpa using fw) (by omega),List.drop_eq_getElem_cons fw,abF,ss,A8]
    rw [A8] at h1 jL
    exact cb (i+ 1) f _ (by omega) (by omega) h1 (by omega)
 have:=key (dW l n).reverse.length 0 F ([],[]) (by omega) (by simp;omega) rfl (by simp;omega)
 rw [show ((0 :Nat):Int)= 0 from rfl,List.drop_zero] at this
 simp only at this
 rw [this];rfl
end
end Cin
namespace Cin
theorem sr {α β:Type} {l:List α} (T:Nat->List β->Nat->Option (List β)) (g:α->List β) (B M:Nat) (jg:∀ x ∈ l,(g x).length<=B)
 (aY:∀ k (i:Nat) x acc,l[i]? =some x->acc.length+B<=M->T (k+ 1) acc i=T k (acc++g x) (i+ 1)) (he:∀ k acc,T (k+ 1) acc l.length=some acc) {F:Nat} (bu:l.length <F) {acc:List β} (fP:acc.length+B*l.length<=M) :
 T F acc 0 =some (acc++l.flatMap g):=by
 have key:∀ (d i k:Nat) (acc:List β),i+d=l.length->d <k->acc.length+B*d<=M->T k acc i=some (acc++(l.drop i).flatMap g):=by
  intro d
  induction d with
  | zero=>
    intro i k acc h aZ _
    obtain ⟨k,rfl⟩:∃ k',k=k'+ 1 :=⟨k - 1,by omega⟩
    have hi:i=l.length:=by omega
    subst hi
    rw [he,List.drop_of_length_le (Nat.le_refl _)];simp
  | succ d cb=>
    intro i k acc h aZ hm
    obtain ⟨k,rfl⟩:∃ k',k=k'+ 1 :=⟨k - 1,by omega⟩
    have hi:i <l.length:=by omega
    have aM:=jg l[i] (List.getElem_mem hi)
    rw [Nat.mul_succ] at hm
    rw [aY k i l[i] acc (List.getElem?_eq_getElem hi) (by omega),cb (i+ 1) k _ (by omega) (by omega) (by simp only [List.length_append];omega),List.drop_eq_getElem_cons hi,List.flatMap_cons,List.append_assoc]
 have:=key l.length 0 F acc (by omega) bu fP
 simpa using this
theorem RO {α β:Type} {g:α->Option β} {a:α}:[a].findSome? g=g a:=by rw [List.findSome?_cons];cases g a <;> rfl
theorem z7 {α β Nb:Type} (f:α->List β) (g:β->Option Nb):∀ l:List α,(l.flatMap f).findSome? g=l.findSome? fun x=>(f x).findSome? g
 | []=>rfl
 | x::r=>by
   rw [List.flatMap_cons,List.findSome?_append,List.findSome?_cons,z7 f g r]
   cases (f x).findSome? g <;> rfl
theorem sT {α β:Type} {g:α->List β} {B:Nat}:∀ {l:List α},(∀ x ∈ l,(g x).length<=B)->(l.flatMap g).length<=B*l.length
 | [],_=>by simp
 | x::r,h=>by
   have aq:=h x (by simp)
   have aC:=sT (l:=r) (fun y hy=>h y (by simp [hy]))
   simp only [List.flatMap_cons,List.length_append,List.length_cons,Nat.mul_succ]
   omega
def iQ (k:Kind):List (List UInt8):=if k.aG= [] then [] else [k.aG]
def mt (m:Method):List (List UInt8):=m.bA.flatMap iQ++iQ m.Returns++m.bi.map (·.aG)
def sN (c:aG):List (List UInt8):=c.Fields.flatMap (fun f=>iQ f.Kind)++c.aE.flatMap mt
def oL (l:List aG):List (List UInt8):=l.flatMap sN
def iY (l:List aG) (s:List UInt8):Option Int:=if 0 <=dm l s then none else some 5
theorem qZ (k:Kind):(iQ k).length<= 1 :=by unfold iQ;split <;> simp
section
variable {F:Nat} {l:List aG}
theorem RI (h:Right l) {c:aG} (hc:c ∈ l) {m:Method} (hm:m ∈ c.aE):(mt m).length<= 9 :=by
 have aq:=h.method c hc m hm
 have aC:=sT (l:=m.bA) (g:=iQ) (B:=1) (fun k _=>qZ k)
 have bw:=qZ m.Returns
 unfold mt
 simp only [List.length_append,List.length_map]
 omega
theorem Pw (h:Right l) {c:aG} (hc:c ∈ l):(sN c).length<= 78 :=by
 have aq:=sT (l:=c.Fields) (g:=fun f=>iQ f.Kind) (B:=1) (fun f _=>qZ f.Kind)
 have aC:=sT (l:=c.aE) (g:=mt) (B:=9) (fun m hm=>RI h hc hm)
 have bw:=h.fields c hc
 have dz:=h.methods c hc
 unfold sN
 simp only [List.length_append]
 omega
theorem js {b:Nat} {α:Type} {acc r:List α} (h:(acc.length+r.length)*b<= 140737488355328):ei b acc r=some (acc++r):=by unfold ei;rw [if_pos h]
theorem MH {acc:List (List UInt8)} (h:acc.length<= 5000) (k:Kind):vS k acc=some (acc++iQ k):=by
 unfold vS iQ
 by_cases e:k.aG= []
 · rw [decide_eq_true e,if_pos e];simp
 · rw [decide_eq_false e,if_neg e]
   simp only [Bool.not_false,cond_true]
   rw [js (by simp only [List.length_cons,List.length_nil];omega)];rfl
theorem akb (bu:1100 <F) (h:Right l) (m:List (List UInt8 × Int)) (s:List Int):rs F ⟨l,m,s⟩ F [] 0 =some (oL l):=by
 have hlen:=h.len
 have:=sr (l:=l) (fun k acc i=>rs F ⟨l,m,s⟩ k acc (i:Int)) sN 78 2000 (fun c hc=>Pw h hc) (fun k i c acc af sY=>by
  have hc:=List.mem_of_getElem? af
  have qq:=h.fields c hc
  have pj:=h.methods c hc
  have hi:=(List.getElem?_eq_some_iff.1 af).1
  have gy:∀ acc:List (List UInt8),acc.length<= 2000 ->ru c F acc 0 =some (acc++c.Fields.flatMap fun f=>iQ f.Kind):=fun acc a'=>
   sr (l:=c.Fields) (fun k acc i=>ru c k acc (i:Int)) (fun f=>iQ f.Kind) 1 3000 (fun f _=>qZ f.Kind) (fun k i f acc af sY=>by
    have hi:=(List.getElem?_eq_some_iff.1 af).1
    rw [ru,cL hi,cond_true,b3 af,Option.bind_some,MH (by omega),Option.bind_some,gB hi (by omega)]) (fun k acc=>by rw [ru,cK];rfl) (by omega) (by omega)
  have mE:∀ acc:List (List UInt8),acc.length<= 2100 ->rv F c F acc 0 =some (acc++c.aE.flatMap mt):=fun acc a'=>
   sr (l:=c.aE) (fun k acc i=>rv F c k acc (i:Int)) mt 9 3000 (fun m hm=>RI h hc hm) (fun k i m acc af sY=>by
    have hm:=List.mem_of_getElem? af
    have hi:=(List.getElem?_eq_some_iff.1 af).1
    obtain ⟨dz,jx⟩:=h.method c hc m hm
    have Bz:ry m F acc 0 =some (acc++m.bA.flatMap iQ):=sr (l:=m.bA) (fun k acc i=>ry m k acc (i:Int)) iQ 1 3100 (fun k _=>qZ k) (fun k i x acc af sY=>by
     have hi:=(List.getElem?_eq_some_iff.1 af).1
     rw [ry,cL hi,cond_true,b3 af,Option.bind_some,MH (by omega),Option.bind_some,gB hi (by omega)]) (fun k acc=>by rw [ry,cK];rfl) (by omega) (by omega)
    have aZ:=sT (l:=m.bA) (g:=iQ) (B:=1) (fun k _=>qZ k)
    have anw:=qZ m.Returns
    have K9:∀ acc:List (List UInt8),acc.length<= 3200 ->rz m F acc 0 =some (acc++m.bi.flatMap fun h=>[h.aG]):=fun acc a'=>
     sr (l:=m.bi) (fun k acc i=>rz m k acc (i:Int)) (fun h=>[h.aG]) 1 3300 (fun k _=>by simp) (fun k i x acc af sY=>by
      have hi:=(List.getElem?_eq_some_iff.1 af).1
      rw [rz,cL hi,cond_true,b3 af,Option.bind_some,js (by simp only [List.length_cons,List.length_nil];omega),Option.bind_some,gB hi (by omega)]) (fun k acc=>by rw [rz,cK];rfl) (by omega) (by omega)
    rw [rv,cL hi,cond_true,b3 af,Option.bind_some,Bz,Option.bind_some,MH (k:=(⟨m.Returns.Kind,m.Returns.aG⟩:Kind)) (by simp only [List.length_append];omega),Option.bind_some,
     K9 _ (by simp only [List.length_append];have:(iQ (⟨m.Returns.Kind,m.Returns.aG⟩:Kind)).length<= 1 :=qZ _;omega),Option.bind_some,Option.bind_some,gB hi (by omega)]
    have e:(m.bi.flatMap fun h=>[h.aG])=m.bi.map (·.aG):=by
     induction m.bi with
     | nil=>rfl
     | cons x r cb=>rw [List.flatMap_cons,cb];rfl
    rw [e]
    unfold mt
    simp only [List.append_assoc]) (fun k acc=>by rw [rv,cK];rfl) (by omega) (by omega)
  have aZ:=sT (l:=c.Fields) (g:=fun f=>iQ f.Kind) (B:=1) (fun f _=>qZ f.Kind)
  rw [rs]
  have AV:decide ((i:Int) <((⟨l,m,s⟩:cZ).l.length:Int))=true:=cL (n:=l.length) hi
  rw [AV,cond_true]
  show (Option.bind (α:=List (List UInt8)) ((idx l (i:Int)).bind fun bX=>_) _)=_
  rw [b3 af,Option.bind_some,gy acc (by omega),Option.bind_some,mE _ (by simp only [List.length_append];omega),Option.bind_some,Option.bind_some,gB hi (by omega)]
  unfold sN
  simp only [List.append_assoc]) (fun k acc=>by
   rw [rs]
   show cond (decide ((l.length:Int) <(l.length:Int))) _ _=_
   rw [cK];rfl) (F:=F) (by omega) (acc:=[]) (by simp;omega)
 simpa [oL] using this
theorem LF (s:List UInt8):(cW (fg 0 l) s).isSome=decide (0 <=dm l s):=by
 rw [xW]
 unfold dm
 cases eT (iP s) l with
 | none=>simp
 | some i=>simp
theorem aj' (bu:1100 <F) (h:Right l) (s:List Int):BG F ⟨l,fg 0 l,s⟩=some (((oL l).findSome? (iY l)).getD 0):=by
 have hlen:=h.len
 unfold BG
 have bt:=akb bu h (fg 0 l) s
 have anD:(oL l).length<= 780 :=by
  have:=sT (l:=l) (g:=sN) (B:=78) (fun c hc=>Pw h hc)
  unfold oL;omega
 rw [bt,Option.bind_some]
 have K':tI ⟨l,fg 0 l,s⟩ (oL l) F 0 =some (dv ((oL l).findSome? (iY l))):=each (iY l) (by omega) (fun k i x af=>by
  rw [tI,cL (List.getElem?_eq_some_iff.1 af).1,cond_true,b3 af,Option.bind_some]
  show cond (!(cW (fg 0 l) x).isSome) _ _=_
  rw [LF]
  unfold iY
  by_cases e:0 <=dm l x
  · rw [decide_eq_true e,if_pos e];rfl
  · rw [decide_eq_false e,if_neg e];rfl) (fun k=>by rw [tI,cK];rfl) (by omega)
 rw [K']
 cases (oL l).findSome? (iY l) <;> rfl
def lP (l:List aG) (k:Kind):Option Int:=(iQ k).findSome? (iY l)
theorem SB {s:List UInt8}:iY l s=none\/iY l s=some 5 :=by unfold iY;split <;> simp
theorem pf {α:Type} {g:α->Option Int} {e:Int} (c0:∀ x,g x=none\/g x=some e):∀ r:List α,r.findSome? g=none\/r.findSome? g=some e
 | []=>.inl rfl
 | x::r=>by
   rw [List.findSome?_cons]
   rcases c0 x with h | h
   · rw [h];exact pf c0 r
   · rw [h];exact .inr rfl
theorem aha (k:Kind):lP l k=if k.aG= []\/ 0 <=dm l k.aG then none else some 5 :=by
 unfold lP iQ iY
 by_cases e:k.aG= []
 · simp [e]
 · by_cases bI:0 <=dm l k.aG <;> simp [e,bI]
theorem GY (h:Small F l.length) {xI:List Kind} (aZ:Small F xI.length):zq F l xI=some (xI.findSome? (lP l)).isNone:=by
 unfold zq
 have l1:=each (l:=xI) (L:=wP F xI l) (fun k=>(lP l k).map fun _=>false) aZ.1 (fun k i x af=>by
  rw [wP,cL (List.getElem?_eq_some_iff.1 af).1,cond_true,b3 af,Option.bind_some,Option.bind_some,sl h,Option.bind_some,aha]
  by_cases e:x.aG= []
  · rw [if_pos (.inl e),decide_eq_true e];rfl
  · rw [decide_eq_false e]
    by_cases bI:0 <=dm l x.aG
    · rw [if_pos (.inr bI),decide_eq_false (show ¬ dm l x.aG < 0 by omega)];rfl
    · rw [if_neg (by simp [e,bI]),decide_eq_true (show dm l x.aG < 0 by omega)];rfl) (fun k=>by rw [wP,cK];rfl) aZ.2
 rw [l1,DY]
 cases xI.findSome? (lP l) <;> rfl
theorem Kj {o:Option Int} (h:o=none\/o=some 5) (Y:Option (Way Int Unit)):cond (!o.isNone) (some (.out 5)) Y=hV o Y:=by rcases h with h | h <;> rw [h] <;> rfl
theorem K3 (k:Kind):lP l k=none\/lP l k=some 5 :=pf (fun _=>SB) _
theorem Co {o j3:Option Int} {Y:Option (Way Int Unit)}:hV o (hV j3 Y)=hV (o.or j3) Y:=by cases o <;> rfl
theorem aka (bu:1100 <F) (h:Right l):wN F l F 0 =some (dv ((oL l).findSome? (iY l))):=by
 have hlen:=h.len
 have:=each (l:=l) (L:=wN F l) (fun c=>(sN c).findSome? (iY l)) (by omega) (fun k n c af=>by
  have hc:=List.mem_of_getElem? af
  have qq:=h.fields c hc
  have pj:=h.methods c hc
  have K':y7 F l (n:Int) F 0 =some (dv (c.Fields.findSome? fun f=>lP l f.Kind)):=each (l:=c.Fields) (fun f=>lP l f.Kind) (by omega) (fun k i f hy=>by
   rw [y7,b3 af,Option.bind_some,cL (List.getElem?_eq_some_iff.1 hy).1,cond_true,Option.bind_some,b3 hy,Option.bind_some,GY ⟨by omega,by omega⟩ ⟨by simp,by simp;omega⟩,Option.bind_some]
   have e:[(⟨f.Kind.Kind,f.Kind.aG⟩:Kind)].findSome? (lP l)=lP l f.Kind:=RO
   rw [e]
   exact Kj (K3 _) _) (fun k=>by rw [y7,b3 af,Option.bind_some,cK];rfl) (by omega)
  have ahF:y8 F l (n:Int) F 0 =some (dv (c.aE.findSome? fun m=>(mt m).findSome? (iY l))):=each (l:=c.aE) (fun m=>(mt m).findSome? (iY l)) (by omega) (fun k i m hy=>by
   have hm:=List.mem_of_getElem? hy
   obtain ⟨dz,jx⟩:=h.method c hc m hm
   have ahG:y9 F l m F 0 =some (dv (m.bi.findSome? fun x=>iY l x.aG)):=each (l:=m.bi) (fun x=>iY l x.aG) (by omega) (fun k i x cT=>by
    rw [y9,cL (List.getElem?_eq_some_iff.1 cT).1,cond_true,b3 cT,Option.bind_some,sl ⟨by omega,by omega⟩,Option.bind_some]
    unfold iY
    by_cases bI:0 <=dm l x.aG
    · rw [if_pos bI,decide_eq_false (show ¬ dm l x.aG < 0 by omega)];rfl
    · rw [if_neg bI,decide_eq_true (show dm l x.aG < 0 by omega)];rfl) (fun k=>by rw [y9,cK];rfl) (by omega)
   have e:[(⟨m.Returns.Kind,m.Returns.aG⟩:Kind)].findSome? (lP l)=lP l m.Returns:=RO
   rw [y8,b3 af,Option.bind_some,cL (List.getElem?_eq_some_iff.1 hy).1,cond_true,Option.bind_some,b3 hy,Option.bind_some,GY ⟨by omega,by omega⟩ ⟨by omega,by omega⟩,Option.bind_some,GY ⟨by omega,by omega⟩ ⟨by simp,by simp;omega⟩,Option.bind_some,ahG,e,l0]
   rw [Kj (K3 _),Kj (pf (fun k=>K3 k) _),Co,Co,ns,lY]
   congr 1
   unfold mt
   rw [List.findSome?_append,List.findSome?_append,z7,List.findSome?_map]
   cases hx:m.bA.findSome? (lP l) with
   | some a=>
     have:(m.bA.findSome? fun x=>(iQ x).findSome? (iY l))=some a:=hx
     rw [this];rfl
   | none=>
     have:(m.bA.findSome? fun x=>(iQ x).findSome? (iY l))=none:=hx
     rw [this];rfl) (fun k=>by rw [y8,b3 af,Option.bind_some,cK];rfl) (by omega)
  rw [wN,cL (List.getElem?_eq_some_iff.1 af).1,cond_true,K',ahF,l0,l0,Co,ns,lY]
  congr 1
  unfold sN
  rw [List.findSome?_append,z7,z7]
  rfl) (fun k=>by rw [wN,cK];rfl) (F:=F) (by omega)
 rw [this,oL,z7]
end
end Cin
namespace Cin
theorem EF {κ β:Type} [DecidableEq κ] {k:κ} {v:β}:∀ m:List (κ × β),(gW m k v).length=if (cW m k).isSome then m.length else m.length+ 1
 | []=>rfl
 | p::r=>by
   simp only [gW,cW]
   by_cases h:p.1 =k
   · simp [h]
   · simp only [if_neg h,List.length_cons,EF r]
     split <;> rfl
theorem BM {κ β:Type} [DecidableEq κ] {k s:κ} {v:β}:∀ m:List (κ × β),(cW (gW m k v) s).isSome=true ↔ s=k\/(cW m s).isSome=true
 | []=>by
   simp only [gW,cW]
   by_cases h:k=s
   · simp [h]
   · simp [h];exact fun e=>h e.symm
 | p::r=>by
   have cb:=BM (k:=k) (s:=s) (v:=v) r
   simp only [gW]
   by_cases h:p.1 =k
   · rw [if_pos h]
     simp only [cW]
     by_cases e:k=s
     · simp [e]
     · have bI: ¬ p.1 =s:=fun x=>e (h.symm.trans x)
       rw [if_neg e,if_neg bI]
       constructor
       · exact fun x=>.inr x
       · rintro (x | x)
         · exact absurd x.symm e
         · exact x
   · rw [if_neg h]
     simp only [cW]
     by_cases e:p.1 =s
     · simp [e]
     · rw [if_neg e,if_neg e];exact cb
def qn (er:List (List UInt8)):Option Int:=if er.Nodup then none else some 6
section
variable {F:Nat} {l:List aG}
theorem SC (bu:1100 <F) {er:List (List UInt8)} (ad:er.length<= 1000):xN F er=some (decide (¬ er.Nodup)):=by
 have key:∀ (d i k:Nat) (m:List (List UInt8 × Bool)),i+d=er.length->d <k->(∀ s,(cW m s).isSome=true ↔ s ∈ er.take i)->m.length<=i->(m.length=i ↔ (er.take i).Nodup) ->
  ∃ hh,tJ er k m (i:Int)=some hh/\hh.length<=er.length/\(hh.length=er.length ↔ er.Nodup):=by
  intro d
  induction d with
  | zero=>
    intro i k m hi aZ aq aC bw
    obtain ⟨k,rfl⟩:∃ k',k=k'+ 1 :=⟨k - 1,by omega⟩
    have:i=er.length:=by omega
    subst this
    rw [List.take_length] at bw
    exact ⟨m,by rw [tJ,cK];rfl,aC,bw⟩
  | succ d cb=>
    intro i k m hi aZ aq aC bw
    obtain ⟨k,rfl⟩:∃ k',k=k'+ 1 :=⟨k - 1,by omega⟩
    have fw:i <er.length:=by omega
    have bn:er.take (i+ 1)=er.take i++[er[i]]:=by rw [List.take_add_one,List.getElem?_eq_getElem fw];rfl
    rw [tJ,cL fw,cond_true,b3 (List.getElem?_eq_getElem fw),Option.bind_some,gB fw (by omega)]
    refine cb (i+ 1) k _ (by omega) (by omega) (fun s=>?_) ?_ ?_
    · rw [BM,aq,bn,List.mem_append,List.mem_singleton]
      constructor
      · rintro (h | h)
        · exact .inr h
        · exact .inl h
      · rintro (h | h)
        · exact .inr h
        · exact .inl h
    · rw [EF];split <;> omega
    · rw [EF,bn,List.nodup_append]
      by_cases hm:(cW m er[i]).isSome=true
      · rw [if_pos hm]
        have:=(aq er[i]).1 hm
        constructor
        · intro h;omega
        · rintro ⟨_,_,h⟩;exact absurd rfl (h _ this _ (by simp))
      · rw [if_neg hm]
        have:er[i] ∉ er.take i:=fun h=>hm ((aq er[i]).2 h)
        constructor
        · intro h
          exact ⟨bw.1 (by omega),by simp,fun a a' b aM e=>by
           rw [List.mem_singleton] at aM;subst aM;exact this (e ▸ a')⟩
        · rintro ⟨h,_,_⟩
          have:=bw.2 h
          omega
 obtain ⟨hh,aq,aC,bw⟩:=key er.length 0 F [] (by omega) (by omega) (fun s=>by simp [cW]) (by simp) (by simp)
 unfold xN
 rw [show (0 :Int)=((0 :Nat):Int) from rfl,aq,Option.bind_some]
 congr 1
 by_cases bG:er.Nodup
 · have:=bw.2 bG
   rw [decide_eq_false (by omega),decide_eq_false (by simp [bG])]
 · have:hh.length≠er.length:=fun e=>bG (bw.1 e)
   rw [decide_eq_true (by omega),decide_eq_true bG]
def HH {α:Type} (nm:α->List UInt8) (r:List α):Option Int:=(List.range r.length).findSome? fun k=>(List.range k).findSome? fun j=>if (r[j]?).map nm=(r[k]?).map nm then some 6 else none
theorem PC {α:Type} (nm:α->List UInt8) (r:List α):HH nm r=qn (r.map nm):=by
 have U:HH nm r=none\/HH nm r=some 6 :=pf (fun k=>pf (fun j=>by split <;> simp) _) _
 unfold qn
 by_cases bG:(r.map nm).Nodup
 · rw [if_pos bG]
   rcases U with h | h
   · exact h
   · exfalso
     obtain ⟨k,aZ,aq⟩:=List.exists_of_findSome?_eq_some h
     obtain ⟨j,bf,aC⟩:=List.exists_of_findSome?_eq_some aq
     simp only [List.mem_range] at aZ bf
     split at aC
     · rename_i e
       have:=List.pairwise_iff_getElem.1 bG j k (by simp;omega) (by simpa using aZ) bf
       apply this
       rw [List.getElem?_eq_getElem (by omega),List.getElem?_eq_getElem aZ] at e
       simpa using e
     · cases aC
 · rw [if_neg bG]
   rcases U with h | h
   · exfalso
     apply bG
     refine List.pairwise_iff_getElem.2 fun j k bf aZ vy e=>?_
     have aq:=List.findSome?_eq_none_iff.1 h k (by simpa using aZ)
     have aC:=List.findSome?_eq_none_iff.1 aq j (by simpa using vy)
     simp only [List.length_map] at bf aZ
     rw [List.getElem?_eq_getElem bf,List.getElem?_eq_getElem aZ] at aC
     simp only [List.getElem_map] at e
     rw [if_pos (by simp [e])] at aC
     cases aC
   · exact h
theorem Vp (bu:1100 <F) (r:List Field) (bm:r.length<= 1000):yY F r F 0 =some (dv (qn (r.map (·.Name)))):=by
 rw [<-PC]
 exact kd _ (by omega) (fun k i hi=>by
  have K4:yZ r (i:Int) F 0 =some (dv ((List.range i).findSome? fun j=>if (r[j]?).map (·.Name)=(r[i]?).map (·.Name) then some 6 else none)):=kd _ (by omega) (fun k j bf=>by
   rw [yZ,cL bf,cond_true,b3 (List.getElem?_eq_getElem (show j <r.length by omega)),Option.bind_some,b3 (List.getElem?_eq_getElem hi),Option.bind_some,List.getElem?_eq_getElem (show j <r.length by omega),List.getElem?_eq_getElem hi]
   simp only [Option.map_some,Option.some.injEq]
   by_cases e:r[j].Name=r[i].Name
   · rw [decide_eq_true e,if_pos e];rfl
   · rw [decide_eq_false e,if_neg e];rfl) (fun k=>by rw [yZ,cK];rfl) (by omega)
  rw [yY,cL hi,cond_true,K4,l0,ns,lY]) (fun k=>by rw [yY,cK];rfl) (by omega)
theorem Vq (bu:1100 <F) (c:aG) (bm:c.aE.length<= 1000):y0 F c F 0 =some (dv (qn (c.aE.map (·.Name)))):=by
 rw [<-PC]
 exact kd _ (by omega) (fun k i hi=>by
  have K4:y1 c (i:Int) F 0 =some (dv ((List.range i).findSome? fun j=>if (c.aE[j]?).map (·.Name)=(c.aE[i]?).map (·.Name) then some 6 else none)):=kd _ (by omega) (fun k j bf=>by
   rw [y1,cL bf,cond_true,b3 (List.getElem?_eq_getElem (show j <c.aE.length by omega)),Option.bind_some,b3 (List.getElem?_eq_getElem hi),Option.bind_some,List.getElem?_eq_getElem (show j <c.aE.length by omega),List.getElem?_eq_getElem hi]
   simp only [Option.map_some,Option.some.injEq]
   by_cases e:c.aE[j].Name=c.aE[i].Name
   · rw [decide_eq_true e,if_pos e];rfl
   · rw [decide_eq_false e,if_neg e];rfl) (fun k=>by rw [y1,cK];rfl) (by omega)
  rw [y0,cL hi,cond_true,K4,l0,ns,lY]) (fun k=>by rw [y0,cK];rfl) (by omega)
def tO (l:List aG) (i:Nat):Option Int:=(qn ((fE l i).map (·.Name))).or (qn ((ff l i).map (·.Name)))
theorem PX (h:hq l) {n:Int} (bk:0 <=n) (aq:n <l.length):(fE l n).length<= 60 :=by
 obtain ⟨_,ag,_⟩:=h.chain bk aq
 have:=HO h.right (dW l n).reverse
 unfold fE
 simp only [List.length_reverse] at this
 omega
theorem PD {er:List (List UInt8)} {Y:Option (Way Int Unit)}:cond (decide (¬ er.Nodup)) (some (.out 6)) Y=hV (qn er) Y:=by
 unfold qn
 by_cases h:er.Nodup
 · rw [if_pos h,decide_eq_false (by simp [h])];rfl
 · rw [if_neg h,decide_eq_true h];rfl
theorem RG {i:Nat} {c:aG} (h:l[i]? =some c):ff l (i:Int)=c.aE:=by unfold ff;rw [b3 h];rfl
theorem ail (bu:1100 <F) (h:hq l):y_ F l F 0 =some (dv ((List.range l.length).findSome? (tO l))):=by
 have hlen:=h.right.len
 exact kd _ (by omega) (fun k i hi=>by
  obtain ⟨c,af⟩:∃ x,l[i]? =some x:=⟨l[i],List.getElem?_eq_getElem hi⟩
  have pj:=h.right.methods c (List.mem_of_getElem? af)
  have Ql:=PX h (n:=(i:Int)) (by omega) (by omega)
  rw [y_,cL hi,cond_true,h.Mo bu (by omega) (by omega),Option.bind_some,Vp bu _ (by omega),l0,b3 af,Option.bind_some,Vq bu c (by omega),l0,Co,ns,lY]
  unfold tO
  rw [RG af]) (fun k=>by rw [y_,cK];rfl) (by omega)
theorem aik (bu:1100 <F) (h:hq l) (m:List (List UInt8 × Int)):BE F ⟨l,m,dC l⟩=some (((List.range l.length).findSome? (tO l)).getD 0):=by
 have hlen:=h.right.len
 have:=kd (n:=l.length) (L:=tF F ⟨l,m,dC l⟩) (tO l) (by omega) (fun k i hi=>by
  obtain ⟨c,af⟩:∃ x,l[i]? =some x:=⟨l[i],List.getElem?_eq_getElem hi⟩
  have pj:=h.right.methods c (List.mem_of_getElem? af)
  have Ql:=PX h (n:=(i:Int)) (by omega) (by omega)
  have gy:rq (fE l i) F [] 0 =some ((fE l i).map (·.Name)):=by
   have:=sr (l:=fE l i) (fun k acc Br=>rq (fE l i) k acc (Br:Int)) (fun f=>[f.Name]) 1 3000 (fun f _=>by simp) (fun k j x acc af sY=>by
    have bf:=(List.getElem?_eq_some_iff.1 af).1
    rw [rq,cL bf,cond_true,b3 af,Option.bind_some,js (by simp only [List.length_cons,List.length_nil];omega),Option.bind_some,gB bf (by omega)]) (fun k acc=>by rw [rq,cK];rfl) (F:=F) (by omega) (acc:=[]) (by simp;omega)
   rw [show (0 :Int)=((0 :Nat):Int) from rfl,this]
   congr 1
   rw [List.nil_append]
   induction fE l i with
   | nil=>rfl
   | cons x r cb=>rw [List.flatMap_cons,cb];rfl
  have mE:rr c F [] 0 =some (c.aE.map (·.Name)):=by
   have:=sr (l:=c.aE) (fun k acc Br=>rr c k acc (Br:Int)) (fun f=>[f.Name]) 1 3000 (fun f _=>by simp) (fun k j x acc af sY=>by
    have bf:=(List.getElem?_eq_some_iff.1 af).1
    rw [rr,cL bf,cond_true,b3 af,Option.bind_some,js (by simp only [List.length_cons,List.length_nil];omega),Option.bind_some,gB bf (by omega)]) (fun k acc=>by rw [rr,cK];rfl) (F:=F) (by omega) (acc:=[]) (by simp;omega)
   rw [show (0 :Int)=((0 :Nat):Int) from rfl,this]
   congr 1
   rw [List.nil_append]
   induction c.aE with
   | nil=>rfl
   | cons x r cb=>rw [List.flatMap_cons,cb];rfl
  rw [tF]
  have AV:decide ((i:Int) <((⟨l,m,dC l⟩:cZ).l.length:Int))=true:=cL (n:=l.length) hi
  have abC:=h.Lg bu m (n:=(i:Int)) (by omega) (by omega)
  rw [AV,cond_true]
  show dG (α:=Unit) ((idx l (i:Int)).bind fun dE=>(tA F ⟨l,m,dC l⟩ (i:Int)).bind fun fz=>_) _=_
  rw [b3 af,Option.bind_some,abC,Option.bind_some,gy,Option.bind_some,mE,Option.bind_some,SC bu (by simp;omega),Option.bind_some,SC bu (by simp;omega),Option.bind_some,PD,PD,Co,ns,lY]
  unfold tO
  rw [RG af]) (fun k=>by
   rw [tF]
   show cond (decide ((l.length:Int) <(l.length:Int))) _ _=_
   rw [cK];rfl) (F:=F) (by omega)
 unfold BE
 rw [this]
 cases (List.range l.length).findSome? (tO l) <;> rfl
theorem So {a b:List Kind} (a':a.length<= 1000) (aM:b.length<= 1000) (bu:1100 <F):uL F a b=some (decide (a=b)):=by
 unfold uL
 by_cases ag:a.length=b.length
 · rw [decide_eq_true (show (a.length:Int)=(b.length:Int) by omega)]
   simp only [Bool.not_true,cond_false]
   have l1:o6 a b F 0 =some (dv ((List.range a.length).findSome? fun i=>if a[i]? =b[i]? then none else some false)):=kd _ (by omega) (fun k i hi=>by
    rw [o6,cL hi,cond_true,b3 (List.getElem?_eq_getElem hi),Option.bind_some,b3 (List.getElem?_eq_getElem (show i <b.length by omega)),Option.bind_some,List.getElem?_eq_getElem hi,List.getElem?_eq_getElem (show i <b.length by omega)]
    simp only [Option.some.injEq]
    by_cases e:a[i]=b[i]
    · rw [decide_eq_true e,if_pos e];rfl
    · rw [decide_eq_false e,if_neg e];rfl) (fun k=>by rw [o6,cK];rfl) (by omega)
   rw [l1,l2]
   cases I:(List.range a.length).findSome? fun i=>if a[i]? =b[i]? then none else some false with
   | some e=>
     obtain ⟨i,hi,aq⟩:=List.exists_of_findSome?_eq_some I
     split at aq
     · cases aq
     · rename_i eS
       injection aq with aq
       subst aq
       rw [decide_eq_false (fun e=>eS (by rw [e]))];rfl
   | none=>
     rw [decide_eq_true];rfl
     apply List.ext_getElem?
     intro i
     by_cases hi:i <a.length
     · have:=List.findSome?_eq_none_iff.1 I i (by simpa using hi)
       split at this
       · assumption
       · cases this
     · rw [List.getElem?_eq_none (by omega),List.getElem?_eq_none (by omega)]
 · rw [decide_eq_false (show ¬ (a.length:Int)=(b.length:Int) by omega),decide_eq_false (fun e=>ag (by rw [e]))];rfl
theorem VJ {a b:List Kind} (a':a.length<= 1000) (aM:b.length<= 1000) (bu:1100 <F):Cd F a b=some (decide (a=b)):=by
 rw [<-So a' aM bu]
 unfold Cd uL
 have e:∀ k n,wk a b k n=o6 a b k n:=by
  intro k
  induction k with
  | zero=>intro n;rfl
  | succ k cb=>intro n;rw [wk,o6];simp only [cb]
 rw [e]
def HC (a b:Method):Bool:=decide (a.Name=b.Name) && (a.Static || b.Static || !decide (a.bA=b.bA) || !decide (a.Returns=b.Returns))
def mV (a b:Method):Option Int:=if HC a b then some 4 else none
def qk (l:List aG) (c:aG) (u:Int):Option Int:=c.aE.findSome? fun a=>(ff l u).findSome? (mV a)
def xP (l:List aG) (c:aG) (i:Nat):Option Int:=(dW l i).tail.findSome? (qk l c)
theorem U7 (a b:Method):mV a b=none\/mV a b=some 4 :=by unfold mV;split <;> simp
theorem Pk (c:aG) (u:Int):qk l c u=none\/qk l c u=some 4 :=pf (fun _=>pf (fun _=>U7 _ _) _) _
theorem VX {α:Type} {g:α->Option Int} {e:Int} (c0:∀ x,g x=none\/g x=some e) (r:List α):r.reverse.findSome? g=r.findSome? g:=by
 rcases pf c0 r with h | h
 · rw [h,List.findSome?_eq_none_iff]
   intro x af
   exact List.findSome?_eq_none_iff.1 h x (by simpa using af)
 · rw [h]
   rcases pf c0 r.reverse with aC | aC
   · obtain ⟨x,af,bw⟩:=List.exists_of_findSome?_eq_some h
     have:=List.findSome?_eq_none_iff.1 aC x (by simpa using af)
     rw [bw] at this;cases this
   · exact aC
theorem ah6 (bu:1100 <F) (h:hq l) (m:List (List UInt8 × Int)):BD F ⟨l,m,dC l⟩=some (((List.range l.length).findSome? fun i=>(l[i]?).bind fun c=>xP l c i).getD 0):=by
 have hlen:=h.right.len
 have:=kd (n:=l.length) (L:=tC F ⟨l,m,dC l⟩) (fun i=>(l[i]?).bind fun c=>xP l c i) (by omega) (fun k i hi=>by
  obtain ⟨c,af⟩:∃ x,l[i]? =some x:=⟨l[i],List.getElem?_eq_getElem hi⟩
  have k6:=List.mem_of_getElem? af
  have pj:=h.right.methods c k6
  obtain ⟨Im,lM,s3⟩:=h.chain (n:=(i:Int)) (by omega) (by omega)
  obtain ⟨r,bm⟩:=MJ Im (by omega)
  have Bz:∀ (a:Method),a ∈ c.aE-> ∀ (u:aG),u ∈ l->rp F a u F 0 =some (dv (u.aE.findSome? (mV a))):=fun a a' u hu=>each (mV a) (by have:=h.right.methods u hu;omega) (fun k j b aM=>by
   have Ih:=List.mem_of_getElem? aM
   have XR:=h.right.method c k6 a a'
   have YQ:=h.right.method u hu b Ih
   rw [rp,cL (List.getElem?_eq_some_iff.1 aM).1,cond_true,b3 aM,Option.bind_some]
   unfold Ey
   simp only
   rw [VJ (by omega) (by omega) bu]
   unfold mV HC
   show cond _ (Option.bind (cond _ (Option.bind _ fun r=>cond r (some (decide (a.Returns=b.Returns))) _) _) _) _=_
   by_cases ad:a.Name=b.Name
   · rw [decide_eq_true ad]
     simp only [Option.bind_some,cond_true,Bool.true_and]
     cases a.Static <;> cases b.Static <;> cases decide (a.bA=b.bA) <;> cases decide (a.Returns=b.Returns) <;> rfl
   · rw [decide_eq_false ad];rfl) (fun k=>by rw [rp,cK];rfl) (by have:=h.right.methods u hu;omega)
  have mE:∀ (x:Int),0 <=x->x <l.length->tE F ⟨l,m,dC l⟩ c x F 0 =some (dv (qk l c x)):=fun x bk aq=>each (fun a=>(ff l x).findSome? (mV a)) (by omega) (fun k j a a'=>by
   obtain ⟨u,hu,_⟩:=rP (l:=l) bk aq
   have Ej:u ∈ l:=by obtain ⟨_,_,aC⟩:=ti hu;exact List.mem_of_getElem? aC
   have hm:ff l x=u.aE:=by unfold ff;rw [hu];rfl
   rw [tE,cL (List.getElem?_eq_some_iff.1 a').1,cond_true,b3 a',Option.bind_some]
   show dG (α:=Unit) ((idx l x).bind fun fp=>_) _=_
   rw [hu,Option.bind_some,Bz a (List.mem_of_getElem? a') u Ej,l0,ns,lY,hm]) (fun k=>by rw [tE,cK];rfl) (by omega)
  have gy:tD F ⟨l,m,dC l⟩ c (dW l i).tail F 0 =some (dv ((dW l i).tail.findSome? (qk l c))):=each (qk l c) (by simp;omega) (fun k j x Kc=>by
   have aM:=s3 x (List.mem_of_mem_tail (List.mem_of_getElem? Kc))
   rw [tD,cL (List.getElem?_eq_some_iff.1 Kc).1,cond_true,b3 Kc,Option.bind_some,mE x aM.1 aM.2,l0,ns,lY]) (fun k=>by rw [tD,cK];rfl) (by simp;omega)
  rw [tC]
  have AV:decide ((i:Int) <((⟨l,m,dC l⟩:cZ).l.length:Int))=true:=cL (n:=l.length) hi
  have ady:=h.Lf bu m (n:=(i:Int)) (by omega) (by omega)
  rw [AV,cond_true]
  show dG (α:=Unit) ((idx l (i:Int)).bind fun ck=>(rm F ⟨l,m,dC l⟩ (i:Int)).bind fun mJ=>_) _=_
  have aaL:cut (dW l i) 1 ((dW l i).length:Int)=some (dW l i).tail:=by
   unfold cut
   rw [if_pos (by rw [bm];simp only [List.length_cons];omega)]
   rw [bm];simp
  rw [b3 af,Option.bind_some,ady,Option.bind_some,aaL,Option.bind_some,gy,l0,ns,lY,af]
  rfl) (fun k=>by
   rw [tC]
   show cond (decide ((l.length:Int) <(l.length:Int))) _ _=_
   rw [cK];rfl) (F:=F) (by omega)
 unfold BD
 rw [this]
 cases (List.range l.length).findSome? (fun i=>(l[i]?).bind fun c=>xP l c i) <;> rfl
theorem ah7 (bu:1100 <F) (h:hq l):y2 F l F 0 =some (dv ((List.range l.length).findSome? fun i=>(l[i]?).bind fun c=>xP l c i)):=by
 have hlen:=h.right.len
 exact kd _ (by omega) (fun k i hi=>by
  obtain ⟨c,af⟩:∃ x,l[i]? =some x:=⟨l[i],List.getElem?_eq_getElem hi⟩
  have k6:=List.mem_of_getElem? af
  have pj:=h.right.methods c k6
  obtain ⟨Im,lM,s3⟩:=h.chain (n:=(i:Int)) (by omega) (by omega)
  obtain ⟨r,bm⟩:=MJ Im (by omega)
  have ae_:(dW l i).reverse=(dW l i).tail.reverse++[(i:Int)]:=by rw [bm];simp
  have ahg:y3 F l (i:Int) (dW l i).reverse F 0 =some (dv ((dW l i).tail.reverse.findSome? (qk l c))):=each (l:=(dW l i).tail.reverse) (qk l c) (by simp;omega) (fun k u x Kf=>by
   have Ej:=(List.getElem?_eq_some_iff.1 Kf).1
   have aM:=s3 x (List.mem_of_mem_tail (by simpa using List.mem_of_getElem? Kf))
   obtain ⟨w,hw,_⟩:=rP (l:=l) aM.1 aM.2
   have Ek:w ∈ l:=by obtain ⟨_,_,aC⟩:=ti hw;exact List.mem_of_getElem? aC
   have anE:=h.right.methods w Ek
   have hm:ff l x=w.aE:=by unfold ff;rw [hw];rfl
   have QT:(dW l i).reverse[u]? =some x:=by rw [ae_,List.getElem?_append_left Ej];exact Kf
   have ahh:y4 F l (i:Int) (dW l i).reverse (u:Int) F 0 =some (dv (qk l c x)):=each (l:=c.aE) (fun a=>(ff l x).findSome? (mV a)) (by omega) (fun k j a a'=>by
    have XU:=List.mem_of_getElem? a'
    have ahm:wL F l (i:Int) (dW l i).reverse (u:Int) (j:Int) F 0 =some (dv (w.aE.findSome? (mV a))):=each (l:=w.aE) (mV a) (by omega) (fun k q b aM=>by
     have Ih:=List.mem_of_getElem? aM
     have XR:=h.right.method c k6 a XU
     have YQ:=h.right.method w Ek b Ih
     rw [wL]
     simp only [b3 QT,Option.bind_some,hw,cL (List.getElem?_eq_some_iff.1 aM).1,cond_true,b3 af,b3 a',b3 aM]
     rw [So (by omega) (by omega) bu]
     unfold mV HC
     show cond _ (cond _ _ (Option.bind _ fun r=>cond (!r) _ (cond (!decide (a.Returns=b.Returns)) _ _))) _=_
     by_cases ad:a.Name=b.Name
     · rw [decide_eq_true ad]
       simp only [Option.bind_some,cond_true,Bool.true_and]
       cases a.Static <;> cases b.Static <;> cases decide (a.bA=b.bA) <;> cases decide (a.Returns=b.Returns) <;> rfl
     · rw [decide_eq_false ad];rfl) (fun k=>by rw [wL];simp only [b3 QT,Option.bind_some,hw,cK];rfl) (by omega)
    rw [y4,b3 af,Option.bind_some,cL (List.getElem?_eq_some_iff.1 a').1,cond_true,ahm,l0,ns,lY,hm]) (fun k=>by rw [y4,b3 af,Option.bind_some,cK];rfl) (by omega)
   have AU:decide ((u:Int) <ay (((dW l i).reverse.length:Int) - 1))=true:=by
    rw [dJ (by omega) (by simp;omega)]
    simp only [List.length_reverse,List.length_tail] at Ej
    exact decide_eq_true (by simp only [List.length_reverse];omega)
   rw [y3,AU,cond_true,ahh,l0,ns,lY]) (fun k=>by
    have AU:decide (((dW l i).tail.reverse.length:Int) <ay (((dW l i).reverse.length:Int) - 1))=false:=by
     rw [dJ (by omega) (by simp;omega)]
     exact decide_eq_false (by rw [bm];simp)
    rw [y3,AU];rfl) (by simp;omega)
  rw [y2,cL hi,cond_true,Fw bu h.right (by omega),Option.bind_some,ahg,l0,ns,lY,af,VX (Pk c)]
  rfl) (fun k=>by rw [y2,cK];rfl) (by omega)
end
end Cin
namespace Cin
def wd (W:List Int) (i:Nat):Int:=(W[i]?).getD 0
def yc (k:bb) (t:Int):List Field:=(k.Fields[(t - 3).toNat]?).getD []
def gV (k:bb) (t:Int):Bool:=decide (1 <=t) && decide (t<= 2 +k.aK.length)
def isLen (k:bb) (t n:Int):Bool:=decide (0 <=n) && decide (n<= 500) && (decide (t < 3) || decide (n=(yc k t).length))
def io (k:bb) (t:Int) (j:Nat):Bool:=decide (t= 2) || (decide (3 <=t) && ((yc k t)[j]?.map fun f=>!decide (f.Kind.Kind= 1)).getD false)
structure j' (k:bb):Prop where
 Pj:k.aK.length<= 1000
 lK:k.Fields.length=k.aK.length
theorem oc {W:List Int} {i:Nat} (h:i <W.length):idx W (i:Int)=some (wd W i):=by
 rw [b3 (List.getElem?_eq_getElem h)];unfold wd;rw [List.getElem?_eq_getElem h];rfl
theorem jT {W:List Int} {a:Int} {i:Nat} (e:a=(i:Int)) (h:i <W.length):idx W a=some (wd W i):=by rw [e];exact oc h
theorem agY {k:bb} {t:Int}:gV k t=true ↔ 1 <=t/\t<= 2 +k.aK.length:=by simp [gV]
theorem tt {k:bb} {t n:Int}:isLen k t n=true ↔ (0 <=n/\n<= 500)/\(t < 3 \/n=(yc k t).length):=by simp [isLen]
section
variable {k:bb}
theorem Mw (h:j' k) (t:Int):n4 ⟨k⟩ t=some (gV k t):=by
 have hc:=h.Pj
 unfold n4 k8 gV
 have e:ay (ay (3 +(k.aK.length:Int)) - 1)= 2 +k.aK.length:=by rw [dJ (n:=3 +(k.aK.length:Int)) (by omega) (by omega),dJ (by omega) (by omega)];omega
 simp only [e,Option.bind_some]
 by_cases aq:t= 1
 · subst aq;simp;omega
 by_cases aC:t= 2
 · subst aC;simp;omega
 rw [show ((decide (t= 1)) || (decide (t= 2)))=false by simp [aq,aC],cond_false,Option.some.injEq,Bool.eq_iff_iff]
 simp;omega
theorem Sx (h:j' k) {t:Int} (bt:gV k t=true) (bw: ¬ t < 3):idx k.Fields (ay (t - 3))=some (yc k t):=by
 obtain ⟨aq,aC⟩:=agY.1 bt
 have hc:=h.Pj;have I:=h.lK
 rw [dJ (by omega) (by omega)]
 unfold idx yc
 rw [if_pos (by omega)]
 have:(t - 3).toNat <k.Fields.length:=by omega
 rw [List.getElem?_eq_getElem this];rfl
theorem Mx (h:j' k) {t:Int} (bt:gV k t=true) (n:Int):n5 ⟨k⟩ t n=some (isLen k t n):=by
 unfold n5 k8 isLen
 simp only [Option.bind_some]
 cases aM:(decide (0 <=n) && decide (n<= 500)) with
 | false=>simp
 | true=>
   by_cases bw:t < 3
   · simp [bw]
   · rw [Sx h bt bw];simp [bw]
theorem My (h:j' k) {t:Int} (bt:gV k t=true) {n:Int} (ad:isLen k t n=true) {j:Nat} (bf:(j:Int) <n):m1 ⟨k⟩ t (j:Int)=some (io k t j):=by
 unfold m1 io
 obtain ⟨_,ag⟩:=tt.1 ad
 by_cases aC:t= 2
 · simp [aC]
 by_cases bw:t < 3
 · have: ¬ 3 <=t:=by omega
   simp [aC,this]
 · have ag:=ag.resolve_left bw
   have Wi:3 <=t:=by omega
   have Qq:j <(yc k t).length:=by omega
   rw [Sx h bt bw,Option.bind_some,b3 (List.getElem?_eq_getElem Qq),List.getElem?_eq_getElem Qq]
   simp [aC,Wi]
inductive gi (k:bb) (W:List Int) (to:Nat):Nat->List Int->Prop
 | nil:gi k W to to []
 | cons {q:Nat} {r:List Int}:gV k (wd W q)=true->isLen k (wd W q) (wd W (q+ 1))=true->q+ 3 +(wd W (q+ 1)).toNat<=to->gi k W to (q+ 3 +(wd W (q+ 1)).toNat) r->gi k W to q ((q:Int)::r)
theorem gi.inv {W:List Int} {to q:Nat} {L:List Int} (h:gi k W to q L) (dX:q <to):∃ r,L=(q:Int)::r/\gV k (wd W q)=true/\isLen k (wd W q) (wd W (q+ 1))=true/\q+ 3 +(wd W (q+ 1)).toNat<=to/\gi k W to (q+ 3 +(wd W (q+ 1)).toNat) r:=by
 cases h with
 | nil=>omega
 | cons aq aC bw dz=>exact ⟨_,rfl,aq,aC,bw,dz⟩
theorem aj9 (v:bU) (aY:j' v.S.K) {to:Nat} (Ei:to<=v.H.Words.length) (jh:v.H.Words.length<= 5000):∀ (f q:Nat) (acc:List Int) (m:List (Int × Bool)),q<=to->to - q <f->acc.length+(to - q)<= 5000 ->(∀ p ∈ m,p.1 <(q:Int)) ->
 (∃ L,gi v.S.K v.H.Words to q L/\n6 (to:Int) v f acc m (q:Int)=some (.go (acc++L,m++L.map fun a=>(a,true)))) \/
 ((∀ L,¬ gi v.S.K v.H.Words to q L)/\ ∃ hh,n6 (to:Int) v f acc m (q:Int)=some (.out ([],false,{ v with cj:=hh }))):=by
 intro f
 induction f with
 | zero=>intro q acc m _ h;omega
 | succ f cb=>
   intro q acc m dX I sY hm
   rw [n6]
   by_cases dO:q <to
   case neg=>
    have:q=to:=by omega
    subst this
    refine .inl ⟨[],.nil,?_⟩
    rw [cK];simp
   rw [cL dO,cond_true,dJ (n:=(q:Int)+ 3) (by omega) (by omega)]
   by_cases bw:(to:Int) <(q:Int)+ 3
   · rw [decide_eq_true bw]
     refine .inr ⟨fun L mw=>?_,m,rfl⟩
     obtain ⟨_,_,_,_,h,_⟩:=mw.inv dO
     omega
   rw [decide_eq_false bw,cond_false,oc (by omega),Option.bind_some,dJ (n:=(q:Int)+ 1) (by omega) (by omega),jT (i:=q+ 1) (by omega) (by omega),Option.bind_some]
   have bn:n4 (⟨(⟨v.S.K.aK,v.S.K.aI,v.S.K.Fields,v.S.K.Names,v.S.K.aH⟩:bb)⟩:cd) (wd v.H.Words q)=some (gV v.S.K (wd v.H.Words q)):=Mw aY _
   rw [bn,Option.bind_some]
   cases bt:gV v.S.K (wd v.H.Words q) with
   | false=>
     refine .inr ⟨fun L mw=>?_,m,rfl⟩
     obtain ⟨_,_,h,_⟩:=mw.inv dO
     rw [bt] at h;cases h
   | true=>
     have bI:n5 (⟨(⟨v.S.K.aK,v.S.K.aI,v.S.K.Fields,v.S.K.Names,v.S.K.aH⟩:bb)⟩:cd) (wd v.H.Words q) (wd v.H.Words (q+ 1))=some (isLen v.S.K (wd v.H.Words q) (wd v.H.Words (q+ 1))):=Mx aY bt _
     rw [bI,Option.bind_some,Bool.not_true,cond_false]
     cases ag:isLen v.S.K (wd v.H.Words q) (wd v.H.Words (q+ 1)) with
     | false=>
       refine .inr ⟨fun L mw=>?_,m,rfl⟩
       obtain ⟨_,_,_,h,_⟩:=mw.inv dO
       rw [ag] at h;cases h
     | true=>
       obtain ⟨⟨q0,l1⟩,_⟩:=tt.1 ag
       rw [Bool.not_true,Bool.false_or,dJ (n:=(q:Int)+ 3 +wd v.H.Words (q+ 1)) (by omega) (by omega)]
       by_cases qJ:(to:Int) <(q:Int)+ 3 +wd v.H.Words (q+ 1)
       · rw [decide_eq_true qJ]
         refine .inr ⟨fun L mw=>?_,m,rfl⟩
         obtain ⟨_,_,_,_,h,_⟩:=mw.inv dO
         omega
       rw [decide_eq_false qJ,cond_false,js (by simp;omega),Option.bind_some,dJ (n:=3 +wd v.H.Words (q+ 1)) (by omega) (by omega),dJ (n:=(q:Int)+(3 +wd v.H.Words (q+ 1))) (by omega) (by omega)]
       have vA:cW m (q:Int)=none:=by
        clear cb bn bI
        induction m with
        | nil=>rfl
        | cons p r cb=>
          have bD:=hm p List.mem_cons_self
          rw [cW,if_neg (by omega)]
          exact cb (fun x af=>hm x (List.mem_cons_of_mem _ af))
       rw [Lk vA,show (q:Int)+(3 +wd v.H.Words (q+ 1))=((q+ 3 +(wd v.H.Words (q+ 1)).toNat:Nat):Int) by omega]
       rcases cb (q+ 3 +(wd v.H.Words (q+ 1)).toNat) (acc++[(q:Int)]) (m++[((q:Int),true)]) (by omega) (by omega) (by simp;omega) (fun p bD=>by
        rcases List.mem_append.1 bD with bD | bD
        · have:=hm p bD;omega
        · simp at bD;subst bD;simp;omega) with ⟨L,mw,e⟩ | ⟨ad,hh,e⟩
       · refine .inl ⟨(q:Int)::L,.cons bt ag (by omega) mw,?_⟩
         rw [e];simp
       · refine .inr ⟨fun L mw=>?_,hh,e⟩
         obtain ⟨r,_,_,_,_,h⟩:=mw.inv dO
         exact ad r h
theorem Sz {F:Nat} (bu:6000 <F) (v:bU) (aY:j' v.S.K) {q to:Nat} (dX:q<=to) (Ei:to<=v.H.Words.length) (jh:v.H.Words.length<= 5000) (hm:∀ p ∈ v.cj,p.1 <(q:Int)) :
 (∃ L,gi v.S.K v.H.Words to q L/\k7 F v (q:Int) (to:Int)=some (L,true,{ v with cj:=v.cj++L.map fun a=>(a,true) })) \/
 ((∀ L,¬ gi v.S.K v.H.Words to q L)/\ ∃ hh,k7 F v (q:Int) (to:Int)=some ([],false,{ v with cj:=hh })):=by
 unfold k7
 rcases aj9 v aY Ei jh F q [] v.cj dX (by omega) (by simp;omega) hm with ⟨L,mw,e⟩ | ⟨ad,hh,e⟩
 · exact .inl ⟨L,mw,by rw [e,oJ];simp⟩
 · exact .inr ⟨ad,hh,by rw [e,ajW]⟩
end
end Cin
namespace Cin
def refs (k:bb) (W:List Int) (q:Nat):List Int:=(List.range (wd W (q+ 1)).toNat).flatMap fun j=>if io k (wd W q) j then [((q+ 3 +j:Nat):Int)] else []
theorem BL {k:bb} {W:List Int} {q:Nat} {x:Int}:x ∈ refs k W q ↔ ∃ j,j <(wd W (q+ 1)).toNat/\io k (wd W q) j=true/\x=((q+ 3 +j:Nat):Int):=by
 unfold refs
 rw [List.mem_flatMap]
 constructor
 · rintro ⟨j,bf,af⟩
   split at af
   · rename_i h;exact ⟨j,by simpa using bf,h,by simpa using af⟩
   · cases af
 · rintro ⟨j,bf,h,e⟩
   exact ⟨j,by simpa using bf,by rw [if_pos h,e];simp⟩
section
variable {F:Nat} {k:bb}
theorem ajv (bu:6000 <F) (v:bU) (aY:j' v.S.K) {q:Nat} (dX:q+ 3 +(wd v.H.Words (q+ 1)).toNat<=v.H.Words.length) (jh:v.H.Words.length<= 5000) (bt:gV v.S.K (wd v.H.Words q)=true) (ag:isLen v.S.K (wd v.H.Words q) (wd v.H.Words (q+ 1))=true) :
 m2 F v (q:Int)=some (refs v.S.K v.H.Words q):=by
 obtain ⟨⟨q0,l1⟩,_⟩:=tt.1 ag
 unfold m2
 rw [dJ (n:=(q:Int)+ 1) (by omega) (by omega),jT (i:=q+ 1) (by omega) (by omega),Option.bind_some]
 generalize ad:(wd v.H.Words (q+ 1)).toNat=n at dX
 have Vu:wd v.H.Words (q+ 1)=(n:Int):=by omega
 have xy:=ag
 rw [Vu] at xy ⊢
 have l1:=sr (l:=List.range n) (fun k acc i=>ps (q:Int) v (n:Int) k acc (i:Int)) (fun j=>if io v.S.K (wd v.H.Words q) j then [((q+ 3 +j:Nat):Int)] else []) 1 5000 (fun x _=>by split <;> simp) (fun f i x acc af a'=>by
  have hi:i <n:=by have:=(List.getElem?_eq_some_iff.1 af).1;simpa using this
  rw [List.getElem?_range hi] at af
  simp only [Option.some.injEq] at af
  subst af
  rw [ps,cL hi,cond_true,oc (by omega),Option.bind_some]
  have bn:m1 (⟨(⟨v.S.K.aK,v.S.K.aI,v.S.K.Fields,v.S.K.Names,v.S.K.aH⟩:bb)⟩:cd) (wd v.H.Words q) (i:Int)=some (io v.S.K (wd v.H.Words q) i):=My aY bt xy (by omega)
  rw [bn,Option.bind_some]
  show _=ps (q:Int) v (n:Int) f _ _
  cases io v.S.K (wd v.H.Words q) i with
  | true=>
    rw [cond_true,dJ (n:=(q:Int)+ 3) (by omega) (by omega),dJ (n:=(q:Int)+ 3 +i) (by omega) (by omega),js (by simp;omega),Option.bind_some,Option.bind_some,gB hi (by omega),if_pos rfl]
    congr 2
  | false=>
    rw [cond_false,Option.bind_some,gB hi (by omega),if_neg (by decide),List.append_nil]) (fun f acc=>by
  rw [List.length_range,ps,cK];rfl) (F:=F) (by simp;omega) (acc:=[]) (by simp;omega)
 have l1:ps (q:Int) v (n:Int) F [] 0 =_:=l1
 rw [l1,Option.bind_some,List.nil_append,refs,ad]
theorem Pm (bu:10000 <F) {fX:List (List Int)} (aq:fX.length<= 10) (aC:fX.flatten.length<= 10000):x' F fX=some fX.flatten:=by
 unfold x'
 have ahd:∀ (d i f:Nat) (n:Int),i+d=fX.length->d <f-> 0 <=n->n+(fX.drop i).flatten.length<= 10000 ->rM fX f n (i:Int)=some (n+(fX.drop i).flatten.length):=by
  intro d
  induction d with
  | zero=>
    intro i f n h I ad _
    obtain ⟨f,rfl⟩:∃ eU,f=eU+ 1 :=⟨f - 1,by omega⟩
    have:i=fX.length:=by omega
    subst this
    rw [rM,cK];simp
  | succ d cb=>
    intro i f n h I ad aM
    obtain ⟨f,rfl⟩:∃ eU,f=eU+ 1 :=⟨f - 1,by omega⟩
    have hi:i <fX.length:=by omega
    rw [List.drop_eq_getElem_cons hi] at aM
    simp only [List.flatten_cons,List.length_append] at aM
    rw [rM,cL hi,cond_true,b3 (List.getElem?_eq_getElem hi),Option.bind_some,dJ (n:=n+((fX[i]).length:Int)) (by omega) (by omega),show decide (n+((fX[i]).length:Int) < 0)=false from decide_eq_false (by omega),cond_false,Option.bind_some,gB hi (by omega),cb (i+ 1) f _ (by omega) (by omega) (by omega) (by omega),List.drop_eq_getElem_cons hi]
    simp only [List.flatten_cons,List.length_append]
    congr 1;omega
 have hP:=ahd fX.length 0 F 0 (by omega) (by omega) (by omega) (by simp at aC ⊢;omega)
 have hP:rM fX F 0 0 =some (0 +((fX.drop 0).flatten.length:Int)):=hP
 rw [hP,Option.bind_some,List.drop_zero,Int.zero_add]
 have jk:Ci (fX.flatten.length:Int)=some []:=by
  unfold Ci
  rw [show decide ((fX.flatten.length:Int) < 0)=false from decide_eq_false (by omega),cond_false,Option.bind_some,dJ (n:=(fX.flatten.length:Int) - 0) (by omega) (by omega),Int.sub_zero]
  by_cases bk:(0 :Int) <(fX.flatten.length:Int)
  · rw [decide_eq_true bk,cond_true]
    unfold zt
    rw [if_pos ⟨bk,by omega⟩];rfl
  · rw [decide_eq_false bk];rfl
 rw [jk,Option.bind_some]
 have ahe:∀ (d i f:Nat) (acc:List Int),i+d=fX.length->d <f->acc.length+(fX.drop i).flatten.length<= 10000 ->rN fX f acc (i:Int)=some (acc++(fX.drop i).flatten):=by
  intro d
  induction d with
  | zero=>
    intro i f n h I ad
    obtain ⟨f,rfl⟩:∃ eU,f=eU+ 1 :=⟨f - 1,by omega⟩
    have:i=fX.length:=by omega
    subst this
    rw [rN,cK];simp
  | succ d cb=>
    intro i f acc h I aM
    obtain ⟨f,rfl⟩:∃ eU,f=eU+ 1 :=⟨f - 1,by omega⟩
    have hi:i <fX.length:=by omega
    rw [List.drop_eq_getElem_cons hi] at aM
    simp only [List.flatten_cons,List.length_append] at aM
    rw [rN,cL hi,cond_true,b3 (List.getElem?_eq_getElem hi),Option.bind_some,js (by omega),Option.bind_some,gB hi (by omega),cb (i+ 1) f _ (by omega) (by omega) (by simp only [List.length_append];omega),List.drop_eq_getElem_cons hi,List.flatten_cons,List.append_assoc]
 have jk:=ahe fX.length 0 F [] (by omega) (by omega) (by simp at aC ⊢;omega)
 have jk:rN fX F [] 0 =some ([]++(fX.drop 0).flatten):=jk
 rw [jk];simp
theorem all_eq (bu:10000 <F) (v:bU) (h:v.ai.length+v.ak.length<= 10000):s5 F v=some (v.ai++v.ak):=by
 unfold s5
 rw [Pm bu (by simp) (by simp;omega)]
 simp
def aY (W:List Int) (a:Int):Int:=wd W (a.toNat+ 2)
def tP (l:List Int) (m:List (Int × Bool)):List (Int × Bool):=l.foldl (fun m x=>gW m x true) m
theorem RV:∀ (l:List Int) (m:List (Int × Bool)),(tP l m).length<=m.length+l.length/\((tP l m).length=m.length+l.length ↔ l.Nodup/\ ∀ x ∈ l,(cW m x).isSome=false)
 | [],m=>by simp [tP]
 | x::r,m=>by
   have cb:=RV r (gW m x true)
   have e:tP (x::r) m=tP r (gW m x true):=rfl
   rw [e]
   have ag:=EF (k:=x) (v:=true) m
   rw [List.length_cons]
   cases af:(cW m x).isSome with
   | true=>
     rw [af,if_pos rfl] at ag
     rw [ag] at cb
     refine ⟨by omega,⟨fun h=>by omega,fun h=>?_⟩⟩
     have:=h.2 x List.mem_cons_self
     rw [af] at this;cases this
   | false=>
     rw [af,if_neg (by decide)] at ag
     rw [ag] at cb
     refine ⟨by omega,?_⟩
     rw [show m.length+(r.length+ 1)=m.length+ 1 +r.length by omega,cb.2,List.nodup_cons]
     constructor
     · rintro ⟨aq,aC⟩
       refine ⟨⟨fun hm=>?_,aq⟩,fun y hy=>?_⟩
       · have:=aC x hm
         have bw:=(BM (k:=x) (s:=x) (v:=true) m).2 (.inl rfl)
         rw [this] at bw;cases bw
       · rcases List.mem_cons.1 hy with rfl | hy
         · exact af
         · cases cT:(cW m y).isSome with
           | false=>rfl
           | true=>
             have bw:=(BM (k:=x) (s:=y) (v:=true) m).2 (.inr cT)
             rw [aC y hy] at bw;cases bw
     · rintro ⟨⟨aq,aC⟩,bw⟩
       refine ⟨aC,fun y hy=>?_⟩
       cases cT:(cW (gW m x true) y).isSome with
       | false=>rfl
       | true=>
         rcases (BM (k:=x) (s:=y) (v:=true) m).1 cT with e | e
         · subst e;exact absurd hy aq
         · rw [bw y (List.mem_cons_of_mem _ hy)] at e;cases e
def n1 (v:bU) (a:Int):Bool:=decide (aY v.H.Words a < 1) || decide (v.H.Next<=aY v.H.Words a)
theorem XX (v:bU) (r:List Int) (bm:r.length<= 10000) (aM:∀ a ∈ r,0 <=a/\a.toNat+ 3 <=v.H.Words.length) (jh:v.H.Words.length<= 5000):∀ (d i f:Nat) (m:List (Int × Bool)),i+d=r.length->d <f ->
 qG v r f m (i:Int)=if (r.drop i).any (n1 v) then some (.out 3) else some (.go (tP ((r.drop i).map (aY v.H.Words)) m)):=by
 intro d
 induction d with
 | zero=>
   intro i f m h I
   obtain ⟨f,rfl⟩:∃ eU,f=eU+ 1 :=⟨f - 1,by omega⟩
   have:i=r.length:=by omega
   subst this
   rw [qG,cK];simp [tP]
 | succ d cb=>
   intro i f m h I
   obtain ⟨f,rfl⟩:∃ eU,f=eU+ 1 :=⟨f - 1,by omega⟩
   have hi:i <r.length:=by omega
   obtain ⟨bk,aq⟩:=aM r[i] (List.getElem_mem hi)
   rw [qG,cL hi,cond_true,b3 (List.getElem?_eq_getElem hi),Option.bind_some,dJ (n:=r[i]+ 2) (by omega) (by omega),jT (i:=(r[i]).toNat+ 2) (by omega) (by omega),Option.bind_some,List.drop_eq_getElem_cons hi,List.any_cons]
   show cond (n1 v r[i]) _ _=_
   cases n1 v r[i] with
   | true=>rfl
   | false=>
     rw [cond_false,gB hi (by omega),cb (i+ 1) f _ (by omega) (by omega),Bool.false_or]
     rfl
theorem XW (bu:10000 <F) (v:bU) (h:v.ai.length+v.ak.length<= 5000) (aM:∀ a ∈ v.ai++v.ak,0 <=a/\a.toNat+ 3 <=v.H.Words.length) (jh:v.H.Words.length<= 5000) (Qp:v.cj.length=(v.ai++v.ak).length) :
 xq F v=some (if (v.ai++v.ak).any (n1 v) then 3 else if ((v.ai++v.ak).map (aY v.H.Words)).Nodup then 0 else 6):=by
 unfold xq
 have e:s5 F (⟨(⟨v.H.Words,v.H.ai,v.H.ak,v.H.aB,v.H.aA,v.H.al,v.H.Next⟩:bd),(⟨(⟨v.S.K.aK,v.S.K.aI,v.S.K.Fields,v.S.K.Names,v.S.K.aH⟩:bb)⟩:cd),v.ai,v.ak,v.cj⟩:bU)=some (v.ai++v.ak):=all_eq bu v (by omega)
 rw [e,Option.bind_some]
 have l1:=XX v (v.ai++v.ak) (by simp;omega) aM jh (v.ai++v.ak).length 0 F [] (by omega) (by simp;omega)
 have l1:qG v (v.ai++v.ak) F [] 0 =_:=l1
 rw [l1,List.drop_zero]
 cases (v.ai++v.ak).any (n1 v) with
 | true=>rfl
 | false=>
   rw [if_neg (by decide),if_neg (by decide),oJ]
   obtain ⟨gd,iW⟩:=RV ((v.ai++v.ak).map (aY v.H.Words)) []
   rw [List.length_map,List.length_nil,Nat.zero_add] at gd iW
   by_cases ad:((v.ai++v.ak).map (aY v.H.Words)).Nodup
   · rw [if_pos ad]
     have:=iW.2 ⟨ad,fun _ _=>rfl⟩
     rw [decide_eq_false (by rw [this,Qp];omega)];rfl
   · rw [if_neg ad]
     have:(tP ((v.ai++v.ak).map (aY v.H.Words)) []).length≠(v.ai++v.ak).length:=fun e=>ad (iW.1 e).1
     rw [decide_eq_true (by rw [Qp];omega)];rfl
end
end Cin
namespace Cin
def nJ (l:List Int):Prop:=∀ a b,a <b->b <l.length->wd l a <wd l b
theorem MB {l:List Int} (h:∀ i,i+ 1 <l.length->wd l i <wd l (i+ 1)):nJ l:=by
 intro a b xi
 induction b with
 | zero=>omega
 | succ b cb=>
   intro aM
   by_cases e:a=b
   · subst e;exact h a aM
   · exact Int.lt_trans (cb (by omega) (by omega)) (h b aM)
theorem Fz {l:List Int} {i:Nat} (h:i <l.length):wd l i ∈ l:=by unfold wd;rw [List.getElem?_eq_getElem h];exact List.getElem_mem h
theorem Cn {l:List Int} {i:Nat} {x:Int} (h:l[i]? =some x):wd l i=x:=by unfold wd;rw [h];rfl
theorem EC {l:List Int} {x:Int} (h:x ∈ l):∃ i,i <l.length/\wd l i=x:=by
 obtain ⟨i,hi,e⟩:=List.getElem_of_mem h
 exact ⟨i,hi,Cn (by rw [List.getElem?_eq_getElem hi,e])⟩
theorem RU {α:Type} {p:α->Bool}:∀ {l:List α},(eT p l).isSome=l.any p
 | []=>rfl
 | x::r=>by
   rw [eT,List.any_cons]
   cases h:p x with
   | true=>rfl
   | false=>simp only [Bool.false_eq_true,if_false,Bool.false_or];rw [<-RU (l:=r)];cases eT p r <;> rfl
theorem PV {α:Type} {l:List α} {L:Nat->Int->Option (Way Int Unit)} (p:α->Bool) (ag:l.length<= 140737488355328)
 (aY:∀ k (i:Nat) x,l[i]? =some x->L (k+ 1) (i:Int)=cond (p x) (some (.out (i:Int))) (L k (ay ((i:Int)+ 1))))
 (he:∀ k,L (k+ 1) (l.length:Int)=some (.go ())) {F:Nat} (bu:l.length <F):((dp (α:=Unit) (L F 0) fun (_:Unit)=>some (-1)).bind fun r=>some (decide ((0 :Int)<=r)))=some (l.any p):=by
 rw [HM p (fun n:Nat=>(n:Int)) ag aY he bu,<-RU]
 cases eT p l with
 | none=>rfl
 | some i=>
   show some (decide ((0 :Int)<=(i:Int)))=_
   rw [decide_eq_true (by omega)];rfl
section
variable {F:Nat}
theorem ajV {l:List Int} (ag:l.length<= 10000) (t:Int):∀ (f i j:Nat),i<=j->j<=l.length->j - i <f->(∀ a,a <i->wd l a <t)->(∀ a,j<=a->a <l.length->t<=wd l a)->nJ l ->
 ∃ p:Nat,pO t l f (i:Int) (j:Int)=some (p:Int)/\p<=l.length/\(∀ a,a <p->wd l a <t)/\(∀ a,p<=a->a <l.length->t<=wd l a):=by
 intro f
 induction f with
 | zero=>intro i j _ _ h;omega
 | succ f cb=>
   intro i j Qn bf I aq aC aY
   rw [pO]
   by_cases h:i <j
   case neg=>
    have:i=j:=by omega
    subst this
    rw [cK]
    exact ⟨i,rfl,bf,aq,aC⟩
   have em:ay (kD (kE (ay ((i:Int)+(j:Int)))) 1)=(((i+j) / 2 :Nat):Int):=by
    rw [dJ (n:=(i:Int)+j) (by omega) (by omega)]
    unfold kE kD
    rw [dJ (by omega) (by omega)]
    omega
   have hm:(i+j) / 2 <j:=by omega
   have gx:i<=(i+j) / 2 :=by omega
   rw [cL h,cond_true,em,oc (by omega),Option.bind_some]
   unfold DN zY
   rw [Option.bind_some,show (!decide (wd l ((i+j) / 2)=wd l ((i+j) / 2)))=false by simp,cond_false,Option.bind_some]
   by_cases hc:wd l ((i+j) / 2) <t
   · rw [decide_eq_true hc,cond_true,Option.bind_some]
     show ∃ p:Nat,pO t l f (ay ((((i+j) / 2 :Nat):Int)+ 1)) (j:Int)=_/\_
     rw [dJ (n:=(((i+j) / 2 :Nat):Int)+ 1) (by omega) (by omega),show (((i+j) / 2 :Nat):Int)+ 1 =(((i+j) / 2 + 1 :Nat):Int) by omega]
     refine cb ((i+j) / 2 + 1) j (by omega) bf (by omega) (fun a a'=>?_) aC aY
     by_cases e:a=(i+j) / 2
     · subst e;exact hc
     · exact Int.lt_trans (aY a ((i+j) / 2) (by omega) (by omega)) hc
   · rw [decide_eq_false hc,cond_false,Option.bind_some]
     show ∃ p:Nat,pO t l f (i:Int) (((i+j) / 2 :Nat):Int)=_/\_
     refine cb i ((i+j) / 2) (by omega) (by omega) (by omega) aq (fun a a' aM=>?_) aY
     by_cases e:a=(i+j) / 2
     · subst e;omega
     · have:=aY ((i+j) / 2) a (by omega) aM
       omega
theorem Sp (bu:10000 <F) {l:List Int} (ag:l.length<= 10000) (aY:nJ l) (t:Int) :
 ∃ p:Nat,x9 F l t=some ((p:Int),decide (t ∈ l))/\p<=l.length/\(∀ a,a <p->wd l a <t)/\(∀ a,p<=a->a <l.length->t<=wd l a):=by
 obtain ⟨p,e,bD,aq,aC⟩:=ajV ag t F 0 l.length (by omega) (Nat.le_refl _) (by omega) (fun a a'=>by omega) (fun a a' aM=>by omega) aY
 refine ⟨p,?_,bD,aq,aC⟩
 unfold x9
 have e:pO t l F 0 (l.length:Int)=some (p:Int):=e
 rw [e,Option.bind_some]
 by_cases dO:p <l.length
 · rw [cL dO,cond_true,oc dO,Option.bind_some]
   by_cases bt:wd l p=t
   · rw [decide_eq_true bt,cond_true,decide_eq_true (bt ▸ Fz dO)]
   · have ad: ¬ t ∈ l:=fun hm=>by
      obtain ⟨a,a',PF⟩:=EC hm
      by_cases xj:a <p
      · have:=aq a xj;omega
      · have bw:=aC p (Nat.le_refl _) dO
        by_cases e:a=p
        · subst e;exact bt PF
        · have:=aY p a (by omega) a';omega
     rw [decide_eq_false bt,cond_false,Option.bind_some,decide_eq_false ad]
     unfold Ck
     rw [Option.bind_some,show (!decide (wd l p=wd l p))=false by simp,cond_false]
 · have:p=l.length:=by omega
   subst this
   have ad: ¬ t ∈ l:=fun hm=>by
    obtain ⟨a,a',PF⟩:=EC hm
    have:=aq a a';omega
   rw [cK,cond_false,decide_eq_false ad]
structure wR (v:bU) (a:Int):Prop where
 pos:0 <=a
 fit:a.toNat+ 3 +(wd v.H.Words (a.toNat+ 1)).toNat<=v.H.Words.length
 tag:gV v.S.K (wd v.H.Words a.toNat)=true
 len:isLen v.S.K (wd v.H.Words a.toNat) (wd v.H.Words (a.toNat+ 1))=true
structure wS (v:bU):Prop where
 oK:j' v.S.K
 nv:v.H.Words.length<= 4900
 HD:v.ai.length+v.ak.length<= 5000
 yd:∀ a ∈ v.ai++v.ak,wR v a
 cj:∀ x,(cW v.cj x).getD false=decide (x ∈ v.ai++v.ak)
theorem wR.Mr {v:bU} {a:Int} (U:wS v) (h:wR v a) (bu:6000 <F):m2 F v a=some (refs v.S.K v.H.Words a.toNat):=by
 have:=ajv bu v U.oK h.fit (by have:=U.nv;omega) h.tag h.len
 rwa [show ((a.toNat:Nat):Int)=a by have:=h.pos;omega] at this
theorem wR.Sg {v:bU} {a w:Int} (h:wR v a) (hw:w ∈ refs v.S.K v.H.Words a.toNat):idx v.H.Words w=some (wd v.H.Words w.toNat):=by
 obtain ⟨j,bf,_,e⟩:=BL.1 hw
 have:=h.fit
 subst e
 exact oc (by omega)
theorem Si {v:bU} {a:Int} (U:wS v) (h:wR v a):(refs v.S.K v.H.Words a.toNat).length<= 5000 :=by
 have:(refs v.S.K v.H.Words a.toNat).length<= 1 *(List.range (wd v.H.Words (a.toNat+ 1)).toNat).length:=sT fun x _=>by split <;> simp
 have aq:=h.fit;have aC:=U.nv
 rw [List.length_range] at this
 omega
def wu (v:bU) (w:Int):Bool:=!decide (wd v.H.Words w.toNat= 0) && !decide (wd v.H.Words w.toNat ∈ v.ai++v.ak)
def rK (v:bU) (a:Int):Bool:=(refs v.S.K v.H.Words a.toNat).any (wu v)
def free (h:bd):List Int:=h.Words.take 1 ++((h.Words.take (h.ai+ 1).toNat).drop h.aB.toNat++h.Words.drop h.aA.toNat)
theorem z6 {α:Type} {p:α->Bool} {e:Int}:∀ l:List α,l.findSome? (fun x=>if p x then some e else none)=if l.any p then some e else none
 | []=>rfl
 | x::r=>by
   rw [List.findSome?_cons,List.any_cons]
   cases p x with
   | true=>rfl
   | false=>simp only [Bool.false_eq_true,if_false,Bool.false_or];exact z6 r
theorem aku (bu:10000 <F) {v:bU} (U:wS v) (bk:0 <=v.H.ai) (aq:0 <=v.H.aB/\v.H.aB<=v.H.ai+ 1 /\v.H.ai+ 1 <=v.H.Words.length) (aC:0 <=v.H.aA/\v.H.aA<=v.H.Words.length) :
 xt F v=some (if (v.ai++v.ak).any (rK v) then 5 else if (free v.H).any (fun x=>!decide (x= 0)) then 1 else 0):=by
 have hc:=U.HD;have hw:=U.nv
 unfold xt
 have e:s5 F (⟨(⟨v.H.Words,v.H.ai,v.H.ak,v.H.aB,v.H.aA,v.H.al,v.H.Next⟩:bd),(⟨(⟨v.S.K.aK,v.S.K.aI,v.S.K.Fields,v.S.K.Names,v.S.K.aH⟩:bb)⟩:cd),v.ai,v.ak,v.cj⟩:bU)=some (v.ai++v.ak):=all_eq bu v (by omega)
 rw [e,Option.bind_some]
 have l1:s7 F v (v.ai++v.ak) F 0 =some (dv ((v.ai++v.ak).findSome? fun a=>if rK v a then some 5 else none)):=each _ (by simp;omega) (fun f i a a'=>by
  have hm:=List.mem_of_getElem? a'
  have bt:=U.yd a hm
  rw [s7,cL (List.getElem?_eq_some_iff.1 a').1,cond_true,b3 a',Option.bind_some]
  have bI:m2 F (⟨(⟨v.H.Words,v.H.ai,v.H.ak,v.H.aB,v.H.aA,v.H.al,v.H.Next⟩:bd),(⟨(⟨v.S.K.aK,v.S.K.aI,v.S.K.Fields,v.S.K.Names,v.S.K.aH⟩:bb)⟩:cd),v.ai,v.ak,v.cj⟩:bU) a=some (refs v.S.K v.H.Words a.toNat):=bt.Mr U (by omega)
  have ae':=Si U bt
  rw [bI,Option.bind_some]
  have gy:qI v (refs v.S.K v.H.Words a.toNat) F 0 =some (dv ((refs v.S.K v.H.Words a.toNat).findSome? fun w=>if wu v w then some 5 else none)):=each _ (by omega) (fun eU Br w fc=>by
   have gx:=List.mem_of_getElem? fc
   rw [qI,cL (List.getElem?_eq_some_iff.1 fc).1,cond_true,b3 fc,Option.bind_some,bt.Sg gx,Option.bind_some,U.cj]
   unfold wu
   cases decide (wd v.H.Words w.toNat= 0) <;> cases decide (wd v.H.Words w.toNat ∈ v.ai++v.ak) <;> rfl) (fun eU=>by rw [qI,cK];rfl) (by omega)
  rw [gy,z6]
  show _=hV (if (refs v.S.K v.H.Words a.toNat).any (wu v) then some 5 else none) _
  cases (refs v.S.K v.H.Words a.toNat).any (wu v) <;> rfl) (fun f=>by rw [s7,cK];rfl) (by simp;omega)
 rw [l1,z6]
 cases (v.ai++v.ak).any (rK v) with
 | true=>rfl
 | false=>
   simp only [Bool.false_eq_true,if_false,dv,oJ]
   have dL:cut v.H.Words 0 1 =some (v.H.Words.take 1):=by
    unfold cut;rw [if_pos ⟨by omega,by omega,by omega⟩];rfl
   have dU:cut v.H.Words v.H.aB (ay (v.H.ai+ 1))=some ((v.H.Words.take (v.H.ai+ 1).toNat).drop v.H.aB.toNat):=by
    rw [dJ (by omega) (by omega)]
    unfold cut;rw [if_pos ⟨by omega,by omega,by omega⟩]
   have gj:cut v.H.Words v.H.aA (v.H.Words.length:Int)=some (v.H.Words.drop v.H.aA.toNat):=by
    unfold cut;rw [if_pos ⟨by omega,by omega,by omega⟩,Int.toNat_natCast,List.take_length]
   have Ql:(free v.H).length<= 10000 :=by unfold free;simp;omega
   rw [dL,dU,gj,Option.bind_some,Option.bind_some,Option.bind_some,Pm bu (by simp) (by simp;omega),Option.bind_some]
   have Vt:[v.H.Words.take 1,(v.H.Words.take (v.H.ai+ 1).toNat).drop v.H.aB.toNat,v.H.Words.drop v.H.aA.toNat].flatten=free v.H:=by simp [free]
   rw [Vt]
   unfold Fm Fp
   rw [PV (l:=free v.H) (L:=ud (free v.H)) (fun x=>!decide (x= 0)) (by omega) (fun f i x af=>by
    rw [ud,cL (List.getElem?_eq_some_iff.1 af).1,cond_true,b3 af,Option.bind_some]
    rfl) (fun f=>by rw [ud,cK];rfl) (by omega),Option.bind_some]
   cases (free v.H).any (fun x=>!decide (x= 0)) <;> rfl
def qX (v:bU) (x:Int):Bool:=decide (0 <x) && decide (x<=v.H.ai)
def tL (v:bU) (x:Int):Bool:=!decide (x ∈ v.ai++v.ak) || qX v x || (refs v.S.K v.H.Words x.toNat).isEmpty
def kB (v:bU) (i:Nat):Bool:=(decide (0 <i) && decide (wd v.H.al i<=wd v.H.al (i - 1))) || tL v (wd v.H.al i)
def r2 (v:bU) (x:Int):Bool:=!decide (x ∈ v.H.al) && (refs v.S.K v.H.Words x.toNat).any fun w=>qX v (wd v.H.Words w.toNat)
theorem aih (bu:10000 <F) {v:bU} (U:wS v) (x:Int) (Y:Option (Way Int Unit)):(cond (!((cW v.cj x).getD false)) (some (.out 4)) ((xp v x).bind fun x0=>
 cond (x0) (some (.out 4)) ((m2 F v x).bind fun B2=>
 cond (decide ((B2.length:Int)= 0)) (some (.out 4)) Y)))=hV (if tL v x then some 4 else none) Y:=by
 rw [U.cj]
 unfold tL
 by_cases hm:x ∈ v.ai++v.ak
 · rw [decide_eq_true hm,(U.yd x hm).Mr U (by omega)]
   show cond (qX v x) _ ((some _).bind _)=_
   cases qX v x with
   | true=>rfl
   | false=>
     rw [cond_false,Option.bind_some]
     cases refs v.S.K v.H.Words x.toNat with
     | nil=>rfl
     | cons a r=>rw [decide_eq_false (by simp;omega)];rfl
 · rw [decide_eq_false hm];rfl
theorem aif (bu:10000 <F) {v:bU} (U:wS v) (ad:v.H.al.length<= 140737488355328) (vz:v.H.al.length <F) (afb:(∀ i,i <v.H.al.length->kB v i=false)->v.H.al.length<= 10000) :
 xr F v=some (if (List.range v.H.al.length).any (kB v) || v.ak.any (r2 v) then 4 else 0):=by
 have hc:=U.HD;have hw:=U.nv
 unfold xr
 have l1:pt F v F 0 =some (dv ((List.range v.H.al.length).findSome? fun i=>if kB v i then some 4 else none)):=kd _ ad (fun f i hi=>by
  have bm:=aih bu U (wd v.H.al i) (pt F v f (ay ((i:Int)+ 1)))
  rw [pt,cL hi,cond_true,oc hi,Option.bind_some]
  unfold kB
  by_cases bk:0 <i
  · rw [show decide ((0 :Int) <(i:Int))=true from decide_eq_true (by omega),cond_true,dJ (n:=(i:Int) - 1) (by omega) (by omega),jT (i:=i - 1) (by omega) (by omega),Option.bind_some,decide_eq_true bk,Bool.true_and]
    cases decide (wd v.H.al i<=wd v.H.al (i - 1)) with
    | true=>rfl
    | false=>exact bm
  · rw [show decide ((0 :Int) <(i:Int))=false from decide_eq_false (by omega),cond_false,decide_eq_false bk,Bool.false_and,Bool.false_or]
    exact bm) (fun f=>by rw [pt,cK];rfl) vz
 rw [l1,z6]
 cases aM:(List.range v.H.al.length).any (kB v) with
 | true=>rfl
 | false=>
   have mx:∀ i,i <v.H.al.length->kB v i=false:=fun i hi=>by
    rw [List.any_eq_false] at aM
    simpa using aM i (by simpa using hi)
   have hlen:=afb mx
   have afd:nJ v.H.al:=MB fun i hi=>by
    have:=mx (i+ 1) hi
    unfold kB at this
    simp only [Bool.or_eq_false_iff,Bool.and_eq_false_iff,decide_eq_false_iff_not,Nat.add_sub_cancel] at this
    rcases this.1 with h | h <;> omega
   simp only [Bool.false_eq_true,if_false,dv,oJ,Bool.false_or]
   have gy:qH F v F 0 =some (dv (v.ak.findSome? fun x=>if r2 v x then some 4 else none)):=each _ (by omega) (fun f i x af=>by
    have hm:x ∈ v.ai++v.ak:=List.mem_append_right _ (List.mem_of_getElem? af)
    have bt:=U.yd x hm
    obtain ⟨p,bD,_⟩:=Sp bu hlen afd x
    rw [qH,cL (List.getElem?_eq_some_iff.1 af).1,cond_true,b3 af,Option.bind_some,bD,Option.bind_some]
    unfold r2
    by_cases m5:x ∈ v.H.al
    · rw [decide_eq_true m5];rfl
    · rw [decide_eq_false m5]
      have bI:m2 F (⟨(⟨v.H.Words,v.H.ai,v.H.ak,v.H.aB,v.H.aA,v.H.al,v.H.Next⟩:bd),(⟨(⟨v.S.K.aK,v.S.K.aI,v.S.K.Fields,v.S.K.Names,v.S.K.aH⟩:bb)⟩:cd),v.ai,v.ak,v.cj⟩:bU) x=some (refs v.S.K v.H.Words x.toNat):=bt.Mr U (by omega)
      have ae':=Si U bt
      simp only [Bool.not_false,cond_true,Bool.true_and]
      rw [bI,Option.bind_some]
      unfold Fl Fo
      rw [PV (l:=refs v.S.K v.H.Words x.toNat) (L:=uc (refs v.S.K v.H.Words x.toNat) v) (fun w=>qX v (wd v.H.Words w.toNat)) (by omega) (fun eU Br w fc=>by
       rw [uc,cL (List.getElem?_eq_some_iff.1 fc).1,cond_true,b3 fc,Option.bind_some]
       unfold D6
       rw [bt.Sg (List.mem_of_getElem? fc)]
       rfl) (fun eU=>by rw [uc,cK];rfl) (by omega),Option.bind_some]
      cases (refs v.S.K v.H.Words x.toNat).any (fun w=>qX v (wd v.H.Words w.toNat)) <;> rfl) (fun f=>by rw [qH,cK];rfl) (by omega)
   rw [gy,z6]
   cases v.ak.any (r2 v) <;> rfl
end
end Cin
namespace Cin
def EY:bb:=⟨[],[],[],[],[]⟩
def rows {β:Type} (f:Int->β) (i:Nat):List β:=(List.range i).map fun j:Nat=>f (j:Int)
theorem x6 {β:Type} (f:Int->β) (i:Nat):rows f (i+ 1)=rows f i++[f (i:Int)]:=by simp [rows,List.range_succ]
def linked (l:List aG):bb:=⟨l,dC l,rows (fE l) l.length,rows (fun i=>(tab l i).1) l.length,rows (fun i=>(tab l i).2) l.length⟩
def wX (l:List aG) (i:Nat):Option (bb × Int):=if 12 <(fE l i).length\/ 16 <(tab l i).1.length then some (EY,2) else none
section
variable {F:Nat} {l:List aG}
theorem N5 (x y:Nat):((decide ((12 :Int) <(x:Int))) || (decide ((16 :Int) <(y:Int))))=decide (12 <x\/ 16 <y):=by
 rw [Bool.eq_iff_iff];simp;omega
theorem ahP (bu:1100 <F) (h:hq l) (pM oC:Int × cZ) (HV:pM.2.cc=fg 0 l) (Aa:oC.2.bx=dC l) :
 nh F l pM oC F [] [] [] 0 =some (wv ((List.range l.length).findSome? (wX l)) (rows (fun i=>(tab l i).2) l.length,rows (fun i=>(tab l i).1) l.length,rows (fE l) l.length)):=by
 have hlen:=h.right.len
 refine G0 (n:=l.length) (fun k i=>nh F l pM oC k (rows (fun i=>(tab l i).2) i) (rows (fun i=>(tab l i).1) i) (rows (fE l) i) (i:Int)) _ _ (fun k i hi=>?_) (fun k=>?_) (F:=F) (by omega)
 · show nh F l pM oC (k+ 1) (rows (fun i=>(tab l i).2) i) (rows (fun i=>(tab l i).1) i) (rows (fE l) i) (i:Int)=_
   rw [nh,cL hi,cond_true,HV,Aa,h.ahQ bu (fg 0 l) (by omega) (by omega),Option.bind_some,h.Lg bu (fg 0 l) (by omega) (by omega),Option.bind_some,
    js (by simp only [rows,List.length_map,List.length_range,List.length_cons,List.length_nil];omega),Option.bind_some,js (by simp only [rows,List.length_map,List.length_range,List.length_cons,List.length_nil];omega),Option.bind_some,
    js (by simp only [rows,List.length_map,List.length_range,List.length_cons,List.length_nil];omega),Option.bind_some,b3 (i:=i) (x:=fE l i) (by simp [rows]),Option.bind_some,N5,gB hi (by omega),<-x6 (fE l),<-x6 (fun i=>(tab l i).1),<-x6 (fun i=>(tab l i).2)]
   unfold wX
   by_cases aM:12 <(fE l i).length\/ 16 <(tab l i).1.length
   · rw [decide_eq_true aM,if_pos aM];rfl
   · rw [decide_eq_false aM,if_neg aM];rfl
 · show nh F l pM oC (k+ 1) (rows (fun i=>(tab l i).2) l.length) (rows (fun i=>(tab l i).1) l.length) (rows (fE l) l.length) (l.length:Int)=_
   rw [nh,cK];rfl
theorem ajt (bu:1100 <F) (h:hq l) :
 sn F l F [] [] [] [] 0 =some (wv ((List.range l.length).findSome? (wX l)) (rows (fun i=>(tab l i).2) l.length,rows (fun i=>(tab l i).1) l.length,rows (fE l) l.length,dC l)):=by
 have hlen:=h.right.len
 refine G0 (n:=l.length) (fun k i=>sn F l k (rows (fun i=>(tab l i).2) i) (rows (fun i=>(tab l i).1) i) (rows (fE l) i) ((dC l).take i) (i:Int)) _ _ (fun k i hi=>?_) (fun k=>?_) (F:=F) (by omega)
 · obtain ⟨x,af⟩:∃ x,l[i]? =some x:=⟨l[i],List.getElem?_eq_getElem hi⟩
   have df:(dC l).take i++[dm l x.bY]=(dC l).take (i+ 1):=by rw [List.take_add_one,MD af];rfl
   show sn F l (k+ 1) (rows (fun i=>(tab l i).2) i) (rows (fun i=>(tab l i).1) i) (rows (fE l) i) ((dC l).take i) (i:Int)=_
   rw [sn,cL hi,cond_true,h.Mo bu (by omega) (by omega),Option.bind_some,h.aju bu (by omega) (by omega),Option.bind_some,N5,b3 af,Option.bind_some,sl ⟨by omega,by omega⟩,Option.bind_some,
    js (by simp only [List.length_take,yb,List.length_cons,List.length_nil];omega),Option.bind_some,
    js (by simp only [rows,List.length_map,List.length_range,List.length_cons,List.length_nil];omega),Option.bind_some,js (by simp only [rows,List.length_map,List.length_range,List.length_cons,List.length_nil];omega),Option.bind_some,
    js (by simp only [rows,List.length_map,List.length_range,List.length_cons,List.length_nil];omega),Option.bind_some,gB hi (by omega),<-x6 (fE l),<-x6 (fun i=>(tab l i).1),<-x6 (fun i=>(tab l i).2),df]
   unfold wX
   by_cases aM:12 <(fE l i).length\/ 16 <(tab l i).1.length
   · rw [decide_eq_true aM,if_pos aM];rfl
   · rw [decide_eq_false aM,if_neg aM];rfl
 · show sn F l (k+ 1) (rows (fun i=>(tab l i).2) l.length) (rows (fun i=>(tab l i).1) l.length) (rows (fE l) l.length) ((dC l).take l.length) (l.length:Int)=_
   rw [sn,cK,List.take_of_length_le (by rw [yb];omega)];rfl
theorem mH {α:Type} {e:Int} (h:e≠ 0) {x y:α}:cond (!decide (e= 0)) x y=x:=by rw [decide_eq_false h];rfl
theorem lH {α:Type} {x y:α}:cond (!decide ((0 :Int)= 0)) x y=y:=rfl
theorem ake {e:Int} (h:l.findSome? pQ=some e):e= 4 :=by
 obtain ⟨x,_,af⟩:=List.exists_of_findSome?_eq_some h
 unfold pQ at af
 split at af
 · cases af
 · injection af with af;exact af.symm
theorem ah_ {e:Int} (h:l.findSome? (nk l)=some e):e= 5 :=by
 obtain ⟨x,_,af⟩:=List.exists_of_findSome?_eq_some h
 unfold nk at af
 split at af
 · cases af
 · injection af with af;exact af.symm
theorem Vm {e:Int} (h:(List.range l.length).findSome? (qm l)=some e):e= 4 :=by
 obtain ⟨x,_,af⟩:=List.exists_of_findSome?_eq_some h
 unfold qm at af
 split at af
 · cases af
 · injection af with af;exact af.symm
theorem ako {nm:List UInt8} (h:0 <=dm l nm):(cW (fg 0 l) nm).getD 0 =dm l nm:=by
 rw [xW]
 unfold dm at h ⊢
 cases bD:eT (iP nm) l with
 | none=>rw [bD] at h;simp at h
 | some i=>simp
theorem U2 (bu:1100 <F) (I:Fits F l):∃ e,GQ F l=some e /\
 ((e≠ 0 /\tx F l=some (EY,e)) \/
  (e= 0 /\hq l/\ ∃ pM oC:Int × cZ,pM.2.cc=fg 0 l/\oC.2.bx=dC l /\
   tx F l=dp (α:=(List (List Target)) × (List (List (List UInt8))) × (List (List Field))) (nh F l pM oC F [] [] [] 0) fun ((lR,lS,lT):(List (List Target)) × (List (List (List UInt8))) × (List (List Field)))=>some ((⟨l,oC.2.bx,lT,lS,lR⟩:bb),0))):=by
 unfold GQ tx
 rw [TK I,agG I,Option.bind_some,Option.bind_some]
 by_cases bk:mr l= 0
 case neg=>exact ⟨mr l,by rw [mH bk],.inl ⟨bk,by rw [mH bk];rfl⟩⟩
 rw [bk,lH,lH]
 have hA:=U4 bk
 have hlen:=hA.len
 rw [aip (by omega) hA,Option.bind_some]
 rcases aib (F:=F) (by omega) hA with ⟨jQ,Ll,Ls⟩ | ⟨_,⟨m,Ll⟩,Ls⟩
 case inr=>
  unfold xL
  simp only
  rw [Ll,Ls]
  exact ⟨6,rfl,.inl ⟨by decide,rfl⟩⟩
 rw [Ls,oJ,sl ⟨by omega,by omega⟩,Option.bind_some,sl ⟨by omega,by omega⟩,Option.bind_some]
 have adD:xL F ⟨l,[],[]⟩=some (cond (decide (0 <=dm l [79,98,106,101,99,116]) && decide (0 <=dm l [69,114,114,111,114])) 0 5,⟨l,fg 0 l,[]⟩):=by
  unfold xL
  simp only
  rw [Ll,oJ,LF,LF]
  cases decide (0 <=dm l [79,98,106,101,99,116]) <;> cases decide (0 <=dm l [69,114,114,111,114]) <;> rfl
 rw [adD,Option.bind_some]
 by_cases JN:0 <=dm l [79,98,106,101,99,116]
 case neg=>
  rw [decide_eq_true (show dm l [79,98,106,101,99,116] < 0 by omega),decide_eq_false JN]
  exact ⟨5,rfl,.inl ⟨by decide,rfl⟩⟩
 rw [decide_eq_false (show ¬ dm l [79,98,106,101,99,116] < 0 by omega),decide_eq_true JN,cond_false]
 by_cases xv:0 <=dm l [69,114,114,111,114]
 case neg=>
  rw [decide_eq_true (show dm l [69,114,114,111,114] < 0 by omega),decide_eq_false xv]
  exact ⟨5,rfl,.inl ⟨by decide,rfl⟩⟩
 rw [decide_eq_false (show ¬ dm l [69,114,114,111,114] < 0 by omega),decide_eq_true xv,cond_false,Bool.and_self,cond_true]
 simp only [Option.bind_some,decide_true,Bool.not_true,cond_false]
 unfold Ez
 simp only
 rw [akc (by omega) hA,akd (by omega) hA,l2,l2]
 cases bt:l.findSome? pQ with
 | some e=>
   have:=ake bt
   subst this
   exact ⟨4,rfl,.inl ⟨by decide,rfl⟩⟩
 | none=>
 simp only [Option.map_none,pL]
 obtain ⟨o,bc,hm⟩:=ah8 (F:=F) (by omega) hA
 rw [ah9 (by omega) hA,l2,hm,<-bc]
 cases o with
 | some r=>
   simp only [Option.map_some] at bc
   have:=ah_ bc.symm
   refine ⟨5,by simp only [Option.map_some,pL];rw [this],.inl ⟨by decide,?_⟩⟩
   obtain ⟨a,b⟩:=r
   simp only at this
   subst this
   rfl
 | none=>
 simp only [Option.map_none,pL,wv,oJ]
 simp only [Option.map_none] at bc
 rw [Vl bu hA,l2,Vk bu hA,l2]
 cases hc:(List.range l.length).findSome? (qm l) with
 | some e=>
   have:=Vm hc
   subst this
   exact ⟨4,rfl,.inl ⟨by decide,rfl⟩⟩
 | none=>
 simp only [Option.map_none,pL,Option.bind_some,decide_true,Bool.not_true,cond_false]
 have adB:∀ c ∈ l,c.bY= []\/ 0 <=dm l c.bY:=fun c lM=>by
  have:=List.findSome?_eq_none_iff.1 bc.symm c lM
  unfold nk at this
  split at this
  · assumption
  · cases this
 have afh:∀ i,i <l.length-> ∃ c,dQ (dC l) l.length (i:Int)=some c:=fun i hi=>by
  have:=List.findSome?_eq_none_iff.1 hc i (by simpa using hi)
  unfold qm at this
  split at this
  · rename_i aq;exact Option.isSome_iff_exists.1 aq
  · cases this
 have jO:hq l:=⟨hA,jQ,adB,afh,fun c lM=>List.findSome?_eq_none_iff.1 bt c lM,JN⟩
 have AY:dm l [69,114,114,111,114] <l.length:=HB
 obtain ⟨x,af,_⟩:=rP (l:=l) xv AY
 unfold EA
 simp only [ako xv]
 rw [jO.Mo bu xv AY,Option.bind_some,jO.Lg bu (fg 0 l) xv AY,Option.bind_some,af,Option.bind_some,Option.bind_some]
 by_cases aY:((!decide (x.bY= [79,98,106,101,99,116])) || (decide (((fE l (dm l [69,114,114,111,114])).length:Int)= 0)))=true
 · rw [aY]
   exact ⟨4,rfl,.inl ⟨by decide,rfl⟩⟩
 rw [Bool.eq_false_iff.2 aY,cond_false,cond_false]
 have eS:0 <(fE l (dm l [69,114,114,111,114])).length:=by
  simp only [Bool.or_eq_true,decide_eq_true_eq,not_or] at aY
  omega
 have afp:idx (fE l (dm l [69,114,114,111,114])) 0 =some ((fE l (dm l [69,114,114,111,114]))[0]):=by
  have:=b3 (l:=fE l (dm l [69,114,114,111,114])) (i:=0) (List.getElem?_eq_getElem eS)
  exact this
 rw [afp,Option.bind_some,Option.bind_some]
 by_cases aZ:((fE l (dm l [69,114,114,111,114]))[0]).Kind.Kind= 1
 case neg=>
  rw [decide_eq_false aZ]
  exact ⟨4,rfl,.inl ⟨by decide,rfl⟩⟩
 rw [decide_eq_true aZ]
 simp only [Bool.not_true,cond_false,Option.bind_some,decide_true]
 rw [aka bu hA,l2,aj' bu hA,Option.bind_some]
 cases Ei:(oL l).findSome? (iY l) with
 | some e=>
   have:e= 5 :=by
    obtain ⟨s,_,aq⟩:=List.exists_of_findSome?_eq_some Ei
    rcases SB (l:=l) (s:=s) with aC | aC
    · rw [aC] at aq;cases aq
    · rw [aC] at aq;injection aq with aq;exact aq.symm
   subst this
   exact ⟨5,rfl,.inl ⟨by decide,rfl⟩⟩
 | none=>
 simp only [pL,Option.getD_none,decide_true,Bool.not_true,cond_false]
 rw [ail bu jO,l2,aik bu jO,Option.bind_some]
 cases adJ:(List.range l.length).findSome? (tO l) with
 | some e=>
   have:e= 6 :=by
    obtain ⟨s,_,aq⟩:=List.exists_of_findSome?_eq_some adJ
    unfold tO qn at aq
    split at aq
    · split at aq
      · cases aq
      · simp at aq;exact aq.symm
    · simp at aq;exact aq.symm
   subst this
   exact ⟨6,rfl,.inl ⟨by decide,rfl⟩⟩
 | none=>
 simp only [pL,Option.getD_none,decide_true,Bool.not_true,cond_false]
 rw [ah7 bu jO,l2,ah6 bu jO,Option.bind_some]
 cases JI:(List.range l.length).findSome? (fun i=>(l[i]?).bind fun c=>xP l c i) with
 | some e=>
   have:e= 4 :=by
    obtain ⟨i,_,aq⟩:=List.exists_of_findSome?_eq_some JI
    cases xz:l[i]? with
    | none=>rw [xz] at aq;cases aq
    | some c=>
      rw [xz,Option.bind_some] at aq
      unfold xP at aq
      rcases pf (Pk (l:=l) c) (dW l i).tail with aC | aC
      · rw [aC] at aq;cases aq
      · rw [aC] at aq;injection aq with aq;exact aq.symm
   subst this
   exact ⟨4,rfl,.inl ⟨by decide,rfl⟩⟩
 | none=>
 simp only [pL,Option.getD_none,decide_true,Bool.not_true,cond_false]
 exact ⟨0,rfl,.inr ⟨rfl,jO,(0,⟨l,fg 0 l,[]⟩),(0,⟨l,fg 0 l,dC l⟩),rfl,rfl,rfl⟩⟩
theorem ahO (bu:1100 <F) (I:Fits F l):∃ r:bb × Int,tx F l=some r/\GR F l=some r/\(r.2 = 0 ->hq l/\r.1 =linked l)/\(r.2 ≠ 0 ->r.1 =EY):=by
 obtain ⟨e,aq,aC⟩:=U2 bu I
 unfold GR
 rw [aq,Option.bind_some]
 rcases aC with ⟨he,aC⟩ | ⟨rfl,jO,pM,oC,HV,Aa,aC⟩
 · exact ⟨_,aC,by rw [mH he];rfl,fun h=>absurd h he,fun _=>rfl⟩
 · rw [lH,aC,ahP bu jO pM oC HV Aa,ajt bu jO]
   cases aM:(List.range l.length).findSome? (wX l) with
   | some r=>
     have:r=(EY,2):=by
      obtain ⟨i,_,aq⟩:=List.exists_of_findSome?_eq_some aM
      unfold wX at aq
      split at aq
      · injection aq with aq;exact aq.symm
      · cases aq
     subst this
     exact ⟨_,rfl,rfl,fun h=>absurd h (by decide),fun _=>rfl⟩
   | none=>
     refine ⟨_,rfl,?_,fun _=>⟨jO,?_⟩,fun h=>absurd rfl h⟩
     · simp only [wv,oJ,Aa]
     · simp only [Aa];rfl
end
end Cin
namespace Cin
theorem kW {α:Type} [DecidableEq α] {F:Nat} {a b:List α} (ag:a.length=b.length) {L:Nat->Int->Option (Way Bool Unit)} (ad:a.length<= 140737488355328)
 (aY:∀ k (i:Nat) x y,a[i]? =some x->b[i]? =some y->L (k+ 1) (i:Int)=cond (!decide (x=y)) (some (.out false)) (L k (ay ((i:Int)+ 1)))) (he:∀ k,L (k+ 1) (a.length:Int)=some (.go ())) (bu:a.length <F) :
 L F 0 =some (if a=b then .go () else .out false):=by
 have l1:L F 0 =some (dv ((List.range a.length).findSome? fun i=>if a[i]? =b[i]? then none else some false)):=kd _ ad (fun k i hi=>by
  rw [aY k i a[i] (b[i]'(by omega)) (List.getElem?_eq_getElem hi) (List.getElem?_eq_getElem (show i <b.length by omega)),List.getElem?_eq_getElem hi,List.getElem?_eq_getElem (show i <b.length by omega)]
  simp only [Option.some.injEq]
  by_cases e:a[i]=b[i]'(by omega)
  · rw [decide_eq_true e,if_pos e];rfl
  · rw [decide_eq_false e,if_neg e];rfl) he bu
 rw [l1]
 cases I:(List.range a.length).findSome? fun i=>if a[i]? =b[i]? then none else some false with
 | some e=>
   obtain ⟨i,hi,aq⟩:=List.exists_of_findSome?_eq_some I
   split at aq
   · cases aq
   · rename_i eS
     injection aq with aq
     subst aq
     rw [if_neg (fun e=>eS (by rw [e]))];rfl
 | none=>
   rw [if_pos];rfl
   apply List.ext_getElem?
   intro i
   by_cases hi:i <a.length
   · have:=List.findSome?_eq_none_iff.1 I i (by simpa using hi)
     split at this
     · assumption
     · cases this
   · rw [List.getElem?_eq_none (by omega),List.getElem?_eq_none (by omega)]
theorem z8 {α β:Type} (l:List α):l.findSome? (fun _=>(none:Option β))=none:=by rw [List.findSome?_eq_none_iff];intro _ _;rfl
theorem ms {p:Prop} [Decidable p] {Y:Option Bool}:dp (α:=Unit) (some (if p then (.go ():Way Bool Unit) else .out false)) (fun _=>Y)=if p then Y else some false:=by by_cases h:p <;> simp [h]
theorem Pl {p:Prop} [Decidable p] {Y:Option (Way Bool Unit)}:dG (α:=Unit) (some (if p then (.go ():Way Bool Unit) else .out false)) (fun _=>Y)=if p then Y else some (.out false):=by by_cases h:p <;> simp [h]
theorem lh {α:Type} {a b:List α}:decide ((a.length:Int)=(b.length:Int))=decide (a.length=b.length):=by
 rw [Bool.eq_iff_iff];simp;omega
theorem nS {α:Type} [DecidableEq α] {a b:List α} (h:a.length≠b.length):decide (a=b)=false:=decide_eq_false (fun e=>h (by rw [e]))
section
variable {F:Nat}
theorem Sn {a b:List Field} (a':Small F a.length):Dj F a b=some (decide (a=b)):=by
 unfold Dj
 rw [lh]
 by_cases ag:a.length=b.length
 · rw [decide_eq_true ag]
   simp only [Bool.not_true,cond_false]
   rw [kW ag a'.1 (L:=zh a b) (fun k i x y af hy=>by rw [zh,cL (List.getElem?_eq_some_iff.1 af).1,cond_true,b3 af,Option.bind_some,b3 hy,Option.bind_some]) (fun k=>by rw [zh,cK];rfl) a'.2,ms]
   by_cases h:a=b <;> simp [h]
 · rw [decide_eq_false ag,nS ag];rfl
theorem ajO {a b:List Kind} (a':Small F a.length):uL F a b=some (decide (a=b)):=by
 unfold uL
 rw [lh]
 by_cases ag:a.length=b.length
 · rw [decide_eq_true ag]
   simp only [Bool.not_true,cond_false]
   rw [kW ag a'.1 (L:=o6 a b) (fun k i x y af hy=>by rw [o6,cL (List.getElem?_eq_some_iff.1 af).1,cond_true,b3 af,Option.bind_some,b3 hy,Option.bind_some]) (fun k=>by rw [o6,cK];rfl) a'.2,ms]
   by_cases h:a=b <;> simp [h]
 · rw [decide_eq_false ag,nS ag];rfl
theorem ajR {l:List aG} (h:Fits F l):Di F l l=some true:=by
 unfold Di
 rw [decide_eq_true rfl]
 simp only [Bool.not_true,cond_false]
 have l1:zd F l l F 0 =some (dv (l.findSome? fun _=>(none:Option Bool))):=each (fun _=>none) h.1.1 (fun k i c af=>by
  have hc:=h.2 c (List.mem_of_getElem? af)
  have gy:zf F c c F 0 =some (dv (c.aE.findSome? fun _=>(none:Option Bool))):=each (fun _=>none) hc.methods.1 (fun k i m hy=>by
   have hm:=hc.method m (List.mem_of_getElem? hy)
   have mE:zg m m F 0 =some (dv (m.bi.findSome? fun _=>(none:Option Bool))):=each (fun _=>none) hm.sZ.1 (fun k i x cT=>by
    rw [zg,cL (List.getElem?_eq_some_iff.1 cT).1,cond_true,b3 cT,Option.bind_some,Option.bind_some,decide_eq_true rfl];rfl) (fun k=>by rw [zg,cK];rfl) hm.sZ.2
   rw [zf,cL (List.getElem?_eq_some_iff.1 hy).1,cond_true,b3 hy,Option.bind_some,Option.bind_some,ajO hm.args,Option.bind_some,mE,z8]
   simp
   rfl) (fun k=>by rw [zf,cK];rfl) hc.methods.2
  rw [zd,cL (List.getElem?_eq_some_iff.1 af).1,cond_true,b3 af,Option.bind_some,Option.bind_some,Sn hc.fields,Option.bind_some,gy,z8]
  simp
  rfl) (fun k=>by rw [zd,cK];rfl) h.1.2
 rw [l1,z8];rfl
structure Db (F:Nat) (k:bb):Prop where
 bx:Small F k.aI.length
 fields:Small F k.Fields.length
 field:∀ x ∈ k.Fields,Small F x.length
 names:Small F k.Names.length
 name:∀ x ∈ k.Names,Small F x.length
 targets:Small F k.aH.length
 target:∀ x ∈ k.aH,Small F x.length
instance:DecidableEq (List (List Field)):=inferInstance
theorem ajP {a b:bb} (a':Db F a) (hc:Di F a.aK b.aK=some true) :
 Dk F a b=some (decide (a.aI=b.aI/\a.Fields=b.Fields/\a.Names=b.Names/\a.aH=b.aH)):=by
 unfold Dk
 rw [hc,Option.bind_some,lh,lh,lh,lh]
 have bG:∀ (_: ¬ (a.aI=b.aI/\a.Fields=b.Fields/\a.Names=b.Names/\a.aH=b.aH)),decide (a.aI=b.aI/\a.Fields=b.Fields/\a.Names=b.Names/\a.aH=b.aH)=false:=fun h=>decide_eq_false h
 by_cases aq:b.aI.length=a.aI.length
 case neg=>rw [bG (fun e=>aq (by rw [e.1])),decide_eq_false aq];rfl
 by_cases aC:a.Fields.length=b.Fields.length
 case neg=>rw [bG (fun e=>aC (by rw [e.2.1])),decide_eq_true aq,decide_eq_false aC];rfl
 by_cases bw:a.Names.length=b.Names.length
 case neg=>rw [bG (fun e=>bw (by rw [e.2.2.1])),decide_eq_true aq,decide_eq_true aC,decide_eq_false bw];rfl
 by_cases dz:a.aH.length=b.aH.length
 case neg=>rw [bG (fun e=>dz (by rw [e.2.2.2])),decide_eq_true aq,decide_eq_true aC,decide_eq_true bw,decide_eq_false dz];rfl
 rw [decide_eq_true aq,decide_eq_true aC,decide_eq_true bw,decide_eq_true dz]
 simp only [Bool.not_true,Bool.or_self,cond_false]
 have l1:=kW (F:=F) aq.symm a'.bx.1 (L:=zi a b) (fun k i x y af hy=>by rw [zi,cL (List.getElem?_eq_some_iff.1 af).1,cond_true,b3 af,Option.bind_some,b3 hy,Option.bind_some]) (fun k=>by rw [zi,cK];rfl) a'.bx.2
 have gy:=kW (F:=F) aC a'.fields.1 (L:=zj F a b) (fun k i x y af hy=>by
  rw [zj,cL (List.getElem?_eq_some_iff.1 af).1,cond_true,b3 af,Option.bind_some,b3 hy,Option.bind_some,Sn (a'.field x (List.mem_of_getElem? af)),Option.bind_some]) (fun k=>by rw [zj,cK];rfl) a'.fields.2
 have mE:=kW (F:=F) bw a'.names.1 (L:=zk F a b) (fun k i x y af hy=>by
  have gJ:=a'.name x (List.mem_of_getElem? af)
  rw [zk,cL (List.getElem?_eq_some_iff.1 af).1,cond_true,b3 af,Option.bind_some,b3 hy,Option.bind_some,lh]
  by_cases ag:x.length=y.length
  · rw [decide_eq_true ag]
    simp only [Bool.not_true,cond_false]
    rw [kW (F:=F) ag gJ.1 (L:=zl a b i) (fun k j u v hu U=>by
     rw [zl,b3 af,Option.bind_some,cL (List.getElem?_eq_some_iff.1 hu).1,cond_true,Option.bind_some,b3 hu,Option.bind_some,b3 hy,Option.bind_some,b3 U,Option.bind_some]) (fun k=>by rw [zl,b3 af,Option.bind_some,cK];rfl) gJ.2,Pl]
    by_cases h:x=y
    · rw [if_pos h,decide_eq_true h];rfl
    · rw [if_neg h,decide_eq_false h];rfl
  · rw [decide_eq_false ag,nS ag];rfl) (fun k=>by rw [zk,cK];rfl) a'.names.2
 have K9:=kW (F:=F) dz a'.targets.1 (L:=zm F a b) (fun k i x y af hy=>by
  have gJ:=a'.target x (List.mem_of_getElem? af)
  rw [zm,cL (List.getElem?_eq_some_iff.1 af).1,cond_true,b3 af,Option.bind_some,b3 hy,Option.bind_some,lh]
  by_cases ag:x.length=y.length
  · rw [decide_eq_true ag]
    simp only [Bool.not_true,cond_false]
    rw [kW (F:=F) ag gJ.1 (L:=zn a b i) (fun k j u v hu U=>by
     rw [zn,b3 af,Option.bind_some,cL (List.getElem?_eq_some_iff.1 hu).1,cond_true,Option.bind_some,b3 hu,Option.bind_some,b3 hy,Option.bind_some,b3 U,Option.bind_some]) (fun k=>by rw [zn,b3 af,Option.bind_some,cK];rfl) gJ.2,Pl]
    by_cases h:x=y
    · rw [if_pos h,decide_eq_true h];rfl
    · rw [if_neg h,decide_eq_false h];rfl
  · rw [decide_eq_false ag,nS ag];rfl) (fun k=>by rw [zm,cK];rfl) a'.targets.2
 rw [l1,gy,mE,K9,ms,ms,ms,ms]
 by_cases bn:a.aI=b.aI
 · by_cases bI:a.Fields=b.Fields
   · by_cases df:a.Names=b.Names
     · by_cases fu:a.aH=b.aH <;> simp [bn,bI,df,fu]
     · simp [df]
   · simp [bI]
 · simp [bn]
end
section
variable {F:Nat} {l:List aG}
theorem ajy {β:Type} {f:Int->β} {n:Nat}:(rows f n).length=n:=by simp [rows]
end
end Cin
namespace Cin
section
variable {F:Nat}
theorem VA {a b:List (Int)} (a':Small F a.length):Cg F a b=some (decide (a=b)):=by
 unfold Cg
 rw [lh]
 by_cases ag:a.length=b.length
 · rw [decide_eq_true ag]
   simp only [Bool.not_true,cond_false]
   rw [kW ag a'.1 (L:=ua a b) (fun k i x y af hy=>by rw [ua,cL (List.getElem?_eq_some_iff.1 af).1,cond_true,b3 af,Option.bind_some,b3 hy,Option.bind_some]) (fun k=>by rw [ua,cK];rfl) a'.2,ms]
   by_cases h:a=b <;> simp [h]
 · rw [decide_eq_false ag,nS ag];rfl
theorem Vy {a b:List (Field)} (a':Small F a.length):Cc F a b=some (decide (a=b)):=by
 unfold Cc
 rw [lh]
 by_cases ag:a.length=b.length
 · rw [decide_eq_true ag]
   simp only [Bool.not_true,cond_false]
   rw [kW ag a'.1 (L:=t_ a b) (fun k i x y af hy=>by rw [t_,cL (List.getElem?_eq_some_iff.1 af).1,cond_true,b3 af,Option.bind_some,b3 hy,Option.bind_some]) (fun k=>by rw [t_,cK];rfl) a'.2,ms]
   by_cases h:a=b <;> simp [h]
 · rw [decide_eq_false ag,nS ag];rfl
theorem VB {a b:List (List UInt8)} (a':Small F a.length):Ch F a b=some (decide (a=b)):=by
 unfold Ch
 rw [lh]
 by_cases ag:a.length=b.length
 · rw [decide_eq_true ag]
   simp only [Bool.not_true,cond_false]
   rw [kW ag a'.1 (L:=ub a b) (fun k i x y af hy=>by rw [ub,cL (List.getElem?_eq_some_iff.1 af).1,cond_true,b3 af,Option.bind_some,b3 hy,Option.bind_some]) (fun k=>by rw [ub,cK];rfl) a'.2,ms]
   by_cases h:a=b <;> simp [h]
 · rw [decide_eq_false ag,nS ag];rfl
theorem VD {a b:List (Target)} (a':Small F a.length):Cf F a b=some (decide (a=b)):=by
 unfold Cf
 rw [lh]
 by_cases ag:a.length=b.length
 · rw [decide_eq_true ag]
   simp only [Bool.not_true,cond_false]
   rw [kW ag a'.1 (L:=t' a b) (fun k i x y af hy=>by rw [t',cL (List.getElem?_eq_some_iff.1 af).1,cond_true,b3 af,Option.bind_some,b3 hy,Option.bind_some]) (fun k=>by rw [t',cK];rfl) a'.2,ms]
   by_cases h:a=b <;> simp [h]
 · rw [decide_eq_false ag,nS ag];rfl
theorem Vz {a b:List (List Field)} (a':Small F a.length) (af:∀ x ∈ a,Small F x.length):B' F a b=some (decide (a=b)):=by
 unfold B'
 rw [lh]
 by_cases ag:a.length=b.length
 · rw [decide_eq_true ag]
   simp only [Bool.not_true,cond_false]
   rw [kW ag a'.1 (L:=tX F a b) (fun k i x y aq aC=>by rw [tX,cL (List.getElem?_eq_some_iff.1 aq).1,cond_true,b3 aq,Option.bind_some,b3 aC,Option.bind_some,Vy (af x (List.mem_of_getElem? aq)),Option.bind_some]) (fun k=>by rw [tX,cK];rfl) a'.2,ms]
   by_cases h:a=b <;> simp [h]
 · rw [decide_eq_false ag,nS ag];rfl
theorem VC {a b:List (List (List UInt8))} (a':Small F a.length) (af:∀ x ∈ a,Small F x.length):Cb F a b=some (decide (a=b)):=by
 unfold Cb
 rw [lh]
 by_cases ag:a.length=b.length
 · rw [decide_eq_true ag]
   simp only [Bool.not_true,cond_false]
   rw [kW ag a'.1 (L:=tZ F a b) (fun k i x y aq aC=>by rw [tZ,cL (List.getElem?_eq_some_iff.1 aq).1,cond_true,b3 aq,Option.bind_some,b3 aC,Option.bind_some,VB (af x (List.mem_of_getElem? aq)),Option.bind_some]) (fun k=>by rw [tZ,cK];rfl) a'.2,ms]
   by_cases h:a=b <;> simp [h]
 · rw [decide_eq_false ag,nS ag];rfl
theorem VE {a b:List (List Target)} (a':Small F a.length) (af:∀ x ∈ a,Small F x.length):Ca F a b=some (decide (a=b)):=by
 unfold Ca
 rw [lh]
 by_cases ag:a.length=b.length
 · rw [decide_eq_true ag]
   simp only [Bool.not_true,cond_false]
   rw [kW ag a'.1 (L:=tY F a b) (fun k i x y aq aC=>by rw [tY,cL (List.getElem?_eq_some_iff.1 aq).1,cond_true,b3 aq,Option.bind_some,b3 aC,Option.bind_some,VD (af x (List.mem_of_getElem? aq)),Option.bind_some]) (fun k=>by rw [tY,cK];rfl) a'.2,ms]
   by_cases h:a=b <;> simp [h]
 · rw [decide_eq_false ag,nS ag];rfl
theorem ajQ {a b:bb} (a':Db F a):xM F a b=some (decide (a.aI=b.aI/\a.Fields=b.Fields/\a.Names=b.Names/\a.aH=b.aH)):=by
 unfold xM
 rw [VA a'.bx,Option.bind_some]
 by_cases bn:a.aI=b.aI
 case neg=>rw [decide_eq_false bn,decide_eq_false (fun e=>bn e.1)];rfl
 rw [decide_eq_true bn,cond_true,Vz a'.fields a'.field,Option.bind_some]
 by_cases bI:a.Fields=b.Fields
 case neg=>rw [decide_eq_false bI,decide_eq_false (fun e=>bI e.2.1)];rfl
 rw [decide_eq_true bI,cond_true,VC a'.names a'.name,Option.bind_some]
 by_cases df:a.Names=b.Names
 case neg=>rw [decide_eq_false df,decide_eq_false (fun e=>df e.2.2.1)];rfl
 rw [decide_eq_true df,cond_true,VE a'.targets a'.target,Option.bind_some]
 congr 1
 rw [Bool.eq_iff_iff]
 simp [bn,bI,df]
theorem U3 {k:bb} (bu:1100 <F) (hc:Fits F k.aK) (aZ:Db F k):∃ e,oo F k=some e/\NW F k=some e/\((e= 4)\/(e= 0 /\hq k.aK/\k=linked k.aK)):=by
 obtain ⟨r,aq,aC,bw,dz⟩:=ahO bu hc
 unfold oo NW
 rw [aq,aC,Option.bind_some,Option.bind_some]
 by_cases bk:r.2 = 0
 case neg=>rw [mH bk,mH bk];exact ⟨4,rfl,rfl,.inl rfl⟩
 obtain ⟨jO,e⟩:=bw bk
 have s1:xM F (⟨k.aK,k.aI,k.Fields,k.Names,k.aH⟩:bb) (⟨r.1.aK,r.1.aI,r.1.Fields,r.1.Names,r.1.aH⟩:bb)=some (decide (k.aI=r.1.aI/\k.Fields=r.1.Fields/\k.Names=r.1.Names/\k.aH=r.1.aH)):=ajQ (a:=k) (b:=r.1) aZ
 have s2:Dk F (⟨k.aK,k.aI,k.Fields,k.Names,k.aH⟩:bb) (⟨r.1.aK,r.1.aI,r.1.Fields,r.1.Names,r.1.aH⟩:bb)=some (decide (k.aI=r.1.aI/\k.Fields=r.1.Fields/\k.Names=r.1.Names/\k.aH=r.1.aH)):=ajP (a:=k) (b:=r.1) aZ (by rw [e];exact ajR hc)
 rw [s1,s2,bk];simp only [lH,Option.bind_some]
 by_cases aY:k.aI=r.1.aI/\k.Fields=r.1.Fields/\k.Names=r.1.Names/\k.aH=r.1.aH
 · rw [decide_eq_true aY]
   refine ⟨0,rfl,rfl,.inr ⟨rfl,jO,?_⟩⟩
   obtain ⟨bn,bI,df,fu⟩:=aY
   rw [e] at bn bI df fu
   obtain ⟨a,b,c,d,f⟩:=k
   simp only at bn bI df fu
   subst bn bI df fu
   rfl
 · rw [decide_eq_false aY]
   exact ⟨4,rfl,rfl,.inl rfl⟩
end
end Cin
namespace Cin
def xY (h:bd):Prop:=(3 <=h.ai/\h.ai<= 2000)/\(3 <=h.ak/\h.ak<= 2000)
def okB (h:bd):Prop:=(h.Words.length:Int)= 1 +h.ai+h.ak
def E0 (h:bd):Prop:=(1 <=h.aB/\h.aB<=h.ai+ 1)/\(h.ai+ 1 <=h.aA/\h.aA<=h.ai+h.ak+ 1)/\ 1 <=h.Next
instance (h:bd):Decidable (xY h):=inferInstanceAs (Decidable ((3 <=h.ai/\h.ai<= 2000)/\(3 <=h.ak/\h.ak<= 2000)))
instance (h:bd):Decidable (okB h):=inferInstanceAs (Decidable ((h.Words.length:Int)= 1 +h.ai+h.ak))
instance (h:bd):Decidable (E0 h):=inferInstanceAs (Decidable ((1 <=h.aB/\h.aB<=h.ai+ 1)/\(h.ai+ 1 <=h.aA/\h.aA<=h.ai+h.ak+ 1)/\ 1 <=h.Next))
def x8 (h:bd):Int:=if xY h then (if okB h then (if E0 h then 0 else 3) else 1) else 3
theorem aj2 (h:bd):xu h=some (x8 h):=by
 unfold xu k8 x8
 simp only [Option.bind_some]
 by_cases hx:xY h
 case neg=>
  rw [if_neg hx]
  unfold xY at hx
  by_cases a:3 <=h.ai/\h.ai<= 2000
  · have b: ¬ (3 <=h.ak/\h.ak<= 2000):=fun b=>hx ⟨a,b⟩
    rw [show (decide (3 <=h.ai) && decide (h.ai<= 2000))=true by simpa using a,show (decide (3 <=h.ak) && decide (h.ak<= 2000))=false by rw [Bool.eq_false_iff];simpa using b]
    rfl
  · rw [show (decide (3 <=h.ai) && decide (h.ai<= 2000))=false by rw [Bool.eq_false_iff];simpa using a]
    rfl
 rw [if_pos hx]
 unfold xY at hx
 obtain ⟨⟨di,ec⟩,a3,a4⟩:=hx
 rw [show (decide (3 <=h.ai) && decide (h.ai<= 2000))=true by simp;omega,show (decide (3 <=h.ak) && decide (h.ak<= 2000))=true by simp;omega,
  dJ (n:=1 +h.ai) (by omega) (by omega),dJ (n:=1 +h.ai+h.ak) (by omega) (by omega),dJ (n:=h.ai+ 1) (by omega) (by omega),dJ (n:=h.ai+h.ak) (by omega) (by omega),dJ (n:=h.ai+h.ak+ 1) (by omega) (by omega)]
 simp only [Bool.not_true,cond_false]
 by_cases jg:okB h
 case neg=>
  rw [if_neg jg,show decide ((h.Words.length:Int)= 1 +h.ai+h.ak)=false from decide_eq_false jg];rfl
 rw [if_pos jg,show decide ((h.Words.length:Int)= 1 +h.ai+h.ak)=true from decide_eq_true jg]
 simp only [Bool.not_true,cond_false]
 by_cases u':E0 h
 · rw [if_pos u']
   obtain ⟨dL,dU,gj⟩:=u'
   rw [show (decide (1 <=h.aB) && decide (h.aB<=h.ai+ 1))=true by simpa using dL,show (decide (h.ai+ 1 <=h.aA) && decide (h.aA<=h.ai+h.ak+ 1))=true by simpa using dU,show decide (h.Next < 1)=false from decide_eq_false (by omega)]
   rfl
 · rw [if_neg u']
   by_cases dL:1 <=h.aB/\h.aB<=h.ai+ 1
   · rw [show (decide (1 <=h.aB) && decide (h.aB<=h.ai+ 1))=true by simpa using dL]
     by_cases dU:h.ai+ 1 <=h.aA/\h.aA<=h.ai+h.ak+ 1
     · have gj:h.Next < 1 :=by
        rcases Int.lt_or_le h.Next 1 with c | c
        · exact c
        · exact absurd ⟨dL,dU,c⟩ u'
       rw [decide_eq_true gj,Bool.or_true];rfl
     · rw [show (decide (h.ai+ 1 <=h.aA) && decide (h.aA<=h.ai+h.ak+ 1))=false by rw [Bool.eq_false_iff];simpa using dU]
       rfl
   · rw [show (decide (1 <=h.aB) && decide (h.aB<=h.ai+ 1))=false by rw [Bool.eq_false_iff];simpa using dL]
     rfl
structure iw (h:bd):Prop where
 A:xY h
 B:okB h
 C:E0 h
theorem MA {h:bd}:x8 h= 0 ↔ iw h:=by
 unfold x8
 constructor
 · intro e
   split at e
   · split at e
     · split at e
       · exact ⟨‹_›,‹_›,‹_›⟩
       · cases e
     · cases e
   · cases e
 · rintro ⟨a,b,c⟩
   rw [if_pos a,if_pos b,if_pos c]
section
variable {F:Nat} {k:bb} {W:List Int}
theorem gi.mem {to q:Nat} {L:List Int} (h:gi k W to q L):∀ a ∈ L,∃ n:Nat,a=(n:Int)/\q<=n/\n+ 3 +(wd W (n+ 1)).toNat<=to/\gV k (wd W n)=true/\isLen k (wd W n) (wd W (n+ 1))=true:=by
 induction h with
 | nil=>intro a a';cases a'
 | cons aq aC bw _ cb=>
   intro a a'
   rcases List.mem_cons.1 a' with rfl | a'
   · exact ⟨_,rfl,Nat.le_refl _,bw,aq,aC⟩
   · obtain ⟨n,e,dz,jx⟩:=cb a a'
     exact ⟨n,e,by omega,jx⟩
theorem gi.SD {to q:Nat} {L L':List Int} (h:gi k W to q L) (dh:gi k W to q L'):L=L':=by
 induction h generalizing L' with
 | nil=>
   cases dh with
   | nil=>rfl
   | cons _ _ _ _=>omega
 | cons _ _ bw _ cb=>
   cases dh with
   | nil=>omega
   | cons _ _ _ dz=>rw [cb dz]
theorem gi.len {to q:Nat} {L:List Int} (h:gi k W to q L):3 *L.length+q<=to:=by
 induction h with
 | nil=>simp
 | cons _ _ bw _ cb=>simp only [List.length_cons];omega
theorem St {l:List Int} {N:Nat} (h:nJ l) (bk:∀ i,i <l.length-> 0 <=wd l i/\wd l i <N):l.length<=N:=by
 have key:∀ i,i <l.length->(i:Int)<=wd l i:=by
  intro i
  induction i with
  | zero=>intro hi;exact (bk 0 hi).1
  | succ i cb=>
    intro hi
    have:=h i (i+ 1) (by omega) hi
    have:=cb (by omega)
    omega
 rcases Nat.eq_zero_or_pos l.length with e | e
 · omega
 · have:=key (l.length - 1) (by omega)
   have:=(bk (l.length - 1) (by omega)).2
   omega
theorem Lj (x:Int):∀ A:List Int,(cW (A.map fun a=>(a,true)) x).getD false=decide (x ∈ A)
 | []=>by simp [cW]
 | a::r=>by
   rw [List.map_cons,cW]
   by_cases e:a=x
   · simp [e]
   · rw [if_neg e,Lj x r]
     have: ¬ x=a:=fun h=>e h.symm
     simp [this]
def view (h:bd) (k:bb) (Y O:List Int):bU:=⟨h,⟨k⟩,Y,O,(Y++O).map fun a=>(a,true)⟩
structure hs (h:bd) (k:bb) (Y O:List Int):Prop where
 y:gi k h.Words h.aB.toNat 1 Y
 o:gi k h.Words h.aA.toNat (h.ai+ 1).toNat O
theorem iw.nv {h:bd} (aY:iw h):h.Words.length<= 4001 :=by
 obtain ⟨⟨⟨a,b⟩,c,d⟩,e,_⟩:=aY
 unfold okB at e;omega
theorem hs.SJ {h:bd} {Y O:List Int} (aZ:j' k) (aY:iw h) (ag:hs h k Y O):wS (view h k Y O):=by
 have hw:=aY.nv
 obtain ⟨⟨⟨di,ec⟩,a3,a4⟩,b,⟨dL,dU⟩,⟨gj,ja⟩,kU⟩:=aY
 unfold okB at b
 refine ⟨aZ,by show h.Words.length<= 4900;omega,?_,fun a a'=>?_,fun x=>Lj x _⟩
 · have:=ag.y.len;have:=ag.o.len
   show Y.length+O.length<= 5000
   omega
 · have a':a ∈ Y++O:=a'
   rcases List.mem_append.1 a' with a' | a'
   · obtain ⟨n,rfl,aq,aC,bw,dz⟩:=ag.y.mem a a'
     exact ⟨by omega,by show ((n:Int).toNat)+ 3 +(wd h.Words ((n:Int).toNat+ 1)).toNat<=h.Words.length;rw [Int.toNat_natCast];omega,by rw [Int.toNat_natCast];exact bw,by rw [Int.toNat_natCast];exact dz⟩
   · obtain ⟨n,rfl,aq,aC,bw,dz⟩:=ag.o.mem a a'
     exact ⟨by omega,by show ((n:Int).toNat)+ 3 +(wd h.Words ((n:Int).toNat+ 1)).toNat<=h.Words.length;rw [Int.toNat_natCast];omega,by rw [Int.toNat_natCast];exact bw,by rw [Int.toNat_natCast];exact dz⟩
def fO (v:bU):Int:=if (v.ai++v.ak).any (n1 v) then 3 else if ((v.ai++v.ak).map (aY v.H.Words)).Nodup then 0 else 6
def rS (v:bU):Int:=if (v.ai++v.ak).any (rK v) then 5 else if (free v.H).any (fun x=>!decide (x= 0)) then 1 else 0
def vZ (v:bU):Int:=if (List.range v.H.al.length).any (kB v) || v.ak.any (r2 v) then 4 else 0
def nu (v:bU):Int:=if fO v= 0 then (if rS v= 0 then vZ v else rS v) else fO v
inductive Spec (h:bd) (k:bb):Option bU × Int->Prop
 | size: ¬ iw h->Spec h k (none,x8 h)
 | form:iw h->(∀ Y O,¬ hs h k Y O)->Spec h k (none,1)
 | rest {Y O:List Int}:iw h->hs h k Y O->Spec h k (if nu (view h k Y O)= 0 then some (view h k Y O) else none,nu (view h k Y O))
theorem RP (bu:10000 <F) {h:bd} (aZ:j' k) (ad:Small F h.al.length):∃ r,vq F h k=some r/\Spec h k r:=by
 unfold vq
 have gQ:xu (⟨h.Words,h.ai,h.ak,h.aB,h.aA,h.al,h.Next⟩:bd)=some (x8 h):=aj2 h
 rw [gQ,Option.bind_some]
 by_cases aY:iw h
 case neg=>
  rw [mH (fun e=>aY (MA.1 e))]
  exact ⟨_,rfl,.size aY⟩
 rw [MA.2 aY,lH]
 have hw:=aY.nv
 have dn:=aY
 obtain ⟨⟨⟨di,ec⟩,a3,a4⟩,b,⟨dL,dU⟩,⟨gj,ja⟩,kU⟩:=aY
 unfold okB at b
 have t1:=Sz (F:=F) (by omega) (⟨h,⟨k⟩,[],[],[]⟩:bU) aZ (q:=1) (to:=h.aB.toNat) (by omega) (by show _<=h.Words.length;omega) (by show h.Words.length<= 5000;omega) (fun p bD=>by cases bD)
 rw [show ((h.aB.toNat:Nat):Int)=h.aB by omega] at t1
 rw [dJ (n:=h.ai+ 1) (by omega) (by omega)]
 rcases t1 with ⟨Y,P',bn⟩ | ⟨vB,hh,bn⟩
 case inr=>
  have bn:k7 F (⟨(⟨h.Words,h.ai,h.ak,h.aB,h.aA,h.al,h.Next⟩:bd),(⟨(⟨k.aK,k.aI,k.Fields,k.Names,k.aH⟩:bb)⟩:cd),[],[],[]⟩:bU) 1 h.aB=some ([],false,(⟨h,⟨k⟩,[],[],hh⟩:bU)):=bn
  rw [bn,Option.bind_some]
  have t2:∃ r,k7 F (⟨(⟨h.Words,h.ai,h.ak,h.aB,h.aA,h.al,h.Next⟩:bd),(⟨(⟨k.aK,k.aI,k.Fields,k.Names,k.aH⟩:bb)⟩:cd),[],[],hh⟩:bU) (h.ai+ 1) h.aA=some r:=by
   unfold k7
   have key:∀ (f q:Nat) (acc:List Int) (m:List (Int × Bool)),q<=h.aA.toNat->h.aA.toNat - q <f->acc.length+(h.aA.toNat - q)<= 5000 -> ∃ r,n6 h.aA (⟨h,⟨k⟩,[],[],hh⟩:bU) f acc m (q:Int)=some r:=by
    intro f
    induction f with
    | zero=>intro q acc m _ dX;omega
    | succ f cb=>
      intro q acc m dX I sY
      rw [n6]
      by_cases dO:(q:Int) <h.aA
      case neg=>rw [decide_eq_false dO];exact ⟨_,rfl⟩
      rw [decide_eq_true dO,cond_true,dJ (n:=(q:Int)+ 3) (by omega) (by omega)]
      by_cases bw:h.aA <(q:Int)+ 3
      · rw [decide_eq_true bw];exact ⟨_,rfl⟩
      rw [decide_eq_false bw,cond_false]
      show ∃ r,(idx h.Words (q:Int)).bind _=some r
      rw [oc (by omega),Option.bind_some]
      show ∃ r,(idx h.Words (ay ((q:Int)+ 1))).bind _=some r
      rw [dJ (n:=(q:Int)+ 1) (by omega) (by omega),jT (i:=q+ 1) (by omega) (by omega),Option.bind_some]
      have bn:n4 (⟨(⟨k.aK,k.aI,k.Fields,k.Names,k.aH⟩:bb)⟩:cd) (wd h.Words q)=some (gV k (wd h.Words q)):=Mw aZ _
      show ∃ r,(n4 (⟨(⟨k.aK,k.aI,k.Fields,k.Names,k.aH⟩:bb)⟩:cd) (wd h.Words q)).bind _=some r
      rw [bn,Option.bind_some]
      cases bt:gV k (wd h.Words q) with
      | false=>exact ⟨_,rfl⟩
      | true=>
        have bI:n5 (⟨(⟨k.aK,k.aI,k.Fields,k.Names,k.aH⟩:bb)⟩:cd) (wd h.Words q) (wd h.Words (q+ 1))=some (isLen k (wd h.Words q) (wd h.Words (q+ 1))):=Mx aZ bt _
        rw [Bool.not_true,cond_false]
        show ∃ r,(n5 (⟨(⟨k.aK,k.aI,k.Fields,k.Names,k.aH⟩:bb)⟩:cd) (wd h.Words q) (wd h.Words (q+ 1))).bind _=some r
        rw [bI,Option.bind_some]
        cases ag:isLen k (wd h.Words q) (wd h.Words (q+ 1)) with
        | false=>exact ⟨_,rfl⟩
        | true=>
          obtain ⟨⟨q0,l1⟩,_⟩:=tt.1 ag
          rw [Bool.not_true,Bool.false_or,dJ (n:=(q:Int)+ 3 +wd h.Words (q+ 1)) (by omega) (by omega)]
          by_cases qJ:h.aA <(q:Int)+ 3 +wd h.Words (q+ 1)
          · rw [decide_eq_true qJ];exact ⟨_,rfl⟩
          rw [decide_eq_false qJ,cond_false,js (by simp;omega),Option.bind_some,dJ (n:=3 +wd h.Words (q+ 1)) (by omega) (by omega),dJ (n:=(q:Int)+(3 +wd h.Words (q+ 1))) (by omega) (by omega),
           show (q:Int)+(3 +wd h.Words (q+ 1))=((q+ 3 +(wd h.Words (q+ 1)).toNat:Nat):Int) by omega]
          exact cb _ _ _ (by omega) (by omega) (by simp;omega)
   obtain ⟨r,bm⟩:=key F (h.ai+ 1).toNat [] hh (by omega) (by omega) (by simp;omega)
   rw [show (((h.ai+ 1).toNat:Nat):Int)=h.ai+ 1 by omega] at bm
   have bm:n6 h.aA (⟨(⟨h.Words,h.ai,h.ak,h.aB,h.aA,h.al,h.Next⟩:bd),(⟨(⟨k.aK,k.aI,k.Fields,k.Names,k.aH⟩:bb)⟩:cd),[],[],hh⟩:bU) F [] hh (h.ai+ 1)=some r:=bm
   rw [bm]
   cases r <;> exact ⟨_,rfl⟩
  obtain ⟨r,bI⟩:=t2
  rw [bI,Option.bind_some]
  exact ⟨_,rfl,.form dn (fun Y O ag=>vB Y ag.y)⟩
 have bn:k7 F (⟨(⟨h.Words,h.ai,h.ak,h.aB,h.aA,h.al,h.Next⟩:bd),(⟨(⟨k.aK,k.aI,k.Fields,k.Names,k.aH⟩:bb)⟩:cd),[],[],[]⟩:bU) 1 h.aB=some (Y,true,(⟨h,⟨k⟩,[],[],Y.map fun a=>(a,true)⟩:bU)):=bn
 rw [bn,Option.bind_some]
 have t2:=Sz (F:=F) (by omega) (⟨h,⟨k⟩,[],[],Y.map fun a=>(a,true)⟩:bU) aZ (q:=(h.ai+ 1).toNat) (to:=h.aA.toNat) (by omega) (by show _<=h.Words.length;omega) (by show h.Words.length<= 5000;omega) (fun p bD=>by
  obtain ⟨a,a',rfl⟩:=List.mem_map.1 bD
  have XQ:gi k h.Words h.aB.toNat 1 Y:=P'
  obtain ⟨n,rfl,aq,aC,_⟩:=XQ.mem a a'
  show (n:Int) <_
  omega)
 rw [show ((h.aA.toNat:Nat):Int)=h.aA by omega,show (((h.ai+ 1).toNat:Nat):Int)=h.ai+ 1 by omega] at t2
 rcases t2 with ⟨O,jQ,bI⟩ | ⟨vB,hh,bI⟩
 case inr=>
  have bI:k7 F (⟨(⟨h.Words,h.ai,h.ak,h.aB,h.aA,h.al,h.Next⟩:bd),(⟨(⟨k.aK,k.aI,k.Fields,k.Names,k.aH⟩:bb)⟩:cd),[],[],Y.map fun a=>(a,true)⟩:bU) (h.ai+ 1) h.aA=_:=bI
  show ∃ r,(k7 F (⟨(⟨h.Words,h.ai,h.ak,h.aB,h.aA,h.al,h.Next⟩:bd),(⟨(⟨k.aK,k.aI,k.Fields,k.Names,k.aH⟩:bb)⟩:cd),[],[],Y.map fun a=>(a,true)⟩:bU) (h.ai+ 1) h.aA).bind _=some r/\_
  rw [bI,Option.bind_some]
  exact ⟨_,rfl,.form dn (fun Y' O' ag=>vB O' ag.o)⟩
 have bI:k7 F (⟨(⟨h.Words,h.ai,h.ak,h.aB,h.aA,h.al,h.Next⟩:bd),(⟨(⟨k.aK,k.aI,k.Fields,k.Names,k.aH⟩:bb)⟩:cd),[],[],Y.map fun a=>(a,true)⟩:bU) (h.ai+ 1) h.aA=some (O,true,(⟨h,⟨k⟩,[],[],(Y.map fun a=>(a,true))++O.map fun a=>(a,true)⟩:bU)):=bI
 show ∃ r,(k7 F (⟨(⟨h.Words,h.ai,h.ak,h.aB,h.aA,h.al,h.Next⟩:bd),(⟨(⟨k.aK,k.aI,k.Fields,k.Names,k.aH⟩:bb)⟩:cd),[],[],Y.map fun a=>(a,true)⟩:bU) (h.ai+ 1) h.aA).bind _=some r/\_
 rw [bI,Option.bind_some,<-List.map_append]
 have ag:hs h k Y O:=⟨P',jQ⟩
 have U:=ag.SJ aZ dn
 have hn:xq F (⟨(⟨h.Words,h.ai,h.ak,h.aB,h.aA,h.al,h.Next⟩:bd),(⟨(⟨k.aK,k.aI,k.Fields,k.Names,k.aH⟩:bb)⟩:cd),Y,O,(Y++O).map fun a=>(a,true)⟩:bU)=some (fO (view h k Y O)):=
  XW bu (view h k Y O) U.HD (fun a a'=>⟨(U.yd a a').pos,by have:=(U.yd a a').fit;omega⟩) (by have:=U.nv;omega) (by simp [view])
 have oO:xt F (⟨(⟨h.Words,h.ai,h.ak,h.aB,h.aA,h.al,h.Next⟩:bd),(⟨(⟨k.aK,k.aI,k.Fields,k.Names,k.aH⟩:bb)⟩:cd),Y,O,(Y++O).map fun a=>(a,true)⟩:bU)=some (rS (view h k Y O)):=
  aku bu U (by show 0 <=h.ai;omega) ⟨by show 0 <=h.aB;omega,by show h.aB<=h.ai+ 1;omega,by show h.ai+ 1 <=h.Words.length;omega⟩ ⟨by show 0 <=h.aA;omega,by show h.aA<=h.Words.length;omega⟩
 have akQ:xr F (⟨(⟨h.Words,h.ai,h.ak,h.aB,h.aA,h.al,h.Next⟩:bd),(⟨(⟨k.aK,k.aI,k.Fields,k.Names,k.aH⟩:bb)⟩:cd),Y,O,(Y++O).map fun a=>(a,true)⟩:bU)=some (vZ (view h k Y O)):=
  aif bu U ad.1 ad.2 (fun mx=>by
   refine Nat.le_trans (St (N:=5000) (MB fun i hi=>?_) (fun i hi=>?_)) (by omega)
   · have:=mx (i+ 1) hi
     unfold kB at this
     simp only [Bool.or_eq_false_iff,Bool.and_eq_false_iff,decide_eq_false_iff_not,Nat.add_sub_cancel] at this
     rcases this.1 with z | z
     · omega
     · have z: ¬ wd h.al (i+ 1)<=wd h.al i:=z
       show wd h.al i <wd h.al (i+ 1);omega
   · have:=mx i hi
     unfold kB tL at this
     simp only [Bool.or_eq_false_iff] at this
     have hm:wd (view h k Y O).H.al i ∈ (view h k Y O).ai++(view h k Y O).ak:=by
      have:=this.2.1.1
      simp only [Bool.not_eq_false'] at this
      exact of_decide_eq_true this
     have bt:=U.yd _ hm
     have aq:0 <=wd h.al i:=bt.pos
     have aC:(wd h.al i).toNat+ 3 +(wd h.Words ((wd h.al i).toNat+ 1)).toNat<=h.Words.length:=bt.fit
     exact ⟨aq,by show wd h.al i <((5000 :Nat):Int);omega⟩)
 simp only [Bool.not_true,Bool.or_self,cond_false]
 rw [hn,Option.bind_some]
 by_cases g4:fO (view h k Y O)= 0
 case neg=>
  rw [mH g4]
  have ev:nu (view h k Y O)=fO (view h k Y O):=by unfold nu;rw [if_neg g4]
  have:=Spec.rest dn ag
  rw [ev,if_neg g4] at this
  exact ⟨_,rfl,this⟩
 rw [g4,lH,oO,Option.bind_some]
 by_cases hS:rS (view h k Y O)= 0
 case neg=>
  rw [mH hS]
  have ev:nu (view h k Y O)=rS (view h k Y O):=by unfold nu;rw [if_pos g4,if_neg hS]
  have:=Spec.rest dn ag
  rw [ev,if_neg hS] at this
  exact ⟨_,rfl,this⟩
 rw [hS,lH,akQ,Option.bind_some]
 have ev:nu (view h k Y O)=vZ (view h k Y O):=by unfold nu;rw [if_pos g4,if_pos hS]
 have pz:=Spec.rest dn ag
 rw [ev] at pz
 by_cases mI:vZ (view h k Y O)= 0
 · rw [mI] at pz ⊢
   rw [lH]
   exact ⟨_,rfl,pz⟩
 · rw [mH mI]
   rw [if_neg mI] at pz
   exact ⟨_,rfl,pz⟩
end
end Cin
namespace Cin
theorem uh {W:List Int} {p j:Nat} {x:Int} (bD:p <W.length):wd (W.set p x) j=if j=p then x else wd W j:=by
 unfold wd
 rw [List.getElem?_set]
 by_cases e:j=p
 · subst e;simp [bD]
 · have: ¬ p=j:=fun h=>e h.symm
   simp [e,this]
theorem ah5 {h:bd} {x:Int} (hy:0 <=h.ai) (af:x ∈ free h):∃ i:Nat,i <h.Words.length/\(i= 0 \/(h.aB<=i/\(i:Int)<=h.ai)\/h.aA<=i)/\x=wd h.Words i:=by
 unfold free at af
 rw [List.mem_append,List.mem_append] at af
 rcases af with af | af | af
 · obtain ⟨i,hi,e⟩:=List.getElem_of_mem af
   have s8:i < 1 /\i <h.Words.length:=by rw [List.length_take] at hi;omega
   refine ⟨i,s8.2,.inl (by omega),?_⟩
   rw [<-e,List.getElem_take];exact (Cn (List.getElem?_eq_getElem s8.2)).symm
 · obtain ⟨i,hi,e⟩:=List.getElem_of_mem af
   have s8:i <min (h.ai+ 1).toNat h.Words.length - h.aB.toNat:=by simpa using hi
   have aC:h.aB.toNat+i <h.Words.length:=by omega
   refine ⟨h.aB.toNat+i,aC,.inr (.inl ⟨by omega,by omega⟩),?_⟩
   rw [<-e,List.getElem_drop,List.getElem_take];exact (Cn (List.getElem?_eq_getElem aC)).symm
 · obtain ⟨i,hi,e⟩:=List.getElem_of_mem af
   have s8:i <h.Words.length - h.aA.toNat:=by simpa using hi
   have aC:h.aA.toNat+i <h.Words.length:=by omega
   refine ⟨h.aA.toNat+i,aC,.inr (.inr (by omega)),?_⟩
   rw [<-e,List.getElem_drop];exact (Cn (List.getElem?_eq_getElem aC)).symm
theorem VW {h:bd} (bk:0 <=h.aB/\ 0 <=h.aA) {i:Nat} (hi:i <h.Words.length) (hc:i= 0 \/(h.aB<=i/\(i:Int)<=h.ai)\/h.aA<=i):wd h.Words i ∈ free h:=by
 have key:wd h.Words i=h.Words[i]:=Cn (List.getElem?_eq_getElem hi)
 unfold free
 rw [List.mem_append,List.mem_append,key]
 rcases hc with rfl | ⟨aq,aC⟩ | aq
 · left
   rw [List.mem_iff_getElem?]
   exact ⟨0,by rw [List.getElem?_take,if_pos (by omega)];exact List.getElem?_eq_getElem hi⟩
 · right;left
   rw [List.mem_iff_getElem?]
   refine ⟨i - h.aB.toNat,?_⟩
   rw [List.getElem?_drop,List.getElem?_take,if_pos (by omega),show h.aB.toNat+(i - h.aB.toNat)=i by omega]
   exact List.getElem?_eq_getElem hi
 · right;right
   rw [List.mem_iff_getElem?]
   refine ⟨i - h.aA.toNat,?_⟩
   rw [List.getElem?_drop,show h.aA.toNat+(i - h.aA.toNat)=i by omega]
   exact List.getElem?_eq_getElem hi
structure nF (h:bd) (k:bb) (Y O:List Int):Prop where
 hash:∀ a ∈ Y++O,1 <=aY h.Words a/\aY h.Words a <h.Next
 nodup:((Y++O).map (aY h.Words)).Nodup
 ref:∀ a ∈ Y++O,∀ w ∈ refs k h.Words a.toNat,wd h.Words w.toNat= 0 \/wd h.Words w.toNat ∈ Y++O
 b7:∀ i:Nat,i <h.Words.length->(i= 0 \/(h.aB<=i/\(i:Int)<=h.ai)\/h.aA<=i)->wd h.Words i= 0
 ya:nJ h.al
 nt:∀ x ∈ h.al,x ∈ O/\refs k h.Words x.toNat≠ []
 must:∀ a ∈ O,¬ a ∈ h.al-> ∀ w ∈ refs k h.Words a.toNat,¬ (0 <wd h.Words w.toNat/\wd h.Words w.toNat<=h.ai)
section
variable {F:Nat} {k:bb} {h:bd} {Y O:List Int}
theorem hs.CP (aY:iw h) (ag:hs h k Y O):∀ a ∈ Y,1 <=a/\a.toNat+ 3 +(wd h.Words (a.toNat+ 1)).toNat<=h.aB.toNat:=fun a a'=>by
 obtain ⟨n,rfl,aq,aC,_⟩:=ag.y.mem a a'
 exact ⟨by omega,by rw [Int.toNat_natCast];exact aC⟩
theorem hs.eA (aY:iw h) (ag:hs h k Y O):∀ a ∈ O,h.ai+ 1 <=a/\a.toNat+ 3 +(wd h.Words (a.toNat+ 1)).toNat<=h.aA.toNat:=fun a a'=>by
 obtain ⟨n,rfl,aq,aC,_⟩:=ag.o.mem a a'
 have:=aY.A.1.1
 exact ⟨by omega,by rw [Int.toNat_natCast];exact aC⟩
theorem SI (aZ:j' k) (dn:iw h) (ag:hs h k Y O):nu (view h k Y O)= 0 ↔ nF h k Y O:=by
 have U:=ag.SJ aZ dn
 obtain ⟨⟨⟨di,ec⟩,a3,a4⟩,b,⟨dL,dU⟩,⟨gj,ja⟩,kU⟩:=id dn
 have hy:=ag.CP dn;have bc:=ag.eA dn
 have bn:fO (view h k Y O)= 0 ↔ (∀ a ∈ Y++O,n1 (view h k Y O) a=false)/\((Y++O).map (aY h.Words)).Nodup:=by
  unfold fO
  show (if (Y++O).any (n1 (view h k Y O)) then (3 :Int) else if ((Y++O).map (aY h.Words)).Nodup then 0 else 6)= 0 ↔ _
  cases aM:(Y++O).any (n1 (view h k Y O)) with
  | true=>
    rw [if_pos rfl]
    refine ⟨fun e=>(by cases e),fun ⟨e,_⟩=>?_⟩
    obtain ⟨x,af,bI⟩:=List.any_eq_true.1 aM
    rw [e x af] at bI;cases bI
  | false=>
    rw [if_neg (by decide)]
    rw [List.any_eq_false] at aM
    have hN:∀ a ∈ Y++O,n1 (view h k Y O) a=false:=fun a a'=>by simpa using aM a a'
    split
    · rename_i ad;exact ⟨fun _=>⟨hN,ad⟩,fun _=>rfl⟩
    · rename_i ad;exact ⟨fun e=>(by cases e),fun e=>absurd e.2 ad⟩
 have bI:rS (view h k Y O)= 0 ↔ (∀ a ∈ Y++O,rK (view h k Y O) a=false)/\ ∀ x ∈ free h,x= 0 :=by
  unfold rS
  show (if (Y++O).any (rK (view h k Y O)) then (5 :Int) else if (free h).any (fun x=>!decide (x= 0)) then 1 else 0)= 0 ↔ _
  cases aM:(Y++O).any (rK (view h k Y O)) with
  | true=>
    rw [if_pos rfl]
    refine ⟨fun e=>(by cases e),fun ⟨e,_⟩=>?_⟩
    obtain ⟨x,af,bI⟩:=List.any_eq_true.1 aM
    rw [e x af] at bI;cases bI
  | false=>
    rw [if_neg (by decide)]
    rw [List.any_eq_false] at aM
    have hN:∀ a ∈ Y++O,rK (view h k Y O) a=false:=fun a a'=>by simpa using aM a a'
    cases I:(free h).any (fun x=>!decide (x= 0)) with
    | true=>
      rw [if_pos rfl]
      refine ⟨fun e=>(by cases e),fun ⟨_,e⟩=>?_⟩
      obtain ⟨x,af,bI⟩:=List.any_eq_true.1 I
      rw [e x af] at bI;cases bI
    | false=>
      rw [if_neg (by decide)]
      rw [List.any_eq_false] at I
      exact ⟨fun _=>⟨hN,fun x af=>by simpa using I x af⟩,fun _=>rfl⟩
 have df:vZ (view h k Y O)= 0 ↔ (∀ i,i <h.al.length->kB (view h k Y O) i=false)/\ ∀ a ∈ O,r2 (view h k Y O) a=false:=by
  unfold vZ
  show (if (List.range h.al.length).any (kB (view h k Y O)) || O.any (r2 (view h k Y O)) then (4 :Int) else 0)= 0 ↔ _
  cases aM:(List.range h.al.length).any (kB (view h k Y O)) with
  | true=>
    rw [Bool.true_or,if_pos rfl]
    refine ⟨fun e=>(by cases e),fun ⟨e,_⟩=>?_⟩
    obtain ⟨x,af,bI⟩:=List.any_eq_true.1 aM
    rw [e x (by simpa using af)] at bI;cases bI
  | false=>
    rw [Bool.false_or]
    rw [List.any_eq_false] at aM
    have hN:∀ i,i <h.al.length->kB (view h k Y O) i=false:=fun i hi=>by simpa using aM i (by simpa using hi)
    cases I:O.any (r2 (view h k Y O)) with
    | true=>
      rw [if_pos rfl]
      refine ⟨fun e=>(by cases e),fun ⟨_,e⟩=>?_⟩
      obtain ⟨x,af,bI⟩:=List.any_eq_true.1 I
      rw [e x af] at bI;cases bI
    | false=>
      rw [if_neg (by decide)]
      rw [List.any_eq_false] at I
      exact ⟨fun _=>⟨hN,fun x af=>by simpa using I x af⟩,fun _=>rfl⟩
 have fu:nu (view h k Y O)= 0 ↔ fO (view h k Y O)= 0 /\rS (view h k Y O)= 0 /\vZ (view h k Y O)= 0 :=by
  unfold nu
  by_cases g4:fO (view h k Y O)= 0
  · rw [if_pos g4]
    by_cases hS:rS (view h k Y O)= 0
    · rw [if_pos hS];exact ⟨fun e=>⟨g4,hS,e⟩,fun e=>e.2.2⟩
    · rw [if_neg hS];exact ⟨fun e=>absurd e hS,fun e=>absurd e.2.1 hS⟩
  · rw [if_neg g4];exact ⟨fun e=>absurd e g4,fun e=>absurd e.1 g4⟩
 rw [fu,bn,bI,df]
 have vC:∀ x,(tL (view h k Y O) x=false) ↔ x ∈ O/\refs k h.Words x.toNat≠ []:=fun x=>by
  unfold tL qX
  show ((!decide (x ∈ Y++O) || (decide (0 <x) && decide (x<=h.ai))) || (refs k h.Words x.toNat).isEmpty)=false ↔ _
  rw [Bool.or_eq_false_iff,Bool.or_eq_false_iff]
  constructor
  · rintro ⟨⟨aq,aC⟩,bw⟩
    have aq:x ∈ Y++O:=by simp only [Bool.not_eq_false'] at aq;exact of_decide_eq_true aq
    refine ⟨?_,fun e=>by rw [e] at bw;cases bw⟩
    rcases List.mem_append.1 aq with dz | dz
    · have:=hy x dz
      rw [decide_eq_true (by omega),decide_eq_true (by omega)] at aC
      cases aC
    · exact dz
  · rintro ⟨aq,aC⟩
    have:=bc x aq
    refine ⟨⟨?_,?_⟩,?_⟩
    · rw [decide_eq_true (List.mem_append_right _ aq)];rfl
    · rw [decide_eq_false (p:=x<=h.ai) (by omega),Bool.and_false]
    · cases e:refs k h.Words x.toNat with
      | nil=>exact absurd e aC
      | cons _ _=>rfl
 constructor
 · rintro ⟨⟨aq,aC⟩,⟨bw,dz⟩,jx,qq⟩
   refine ⟨fun a a'=>?_,aC,fun a a' w hw=>?_,fun i hi hc=>dz _ (VW ⟨by omega,by omega⟩ hi hc),MB fun i hi=>?_,fun x af=>?_,fun a a' ad w hw=>?_⟩
   · have:=aq a a'
     unfold n1 at this
     rw [Bool.or_eq_false_iff,decide_eq_false_iff_not,decide_eq_false_iff_not] at this
     have t1: ¬ aY h.Words a < 1 :=this.1
     have t2: ¬ h.Next<=aY h.Words a:=this.2
     omega
   · have:=bw a a'
     unfold rK at this
     rw [List.any_eq_false] at this
     have u_:=this w hw
     unfold wu at u_
     by_cases e:wd h.Words w.toNat= 0
     · exact .inl e
     · refine .inr ?_
       by_cases bI:wd h.Words w.toNat ∈ Y++O
       · exact bI
       · refine absurd ?_ u_
         show (!decide (wd h.Words w.toNat= 0) && !decide (wd h.Words w.toNat ∈ Y++O))=true
         rw [decide_eq_false e,decide_eq_false bI];rfl
   · have:=jx (i+ 1) hi
     unfold kB at this
     simp only [Bool.or_eq_false_iff,Bool.and_eq_false_iff,decide_eq_false_iff_not,Nat.add_sub_cancel] at this
     rcases this.1 with z | z
     · omega
     · have z: ¬ wd h.al (i+ 1)<=wd h.al i:=z
       omega
   · obtain ⟨i,hi,e⟩:=EC af
     have:=jx i hi
     unfold kB at this
     rw [Bool.or_eq_false_iff] at this
     have u_:tL (view h k Y O) (wd h.al i)=false:=this.2
     rw [e] at u_
     exact (vC x).1 u_
   · rintro ⟨yl,Gm⟩
     have:=qq a a'
     unfold r2 at this
     have this:(!decide (a ∈ h.al) && (refs k h.Words a.toNat).any fun w=>qX (view h k Y O) (wd h.Words w.toNat))=false:=this
     rw [decide_eq_false ad,Bool.not_false,Bool.true_and,List.any_eq_false] at this
     refine this w hw ?_
     show (decide (0 <wd h.Words w.toNat) && decide (wd h.Words w.toNat<=h.ai))=true
     rw [decide_eq_true yl,decide_eq_true Gm];rfl
 · intro g
   refine ⟨⟨fun a a'=>?_,g.nodup⟩,⟨fun a a'=>?_,fun x af=>?_⟩,fun i hi=>?_,fun a a'=>?_⟩
   · have:=g.hash a a'
     show (decide (aY h.Words a < 1) || decide (h.Next<=aY h.Words a))=false
     rw [decide_eq_false (by omega),decide_eq_false (by omega)];rfl
   · show ((refs k h.Words a.toNat).any (wu (view h k Y O)))=false
     rw [List.any_eq_false]
     intro w hw
     show ¬ (!decide (wd h.Words w.toNat= 0) && !decide (wd h.Words w.toNat ∈ Y++O))=true
     rcases g.ref a a' w hw with e | e
     · rw [decide_eq_true e];simp
     · rw [decide_eq_true e];simp
   · obtain ⟨i,hi,hc,e⟩:=ah5 (by omega) af
     rw [e];exact g.b7 i hi hc
   · show ((decide (0 <i) && decide (wd h.al i<=wd h.al (i - 1))) || tL (view h k Y O) (wd h.al i))=false
     rw [(vC _).2 (g.nt _ (Fz hi)),Bool.or_false]
     by_cases bk:0 <i
     · have:=g.ya (i - 1) i (by omega) hi
       rw [decide_eq_false (p:=wd h.al i<=wd h.al (i - 1)) (by omega),Bool.and_false]
     · rw [decide_eq_false bk];rfl
   · show (!decide (a ∈ h.al) && (refs k h.Words a.toNat).any fun w=>qX (view h k Y O) (wd h.Words w.toNat))=false
     by_cases ad:a ∈ h.al
     · rw [decide_eq_true ad];rfl
     · rw [decide_eq_false ad,Bool.not_false,Bool.true_and,List.any_eq_false]
       intro w hw e
       have e:(decide (0 <wd h.Words w.toNat) && decide (wd h.Words w.toNat<=h.ai))=true:=e
       simp only [Bool.and_eq_true,decide_eq_true_eq] at e
       exact g.must a a' ad w hw e
theorem gi.apart {W:List Int} {to q:Nat} {L:List Int} (h:gi k W to q L):∀ a ∈ L,∀ b ∈ L,a≠b->a.toNat+ 3 +(wd W (a.toNat+ 1)).toNat<=b.toNat\/b.toNat+ 3 +(wd W (b.toNat+ 1)).toNat<=a.toNat:=by
 induction h with
 | nil=>intro a a';cases a'
 | cons aq aC bw hw cb=>
   intro a a' b aM eS
   rcases List.mem_cons.1 a' with rfl | a'
   · rcases List.mem_cons.1 aM with rfl | aM
     · exact absurd rfl eS
     · obtain ⟨n,rfl,dz,_⟩:=hw.mem b aM
       left;simp only [Int.toNat_natCast];exact dz
   · rcases List.mem_cons.1 aM with rfl | aM
     · obtain ⟨n,rfl,dz,_⟩:=hw.mem a a'
       right;simp only [Int.toNat_natCast];exact dz
     · exact cb a a' b aM eS
theorem hs.apart (aY:iw h) (ag:hs h k Y O):∀ a ∈ Y++O,∀ b ∈ Y++O,a≠b->a.toNat+ 3 +(wd h.Words (a.toNat+ 1)).toNat<=b.toNat\/b.toNat+ 3 +(wd h.Words (b.toNat+ 1)).toNat<=a.toNat:=by
 intro a a' b aM eS
 have hc:=aY.C.1.2
 rcases List.mem_append.1 a' with a' | a' <;> rcases List.mem_append.1 aM with aM | aM
 · exact ag.y.apart a a' b aM eS
 · have:=ag.CP aY a a';have:=ag.eA aY b aM;left;omega
 · have:=ag.eA aY a a';have:=ag.CP aY b aM;right;omega
 · exact ag.o.apart a a' b aM eS
theorem gi.congr {W W':List Int} {to q:Nat} {L:List Int} (h:gi k W to q L) (he:∀ a ∈ L,wd W' a.toNat=wd W a.toNat/\wd W' (a.toNat+ 1)=wd W (a.toNat+ 1)):gi k W' to q L:=by
 induction h with
 | nil=>exact .nil
 | @cons q r aq aC bw hw cb=>
   obtain ⟨bn,bI⟩:=he _ List.mem_cons_self
   simp only [Int.toNat_natCast] at bn bI
   have:=cb (fun a a'=>he a (List.mem_cons_of_mem _ a'))
   rw [<-bI] at this bw aC
   rw [<-bn] at aq aC
   exact .cons aq aC bw this
theorem gi.snoc {W W':List Int} {to q:Nat} {L:List Int} (h:gi k W to q L) (he:∀ a ∈ L,wd W' a.toNat=wd W a.toNat/\wd W' (a.toNat+ 1)=wd W (a.toNat+ 1)) (bt:gV k (wd W' to)=true) (ad:isLen k (wd W' to) (wd W' (to+ 1))=true) :
 gi k W' (to+ 3 +(wd W' (to+ 1)).toNat) q (L++[(to:Int)]):=by
 induction h with
 | nil=>exact .cons bt ad (Nat.le_refl _) .nil
 | @cons q r aq aC bw hw cb=>
   obtain ⟨bn,bI⟩:=he _ List.mem_cons_self
   simp only [Int.toNat_natCast] at bn bI
   have:=cb (fun a a'=>he a (List.mem_cons_of_mem _ a'))
   rw [<-bI] at this bw aC
   rw [<-bn] at aq aC
   exact .cons aq aC (by omega) this
theorem Sh {W W':List Int} {q:Nat} (aq:wd W' q=wd W q) (aC:wd W' (q+ 1)=wd W (q+ 1)):refs k W' q=refs k W q:=by unfold refs;rw [aq,aC]
end
end Cin
namespace Cin
section
variable {k:bb} {h:bd} {Y O:List Int}
theorem hs.fit (dn:iw h) (ag:hs h k Y O):∀ a ∈ Y++O,1 <=a/\a.toNat+ 3 +(wd h.Words (a.toNat+ 1)).toNat<=h.Words.length/\(a.toNat+ 3 +(wd h.Words (a.toNat+ 1)).toNat<=h.aB.toNat\/(h.ai+ 1 <=a/\a.toNat+ 3 +(wd h.Words (a.toNat+ 1)).toNat<=h.aA.toNat)):=by
 intro a a'
 have jg:(h.Words.length:Int)= 1 +h.ai+h.ak:=dn.B
 obtain ⟨⟨dL,dU⟩,⟨gj,ja⟩,_⟩:=dn.C
 obtain ⟨⟨di,_⟩,a3,_⟩:=dn.A
 rcases List.mem_append.1 a' with a' | a'
 · obtain ⟨aq,aC⟩:=ag.CP dn a a';exact ⟨aq,by omega,.inl aC⟩
 · obtain ⟨aq,aC⟩:=ag.eA dn a a';exact ⟨by omega,by omega,.inr ⟨aq,aC⟩⟩
theorem hs.ME (ag:hs h k Y O):∀ a ∈ Y++O,gV k (wd h.Words a.toNat)=true/\isLen k (wd h.Words a.toNat) (wd h.Words (a.toNat+ 1))=true:=by
 intro a a'
 rcases List.mem_append.1 a' with a' | a'
 · obtain ⟨n,rfl,_,_,bw⟩:=ag.y.mem a a';exact bw
 · obtain ⟨n,rfl,_,_,bw⟩:=ag.o.mem a a';exact bw
theorem nF.set (dn:iw h) (ag:hs h k Y O) (g:nF h k Y O) {a:Int} (a':a ∈ Y++O) {n:Nat} (ad:n <(wd h.Words (a.toNat+ 1)).toNat) {value:Int}
 (U:io k (wd h.Words a.toNat) n=true->value= 0 \/value ∈ Y++O) {nt:List Int} (aq:nJ nt) (aC:∀ x ∈ nt,x ∈ h.al\/(x=a/\a ∈ O/\io k (wd h.Words a.toNat) n=true)) (bw:∀ x ∈ h.al,x ∈ nt)
 (dz:io k (wd h.Words a.toNat) n=true->a ∈ O-> 0 <value->value<=h.ai->a ∈ nt) :
 iw (⟨h.Words.set (a.toNat+ 3 +n) value,h.ai,h.ak,h.aB,h.aA,nt,h.Next⟩:bd)/\hs (⟨h.Words.set (a.toNat+ 3 +n) value,h.ai,h.ak,h.aB,h.aA,nt,h.Next⟩:bd) k Y O /\
 nF (⟨h.Words.set (a.toNat+ 3 +n) value,h.ai,h.ak,h.aB,h.aA,nt,h.Next⟩:bd) k Y O:=by
 obtain ⟨f1,f2,f3⟩:=ag.fit dn a a'
 have bD:a.toNat+ 3 +n <h.Words.length:=by omega
 have hw:∀ j,wd (h.Words.set (a.toNat+ 3 +n) value) j=if j=a.toNat+ 3 +n then value else wd h.Words j:=fun j=>uh bD
 have head:∀ b ∈ Y++O,wd (h.Words.set (a.toNat+ 3 +n) value) b.toNat=wd h.Words b.toNat/\wd (h.Words.set (a.toNat+ 3 +n) value) (b.toNat+ 1)=wd h.Words (b.toNat+ 1)/\wd (h.Words.set (a.toNat+ 3 +n) value) (b.toNat+ 2)=wd h.Words (b.toNat+ 2):=by
  intro b aM
  rw [hw,hw,hw]
  by_cases e:b=a
  · subst e
    rw [if_neg (by omega),if_neg (by omega),if_neg (by omega)];exact ⟨rfl,rfl,rfl⟩
  · have:=ag.apart dn b aM a a' e
    rw [if_neg (by omega),if_neg (by omega),if_neg (by omega)];exact ⟨rfl,rfl,rfl⟩
 have jg:(h.Words.length:Int)= 1 +h.ai+h.ak:=dn.B
 obtain ⟨⟨dL,dU⟩,⟨gj,ja⟩,kU⟩:=id dn.C
 have bm:∀ b ∈ Y++O,refs k (h.Words.set (a.toNat+ 3 +n) value) b.toNat=refs k h.Words b.toNat:=fun b aM=>Sh (head b aM).1 (head b aM).2.1
 have D7:∀ b ∈ Y++O,aY (h.Words.set (a.toNat+ 3 +n) value) b=aY h.Words b:=fun b aM=>(head b aM).2.2
 have adA:(Y++O).map (aY (h.Words.set (a.toNat+ 3 +n) value))=(Y++O).map (aY h.Words):=List.map_congr_left D7
 have s0:∀ b ∈ Y++O,∀ w ∈ refs k h.Words b.toNat,w.toNat=a.toNat+ 3 +n->b=a/\io k (wd h.Words a.toNat) n=true:=by
  intro b aM w fc e
  obtain ⟨j,bf,acV,rfl⟩:=BL.1 fc
  simp only [Int.toNat_natCast] at e
  have DQ:b=a:=by
   by_cases DQ:b=a
   · exact DQ
   · have:=ag.apart dn b aM a a' DQ;omega
  subst DQ
  have:j=n:=by omega
  subst this
  exact ⟨rfl,acV⟩
 refine ⟨⟨dn.A,?_,dn.C⟩,⟨ag.y.congr fun b aM=>?_,ag.o.congr fun b aM=>?_⟩,⟨fun b aM=>?_,?_,fun b aM w fc=>?_,fun i hi hc=>?_,aq,fun x af=>?_,fun b aM Qu w fc=>?_⟩⟩
 · show ((h.Words.set (a.toNat+ 3 +n) value).length:Int)=_;rw [List.length_set];exact jg
 · obtain ⟨hn,oO,_⟩:=head b (List.mem_append_left _ aM);exact ⟨hn,oO⟩
 · obtain ⟨hn,oO,_⟩:=head b (List.mem_append_right _ aM);exact ⟨hn,oO⟩
 · show 1 <=aY (h.Words.set (a.toNat+ 3 +n) value) b/\aY (h.Words.set (a.toNat+ 3 +n) value) b <h.Next
   rw [D7 b aM];exact g.hash b aM
 · show ((Y++O).map (aY (h.Words.set (a.toNat+ 3 +n) value))).Nodup
   rw [adA];exact g.nodup
 · have fc:w ∈ refs k (h.Words.set (a.toNat+ 3 +n) value) b.toNat:=fc
   rw [bm b aM] at fc
   show wd (h.Words.set (a.toNat+ 3 +n) value) w.toNat= 0 \/wd (h.Words.set (a.toNat+ 3 +n) value) w.toNat ∈ Y++O
   rw [hw]
   by_cases e:w.toNat=a.toNat+ 3 +n
   · rw [if_pos e];exact U (s0 b aM w fc e).2
   · rw [if_neg e];exact g.ref b aM w fc
 · have hi:i <(h.Words.set (a.toNat+ 3 +n) value).length:=hi
   rw [List.length_set] at hi
   have hc:i= 0 \/(h.aB<=i/\(i:Int)<=h.ai)\/h.aA<=i:=hc
   show wd (h.Words.set (a.toNat+ 3 +n) value) i= 0
   rw [hw,if_neg (by omega)]
   exact g.b7 i hi hc
 · show x ∈ O/\refs k (h.Words.set (a.toNat+ 3 +n) value) x.toNat≠ []
   rcases aC x af with af | ⟨rfl,jQ,bf⟩
   · obtain ⟨hn,oO⟩:=g.nt x af
     rw [bm x (List.mem_append_right _ hn)];exact ⟨hn,oO⟩
   · refine ⟨jQ,?_⟩
     rw [bm x a']
     intro e
     have:((x.toNat+ 3 +n:Nat):Int) ∈ refs k h.Words x.toNat:=BL.2 ⟨n,ad,bf,rfl⟩
     rw [e] at this;cases this
 · have hN:b ∈ Y++O:=List.mem_append_right _ aM
   have fc:w ∈ refs k (h.Words.set (a.toNat+ 3 +n) value) b.toNat:=fc
   rw [bm b hN] at fc
   show ¬ (0 <wd (h.Words.set (a.toNat+ 3 +n) value) w.toNat/\wd (h.Words.set (a.toNat+ 3 +n) value) w.toNat<=h.ai)
   rw [hw]
   by_cases e:w.toNat=a.toNat+ 3 +n
   · rw [if_pos e]
     obtain ⟨rfl,bf⟩:=s0 b hN w fc e
     rintro ⟨yl,Gm⟩
     exact Qu (dz bf aM yl Gm)
   · rw [if_neg e]
     exact g.must b aM (fun hm=>Qu (bw b hm)) w fc
theorem RC (dn:iw h) (ag:hs h k Y O) (g:nF h k Y O) {t:Nat} {tag len:Int} (bk:0 <=len) (bt:1 <=t) (anv:t+ 3 +len.toNat<=h.Words.length)
 (xj:∀ b ∈ Y++O,b.toNat+ 3 +(wd h.Words (b.toNat+ 1)).toNat<=t\/t+ 3 +len.toNat<=b.toNat) (vr:∀ i,t<=i->i <t+ 3 +len.toNat->wd h.Words i= 0) {Y' O':List Int} (Qv:(Y'++O').Perm ((t:Int)::(Y++O))) (jQ:∀ x ∈ O,x ∈ O') (XL:∀ x ∈ O',x=(t:Int)\/x ∈ O)
 {yt ot:Int} (abE:∀ i:Nat,i <h.Words.length->(i= 0 \/(yt<=i/\(i:Int)<=h.ai)\/ot<=i)->(i= 0 \/(h.aB<=i/\(i:Int)<=h.ai)\/h.aA<=i)/\ ¬ (t<=i/\i<=t+ 2)) :
 (∀ b ∈ Y++O,wd (((h.Words.set t tag).set (t+ 1) len).set (t+ 2) h.Next) b.toNat=wd h.Words b.toNat/\wd (((h.Words.set t tag).set (t+ 1) len).set (t+ 2) h.Next) (b.toNat+ 1)=wd h.Words (b.toNat+ 1)) /\
 wd (((h.Words.set t tag).set (t+ 1) len).set (t+ 2) h.Next) t=tag/\wd (((h.Words.set t tag).set (t+ 1) len).set (t+ 2) h.Next) (t+ 1)=len/\(∀ j,j <len.toNat->wd (((h.Words.set t tag).set (t+ 1) len).set (t+ 2) h.Next) (t+ 3 +j)= 0) /\
 nF (⟨((h.Words.set t tag).set (t+ 1) len).set (t+ 2) h.Next,h.ai,h.ak,yt,ot,h.al,h.Next+ 1⟩:bd) k Y' O':=by
 have hw:∀ j,wd (((h.Words.set t tag).set (t+ 1) len).set (t+ 2) h.Next) j=if j=t+ 2 then h.Next else if j=t+ 1 then len else if j=t then tag else wd h.Words j:=fun j=>by
  rw [uh (by simp;omega),uh (by simp;omega),uh (by omega)]
 generalize jh:((h.Words.set t tag).set (t+ 1) len).set (t+ 2) h.Next=W' at hw
 have hlen:W'.length=h.Words.length:=by rw [<-jh];simp
 have gQ:wd W' t=tag:=by rw [hw,if_neg (by omega),if_neg (by omega),if_pos rfl]
 have bn:wd W' (t+ 1)=len:=by rw [hw,if_neg (by omega),if_pos rfl]
 have bI:wd W' (t+ 2)=h.Next:=by rw [hw,if_pos rfl]
 have df:∀ j,¬ (t<=j/\j<=t+ 2)->wd W' j=wd h.Words j:=fun j bf=>by rw [hw,if_neg (by omega),if_neg (by omega),if_neg (by omega)]
 have bG:∀ b ∈ Y++O,wd W' b.toNat=wd h.Words b.toNat/\wd W' (b.toNat+ 1)=wd h.Words (b.toNat+ 1)/\aY W' b=aY h.Words b:=fun b aM=>by
  have:=xj b aM
  unfold aY
  exact ⟨df _ (by omega),df _ (by omega),df _ (by omega)⟩
 have pu:∀ x,x ∈ Y'++O' ↔ x=(t:Int)\/x ∈ Y++O:=fun x=>by rw [Qv.mem_iff,List.mem_cons]
 have hzero:∀ j,j <len.toNat->wd W' (t+ 3 +j)= 0 :=fun j bf=>by rw [df _ (by omega)];exact vr _ (by omega) (by omega)
 have QD:∀ w ∈ refs k W' t,wd W' w.toNat= 0 :=fun w fc=>by
  obtain ⟨j,bf,_,rfl⟩:=BL.1 fc
  rw [bn] at bf
  exact hzero j bf
 have J8:∀ b ∈ Y++O,refs k W' b.toNat=refs k h.Words b.toNat:=fun b aM=>Sh (bG b aM).1 (bG b aM).2.1
 have QE:∀ b ∈ Y++O,∀ w ∈ refs k h.Words b.toNat,wd W' w.toNat=wd h.Words w.toNat:=fun b aM w fc=>by
  obtain ⟨j,bf,_,rfl⟩:=BL.1 fc
  have:=xj b aM
  exact df _ (by simp only [Int.toNat_natCast];omega)
 have kn:aY W' (t:Int)=h.Next:=bI
 refine ⟨fun b aM=>⟨(bG b aM).1,(bG b aM).2.1⟩,gQ,bn,hzero,⟨fun a a'=>?_,?_,fun a a' w fc=>?_,fun i hi hc=>?_,g.ya,fun x af=>?_,fun a a' ad w fc=>?_⟩⟩
 · show 1 <=aY W' a/\aY W' a <h.Next+ 1
   have u':=dn.C.2.2
   rcases (pu a).1 a' with rfl | a'
   · rw [kn];omega
   · rw [(bG a a').2.2];have:=g.hash a a';omega
 · show ((Y'++O').map (aY W')).Nodup
   rw [(Qv.map _).nodup_iff,List.map_cons,List.map_congr_left (fun b aM=>(bG b aM).2.2),List.nodup_cons]
   refine ⟨fun hm=>?_,g.nodup⟩
   rw [kn] at hm
   obtain ⟨b,aM,e⟩:=List.mem_map.1 hm
   have:=(g.hash b aM).2
   omega
 · show wd W' w.toNat= 0 \/wd W' w.toNat ∈ Y'++O'
   rcases (pu a).1 a' with rfl | a'
   · exact .inl (QD w fc)
   · have fc:w ∈ refs k W' a.toNat:=fc
     rw [J8 a a'] at fc
     rw [QE a a' w fc]
     rcases g.ref a a' w fc with e | e
     · exact .inl e
     · exact .inr ((pu _).2 (.inr e))
 · have hi:i <W'.length:=hi
   rw [hlen] at hi
   obtain ⟨hn,oO⟩:=abE i hi hc
   show wd W' i= 0
   rw [df i oO];exact g.b7 i hi hn
 · obtain ⟨hn,oO⟩:=g.nt x af
   show x ∈ O'/\refs k W' x.toNat≠ []
   rw [J8 x (List.mem_append_right _ hn)]
   exact ⟨jQ x hn,oO⟩
 · show ¬ (0 <wd W' w.toNat/\wd W' w.toNat<=h.ai)
   rcases XL a a' with rfl | a'
   · rw [QD w fc];omega
   · have fc:w ∈ refs k W' a.toNat:=fc
     rw [J8 a (List.mem_append_right _ a')] at fc
     rw [QE a (List.mem_append_right _ a') w fc]
     exact g.must a a' ad w fc
theorem ah3 (dn:iw h) (ag:hs h k Y O) (g:nF h k Y O) {tag len:Int} (bt:gV k tag=true) (ad:isLen k tag len=true) (m6:h.aB+(3 +len)<=h.ai+ 1) :
 iw (⟨((h.Words.set h.aB.toNat tag).set (h.aB.toNat+ 1) len).set (h.aB.toNat+ 2) h.Next,h.ai,h.ak,h.aB+(3 +len),h.aA,h.al,h.Next+ 1⟩:bd) /\
 hs (⟨((h.Words.set h.aB.toNat tag).set (h.aB.toNat+ 1) len).set (h.aB.toNat+ 2) h.Next,h.ai,h.ak,h.aB+(3 +len),h.aA,h.al,h.Next+ 1⟩:bd) k (Y++[h.aB]) O /\
 nF (⟨((h.Words.set h.aB.toNat tag).set (h.aB.toNat+ 1) len).set (h.aB.toNat+ 2) h.Next,h.ai,h.ak,h.aB+(3 +len),h.aA,h.al,h.Next+ 1⟩:bd) k (Y++[h.aB]) O /\
 wd (((h.Words.set h.aB.toNat tag).set (h.aB.toNat+ 1) len).set (h.aB.toNat+ 2) h.Next) (h.aB.toNat+ 1)=len/\(∀ j,j <len.toNat->wd (((h.Words.set h.aB.toNat tag).set (h.aB.toNat+ 1) len).set (h.aB.toNat+ 2) h.Next) (h.aB.toNat+ 3 +j)= 0):=by
 have jg:(h.Words.length:Int)= 1 +h.ai+h.ak:=dn.B
 obtain ⟨⟨dL,dU⟩,⟨gj,ja⟩,kU⟩:=id dn.C
 obtain ⟨⟨di,ec⟩,a3,a4⟩:=id dn.A
 obtain ⟨⟨q0,l1⟩,_⟩:=tt.1 ad
 have kY:((h.aB.toNat:Nat):Int)=h.aB:=by omega
 obtain ⟨lU,ni,lk,ow,rB⟩:=RC (t:=h.aB.toNat) (tag:=tag) (len:=len) (Y':=Y++[h.aB]) (O':=O) (yt:=h.aB+(3 +len)) (ot:=h.aA) dn ag g q0 (by omega) (by omega) (fun b aM=>by
  obtain ⟨_,_,aM⟩:=ag.fit dn b aM
  omega) (fun i aq aC=>g.b7 i (by omega) (.inr (.inl ⟨by omega,by omega⟩))) (by rw [kY,List.append_assoc,List.singleton_append];exact List.perm_middle) (fun x af=>af) (fun x af=>.inr af) (fun i hi hc=>by omega)
 refine ⟨⟨dn.A,?_,⟨⟨by show 1 <=h.aB+(3 +len);omega,m6⟩,⟨gj,ja⟩,by show 1 <=h.Next+ 1;omega⟩⟩,⟨?_,?_⟩,rB,lk,ow⟩
 · show ((((h.Words.set h.aB.toNat tag).set (h.aB.toNat+ 1) len).set (h.aB.toNat+ 2) h.Next).length:Int)=_
   simp only [List.length_set];exact jg
 · have:=ag.y.snoc (W':=((h.Words.set h.aB.toNat tag).set (h.aB.toNat+ 1) len).set (h.aB.toNat+ 2) h.Next) (fun a a'=>lU a (List.mem_append_left _ a')) (by rw [ni];exact bt) (by rw [ni,lk];exact ad)
   rw [lk,kY] at this
   show gi k _ (h.aB+(3 +len)).toNat 1 _
   rwa [show (h.aB+(3 +len)).toNat=h.aB.toNat+ 3 +len.toNat by omega]
 · exact ag.o.congr fun a a'=>lU a (List.mem_append_right _ a')
theorem ah2 (dn:iw h) (ag:hs h k Y O) (g:nF h k Y O) {tag len:Int} (bt:gV k tag=true) (ad:isLen k tag len=true) (m6:h.aA+(3 +len)<=h.ai+h.ak+ 1) :
 iw (⟨((h.Words.set h.aA.toNat tag).set (h.aA.toNat+ 1) len).set (h.aA.toNat+ 2) h.Next,h.ai,h.ak,h.aB,h.aA+(3 +len),h.al,h.Next+ 1⟩:bd) /\
 hs (⟨((h.Words.set h.aA.toNat tag).set (h.aA.toNat+ 1) len).set (h.aA.toNat+ 2) h.Next,h.ai,h.ak,h.aB,h.aA+(3 +len),h.al,h.Next+ 1⟩:bd) k Y (O++[h.aA]) /\
 nF (⟨((h.Words.set h.aA.toNat tag).set (h.aA.toNat+ 1) len).set (h.aA.toNat+ 2) h.Next,h.ai,h.ak,h.aB,h.aA+(3 +len),h.al,h.Next+ 1⟩:bd) k Y (O++[h.aA]) /\
 wd (((h.Words.set h.aA.toNat tag).set (h.aA.toNat+ 1) len).set (h.aA.toNat+ 2) h.Next) (h.aA.toNat+ 1)=len/\(∀ j,j <len.toNat->wd (((h.Words.set h.aA.toNat tag).set (h.aA.toNat+ 1) len).set (h.aA.toNat+ 2) h.Next) (h.aA.toNat+ 3 +j)= 0):=by
 have jg:(h.Words.length:Int)= 1 +h.ai+h.ak:=dn.B
 obtain ⟨⟨dL,dU⟩,⟨gj,ja⟩,kU⟩:=id dn.C
 obtain ⟨⟨di,ec⟩,a3,a4⟩:=id dn.A
 obtain ⟨⟨q0,l1⟩,_⟩:=tt.1 ad
 have kY:((h.aA.toNat:Nat):Int)=h.aA:=by omega
 obtain ⟨lU,ni,lk,ow,rB⟩:=RC (t:=h.aA.toNat) (tag:=tag) (len:=len) (Y':=Y) (O':=O++[h.aA]) (yt:=h.aB) (ot:=h.aA+(3 +len)) dn ag g q0 (by omega) (by omega) (fun b aM=>by
  obtain ⟨_,_,aM⟩:=ag.fit dn b aM
  omega) (fun i aq aC=>g.b7 i (by omega) (.inr (.inr (by omega)))) (by rw [kY,<-List.append_assoc];exact List.perm_append_comm) (fun x af=>List.mem_append_left _ af) (fun x af=>by
   rcases List.mem_append.1 af with af | af
   · exact .inr af
   · rw [List.mem_singleton] at af;exact .inl (by rw [af,kY])) (fun i hi hc=>by omega)
 refine ⟨⟨dn.A,?_,⟨⟨dL,dU⟩,⟨by show h.ai+ 1 <=h.aA+(3 +len);omega,by show h.aA+(3 +len)<=h.ai+h.ak+ 1;omega⟩,by show 1 <=h.Next+ 1;omega⟩⟩,⟨?_,?_⟩,rB,lk,ow⟩
 · show ((((h.Words.set h.aA.toNat tag).set (h.aA.toNat+ 1) len).set (h.aA.toNat+ 2) h.Next).length:Int)=_
   simp only [List.length_set];exact jg
 · exact ag.y.congr fun a a'=>lU a (List.mem_append_left _ a')
 · have:=ag.o.snoc (W':=((h.Words.set h.aA.toNat tag).set (h.aA.toNat+ 1) len).set (h.aA.toNat+ 2) h.Next) (fun a a'=>lU a (List.mem_append_right _ a')) (by rw [ni];exact bt) (by rw [ni,lk];exact ad)
   rw [lk,kY] at this
   show gi k _ (h.aA+(3 +len)).toNat _ _
   rwa [show (h.aA+(3 +len)).toNat=h.aA.toNat+ 3 +len.toNat by omega]
end
end Cin
namespace Cin
structure Good (F:Nat) (h:bd) (k:bb) (Y O:List Int):Prop where
 mr:oo F k=some 0
 oK:j' k
 s:iw h
 l:hs h k Y O
 ok:nF h k Y O
section
variable {F:Nat} {k:bb} {h:bd} {Y O:List Int}
theorem Good.EZ (g:Good F h k Y O):h.al.length<= 5000 :=by
 refine St (N:=5000) g.ok.ya (fun i hi=>?_)
 obtain ⟨aq,_⟩:=g.ok.nt _ (Fz hi)
 obtain ⟨f1,f2,_⟩:=g.l.fit g.s _ (List.mem_append_right Y aq)
 have:=g.s.nv
 omega
theorem Good.open (bu:10000 <F) (g:Good F h k Y O):kj F h k=some (some (view h k Y O),0):=by
 unfold kj
 have bn:oo F (⟨k.aK,k.aI,k.Fields,k.Names,k.aH⟩:bb)=some 0 :=g.mr
 have ad:=g.EZ
 obtain ⟨r,bI,g7⟩:=RP bu g.oK (h:=h) ⟨by omega,by omega⟩
 have bI:vq F (⟨h.Words,h.ai,h.ak,h.aB,h.aA,h.al,h.Next⟩:bd) (⟨k.aK,k.aI,k.Fields,k.Names,k.aH⟩:bb)=some r:=bI
 rw [bn,Option.bind_some,lH,bI,Option.bind_some]
 cases g7 with
 | size aY=>exact absurd g.s aY
 | form _ I=>exact absurd g.l (I Y O)
 | @rest Y' O' _ ag=>
   have VQ:=ag.y.SD g.l.y
   have Vw:=ag.o.SD g.l.o
   subst VQ Vw
   rw [(SI g.oK g.s g.l).2 g.ok];rfl
theorem aio (bu:10000 <F) (AW:∃ e,oo F k=some e/\(e≠ 0 \/(e= 0 /\j' k))) (ad:Small F h.al.length) :
 ∃ r,kj F h k=some r/\((r.2 ≠ 0 /\r.1 =none)\/ ∃ Y O,Good F h k Y O/\r=(some (view h k Y O),0)):=by
 obtain ⟨e,bn,he⟩:=AW
 unfold kj
 have Vr:oo F (⟨k.aK,k.aI,k.Fields,k.Names,k.aH⟩:bb)=some e:=bn
 rw [Vr,Option.bind_some]
 rcases he with he | ⟨rfl,aZ⟩
 · rw [mH he];exact ⟨_,rfl,.inl ⟨he,rfl⟩⟩
 obtain ⟨r,bI,g7⟩:=RP bu aZ ad
 have bI:vq F (⟨h.Words,h.ai,h.ak,h.aB,h.aA,h.al,h.Next⟩:bd) (⟨k.aK,k.aI,k.Fields,k.Names,k.aH⟩:bb)=some r:=bI
 rw [lH,bI,Option.bind_some]
 refine ⟨_,rfl,?_⟩
 cases g7 with
 | size aY=>exact .inl ⟨fun e=>aY (MA.1 e),rfl⟩
 | form _ I=>exact .inl ⟨by decide,rfl⟩
 | @rest Y' O' aY ag=>
   by_cases q:nu (view h k Y' O')= 0
   · exact .inr ⟨Y',O',⟨bn,aZ,aY,ag,(SI aZ aY ag).1 q⟩,by rw [q];rfl⟩
   · exact .inl ⟨q,by rw [if_neg q]⟩
theorem Good.cj (_:Good F h k Y O) (a:Int):s6 (view h k Y O) a=some (decide (a ∈ Y++O)):=by
 unfold s6
 show some ((cW ((Y++O).map fun a=>(a,true)) a).getD false)=_
 rw [Lj]
theorem MF (bu:10000 <F) (g:Good F h k Y O) (a:Int):m3 F h k a=some (some (view h k Y O),if a ∈ Y++O then 0 else 5):=by
 unfold m3
 have bn:kj F (⟨h.Words,h.ai,h.ak,h.aB,h.aA,h.al,h.Next⟩:bd) (⟨k.aK,k.aI,k.Fields,k.Names,k.aH⟩:bb)=_:=g.open bu
 rw [bn,Option.bind_some,show decide ((0 :Int)= 0)=true from rfl,cond_true,Option.bind_some]
 show (s6 (view h k Y O) a).bind _=_
 rw [g.cj,Option.bind_some]
 by_cases a':a ∈ Y++O
 · rw [decide_eq_true a',if_pos a'];rfl
 · rw [decide_eq_false a',if_neg a'];rfl
theorem aj8 {r:Option bU × Int} (e:kj F h k=some r) (bm:r.2 ≠ 0) (a:Int):m3 F h k a=some r:=by
 unfold m3
 have bn:kj F (⟨h.Words,h.ai,h.ak,h.aB,h.aA,h.al,h.Next⟩:bd) (⟨k.aK,k.aI,k.Fields,k.Names,k.aH⟩:bb)=_:=e
 rw [bn,Option.bind_some,decide_eq_false bm];rfl
theorem SS {r:Option bU × Int} {a:Int} (e:m3 F h k a=some r) (bm:r.2 ≠ 0) (n:Int):m4 F h k a n=some r:=by
 unfold m4
 have bn:m3 F (⟨h.Words,h.ai,h.ak,h.aB,h.aA,h.al,h.Next⟩:bd) (⟨k.aK,k.aI,k.Fields,k.Names,k.aH⟩:bb) a=_:=e
 rw [bn,Option.bind_some,decide_eq_false bm];rfl
def qW (h:bd) (a n:Int):Prop:=0 <=n/\n <wd h.Words (a.toNat+ 1)
instance (h:bd) (a n:Int):Decidable (qW h a n):=inferInstanceAs (Decidable (0 <=n/\n <wd h.Words (a.toNat+ 1)))
theorem Good.fit (g:Good F h k Y O) {a:Int} (a':a ∈ Y++O):1 <=a/\a.toNat+ 3 +(wd h.Words (a.toNat+ 1)).toNat<=h.Words.length/\h.Words.length<= 4001 /\ 0 <=wd h.Words (a.toNat+ 1)/\wd h.Words (a.toNat+ 1)<= 500 :=by
 obtain ⟨f1,f2,_⟩:=g.l.fit g.s a a'
 obtain ⟨t1,t2⟩:=g.l.ME a a'
 obtain ⟨⟨q0,l1⟩,_⟩:=tt.1 t2
 exact ⟨f1,f2,g.s.nv,q0,l1⟩
theorem MP (bu:10000 <F) (g:Good F h k Y O) {a:Int} (a':a ∈ Y++O) (n:Int):m4 F h k a n=some (some (view h k Y O),if qW h a n then 0 else 3):=by
 obtain ⟨f1,f2,f3,f4,f5⟩:=g.fit a'
 unfold m4
 have bn:m3 F (⟨h.Words,h.ai,h.ak,h.aB,h.aA,h.al,h.Next⟩:bd) (⟨k.aK,k.aI,k.Fields,k.Names,k.aH⟩:bb) a=_:=MF bu g a
 rw [bn,Option.bind_some,if_pos a',show decide ((0 :Int)= 0)=true from rfl,cond_true,dJ (n:=a+ 1) (by omega) (by omega),jT (i:=a.toNat+ 1) (by omega) (by omega),Option.bind_some,dJ (n:=wd h.Words (a.toNat+ 1) - 1) (by omega) (by omega)]
 unfold k8
 rw [Option.bind_some]
 by_cases bm:qW h a n
 · rw [if_pos bm]
   have aq:=bm.1;have aC:=bm.2
   rw [decide_eq_true aq,decide_eq_true (p:=n<=wd h.Words (a.toNat+ 1) - 1) (by omega)];rfl
 · rw [if_neg bm]
   have:(decide (0 <=n) && decide (n<=wd h.Words (a.toNat+ 1) - 1))=false:=by
    rw [Bool.eq_false_iff];intro e
    simp only [Bool.and_eq_true,decide_eq_true_eq] at e
    exact bm ⟨e.1,by omega⟩
   rw [this];rfl
theorem Wb (bu:10000 <F) (g:Good F h k Y O) {a n:Int} (a':a ∈ Y++O) (bm:qW h a n):s4 F h k a n=some (wd h.Words (a.toNat+ 3 +n.toNat),0):=by
 obtain ⟨f1,f2,f3,f4,f5⟩:=g.fit a'
 have aq:=bm.1;have aC:=bm.2
 unfold s4
 have bn:m4 F (⟨h.Words,h.ai,h.ak,h.aB,h.aA,h.al,h.Next⟩:bd) (⟨k.aK,k.aI,k.Fields,k.Names,k.aH⟩:bb) a n=_:=MP bu g a' n
 rw [bn,Option.bind_some,if_pos bm,lH,dJ (n:=a+ 3) (by omega) (by omega),dJ (n:=a+ 3 +n) (by omega) (by omega),jT (i:=a.toNat+ 3 +n.toNat) (by omega) (by omega)];rfl
theorem ajx (bu:10000 <F) (g:Good F h k Y O) {a:Int} (a':a ∈ Y++O):xo F h k a=some ((h.Words.take (a.toNat+ 3 +(wd h.Words (a.toNat+ 1)).toNat)).drop (a.toNat+ 3),0):=by
 obtain ⟨f1,f2,f3,f4,f5⟩:=g.fit a'
 unfold xo
 have bn:m3 F (⟨h.Words,h.ai,h.ak,h.aB,h.aA,h.al,h.Next⟩:bd) (⟨k.aK,k.aI,k.Fields,k.Names,k.aH⟩:bb) a=_:=MF bu g a
 rw [bn,Option.bind_some,if_pos a',lH,Option.bind_some]
 unfold D5
 show ((idx h.Words (ay (a+ 1))).bind _).bind _=_
 rw [dJ (n:=a+ 1) (by omega) (by omega),jT (i:=a.toNat+ 1) (by omega) (by omega),Option.bind_some,Option.bind_some,dJ (n:=3 +wd h.Words (a.toNat+ 1)) (by omega) (by omega),dJ (n:=a+ 3) (by omega) (by omega),dJ (n:=a+(3 +wd h.Words (a.toNat+ 1))) (by omega) (by omega)]
 unfold cut
 rw [if_pos ⟨by omega,by omega,by omega⟩,Option.bind_some,show (a+(3 +wd h.Words (a.toNat+ 1))).toNat=a.toNat+ 3 +(wd h.Words (a.toNat+ 1)).toNat by omega,show (a+ 3).toNat=a.toNat+ 3 by omega]
 unfold wj
 rw [js (by rw [List.length_drop,List.length_take];simp;omega)]
 rfl
theorem RQ (g:Good F h k Y O):pr h=some h:=by
 have aq:=g.EZ;have aC:=g.s.nv
 unfold pr wj
 rw [js (by simp;omega),Option.bind_some,js (by simp;omega)]
 rfl
theorem SQ {l:List Int} {p i:Nat} {t:Int} (bD:p<=l.length):wd (l.take p++t::l.drop p) i=if i <p then wd l i else if i=p then t else wd l (i - 1):=by
 have bt:(l.take p).length=p:=by rw [List.length_take];omega
 unfold wd
 by_cases aq:i <p
 · rw [if_pos aq,List.getElem?_append_left (by omega),List.getElem?_take,if_pos aq]
 · rw [if_neg aq,List.getElem?_append_right (by omega),bt]
   by_cases aC:i=p
   · subst aC;rw [if_pos rfl,Nat.sub_self];rfl
   · rw [if_neg aC,show i - p=(i - 1 - p)+ 1 by omega,List.getElem?_cons_succ,List.getElem?_drop,show p+(i - 1 - p)=i - 1 by omega]
theorem aj6 {l:List Int} {p:Nat} {t:Int} (aY:nJ l) (bD:p<=l.length) (aq:∀ a,a <p->wd l a <t) (aC:∀ a,p<=a->a <l.length->t<=wd l a) (ad: ¬ t ∈ l):nJ (l.take p++t::l.drop p):=by
 have bw:∀ a,p<=a->a <l.length->t <wd l a:=fun a a' aM=>by
  have:=aC a a' aM
  have:wd l a≠t:=fun e=>ad (e ▸ Fz aM)
  omega
 intro a b xi aM
 have aM:b <l.length+ 1 :=by simp at aM;omega
 rw [SQ bD,SQ bD]
 by_cases g4:a <p
 · rw [if_pos g4]
   by_cases hS:b <p
   · rw [if_pos hS];exact aY a b xi (by omega)
   · rw [if_neg hS]
     by_cases mI:b=p
     · rw [if_pos mI];exact aq a g4
     · rw [if_neg mI]
       have:=aq a g4;have:=bw (b - 1) (by omega) (by omega)
       omega
 · rw [if_neg g4,if_neg (show ¬ b <p by omega),if_neg (show ¬ b=p by omega)]
   by_cases mI:a=p
   · rw [if_pos mI];exact bw (b - 1) (by omega) (by omega)
   · rw [if_neg mI];exact aY (a - 1) (b - 1) (by omega) (by omega)
def note (l:List Int) (a:Int):List Int:=if a ∈ l then l else (l.filter fun x=>decide (x <a))++a::l.filter fun x=>!decide (x <a)
theorem PU {a:Int}:∀ {l:List Int} {p:Nat},p<=l.length->(∀ i,i <p->wd l i <a)->(∀ i,p<=i->i <l.length->a<=wd l i)->(l.filter fun x=>decide (x <a))=l.take p/\(l.filter fun x=>!decide (x <a))=l.drop p
 | [],p,_,_,_=>by simp
 | x::r,0,_,_,aC=>by
   have af:∀ y ∈ x::r,¬ y <a:=fun y hy=>by
    obtain ⟨i,hi,e⟩:=EC hy
    have:=aC i (by omega) hi
    omega
   constructor
   · rw [List.take_zero,List.filter_eq_nil_iff]
     intro y hy;simpa using af y hy
   · rw [List.drop_zero,List.filter_eq_self]
     intro y hy;simpa using af y hy
 | x::r,p+ 1,bD,aq,aC=>by
   have af:x <a:=aq 0 (by omega)
   obtain ⟨i1,i2⟩:=PU (a:=a) (l:=r) (p:=p) (by simpa using bD) (fun i hi=>aq (i+ 1) (by omega)) (fun i hi aM=>aC (i+ 1) (by omega) (by simpa using aM))
   rw [List.filter_cons_of_pos (by simpa using af),List.filter_cons_of_neg (by simpa using af),i1,i2]
   exact ⟨rfl,rfl⟩
theorem RM (bu:10000 <F) {l:List Int} (ag:l.length<= 5000) (aY:nJ l) (a:Int):nJ (note l a)/\(∀ x,x ∈ note l a ↔ x ∈ l\/x=a)/\ ∀ h:bd,h.al=l->xm F h a=some { h with al:=note l a }:=by
 obtain ⟨p,e,bD,aq,aC⟩:=Sp bu (by omega) aY a
 unfold note
 by_cases a':a ∈ l
 · rw [if_pos a']
   refine ⟨aY,fun x=>⟨.inl,?_⟩,fun h hf=>?_⟩
   · rintro (h | rfl) <;> assumption
   · subst hf
     unfold xm
     rw [e,Option.bind_some,decide_eq_true a'];rfl
 · rw [if_neg a']
   obtain ⟨i1,i2⟩:=PU bD aq aC
   refine ⟨?_,fun x=>?_,fun h hf=>?_⟩
   · rw [i1,i2];exact aj6 aY bD aq aC a'
   · rw [i1,i2,List.mem_append,List.mem_cons]
     have:=List.take_append_drop p l
     have af:x ∈ l ↔ x ∈ l.take p\/x ∈ l.drop p:=by rw [<-List.mem_append,this]
     rw [af]
     constructor
     · rintro (h | h | h)
       · exact .inl (.inl h)
       · exact .inr h
       · exact .inl (.inr h)
     · rintro ((h | h) | h)
       · exact .inl h
       · exact .inr (.inr h)
       · exact .inr (.inl h)
   · subst hf
     unfold xm
     rw [e,Option.bind_some,decide_eq_false a']
     simp only [Bool.not_false,cond_true]
     unfold Bu
     rw [if_pos ⟨by omega,by omega,by omega⟩,Option.bind_some,Int.toNat_natCast,i1,i2]
def notes (h:bd) (k:bb) (a n value:Int):List Int:=if io k (wd h.Words a.toNat) n.toNat=true/\h.ai <a/\ 0 <value/\value<=h.ai then note h.al a else h.al
theorem Wc (bu:10000 <F) (g:Good F h k Y O) {a n:Int} (a':a ∈ Y++O) (bm:qW h a n) (value:Int) :
 pq F h ⟨k⟩ a n value=some (⟨h.Words.set (a.toNat+ 3 +n.toNat) value,h.ai,h.ak,h.aB,h.aA,notes h k a n value,h.Next⟩:bd):=by
 obtain ⟨f1,f2,f3,f4,f5⟩:=g.fit a'
 obtain ⟨t1,t2⟩:=g.l.ME a a'
 have aq:=bm.1;have aC:=bm.2
 unfold pq
 rw [dJ (n:=a+ 3) (by omega) (by omega),dJ (n:=a+ 3 +n) (by omega) (by omega),jT (i:=a.toNat+ 3 +n.toNat) (by omega) (by omega),Option.bind_some,Option.bind_some,show (a+ 3 +n).toNat=a.toNat+ 3 +n.toNat by omega,
  jT (W:=h.Words.set (a.toNat+ 3 +n.toNat) value) (i:=a.toNat) (by omega) (by rw [List.length_set];omega),Option.bind_some,uh (by omega),if_neg (by omega)]
 have bn:m1 (⟨(⟨k.aK,k.aI,k.Fields,k.Names,k.aH⟩:bb)⟩:cd) (wd h.Words a.toNat) n=some (io k (wd h.Words a.toNat) n.toNat):=by
  have:=My g.oK t1 t2 (j:=n.toNat) (by omega)
  rwa [show ((n.toNat:Nat):Int)=n by omega] at this
 show (m1 (⟨(⟨k.aK,k.aI,k.Fields,k.Names,k.aH⟩:bb)⟩:cd) (wd h.Words a.toNat) n).bind _=_
 rw [bn,Option.bind_some]
 unfold notes
 by_cases hc:io k (wd h.Words a.toNat) n.toNat=true/\h.ai <a/\ 0 <value/\value<=h.ai
 · obtain ⟨g4,hS,mI,LR⟩:=id hc
   rw [if_pos hc,g4,decide_eq_true hS,decide_eq_true mI,decide_eq_true LR]
   have:=(RM bu g.EZ g.ok.ya a).2.2 (⟨h.Words.set (a.toNat+ 3 +n.toNat) value,h.ai,h.ak,h.aB,h.aA,h.al,h.Next⟩:bd) rfl
   simp only [Bool.and_self,cond_true]
   rw [this];rfl
 · rw [if_neg hc]
   have:(((io k (wd h.Words a.toNat) n.toNat && (decide (h.ai <a))) && (decide (0 <value))) && (decide (value<=h.ai)))=false:=by
    rw [Bool.eq_false_iff];intro e
    simp only [Bool.and_eq_true,decide_eq_true_eq] at e
    exact hc ⟨e.1.1.1,e.1.1.2,e.1.2,e.2⟩
   rw [this];rfl
theorem Wd (bu:10000 <F) (g:Good F h k Y O) {a n:Int} (a':a ∈ Y++O) (bm:qW h a n) {value:Int} (U:io k (wd h.Words a.toNat) n.toNat=true->value= 0 \/value ∈ Y++O) :
 Good F (⟨h.Words.set (a.toNat+ 3 +n.toNat) value,h.ai,h.ak,h.aB,h.aA,notes h k a n value,h.Next⟩:bd) k Y O:=by
 obtain ⟨f1,f2,f3,f4,f5⟩:=g.fit a'
 obtain ⟨gd,iW,_⟩:=RM bu g.EZ g.ok.ya a
 have aq:=bm.1;have aC:=bm.2
 have jQ:h.ai <a->a ∈ O:=fun hy=>by
  rcases List.mem_append.1 a' with h | h
  · obtain ⟨_,dz⟩:=g.l.CP g.s a h
    have:=g.s.C.1
    omega
  · exact h
 obtain ⟨h9,jC,jp⟩:=g.ok.set g.s g.l a' (n:=n.toNat) (by omega) (value:=value) U (nt:=notes h k a n value) (by unfold notes;split;exact gd;exact g.ok.ya) (fun x af=>by
  unfold notes at af
  split at af
  · rename_i hc
    rcases (iW x).1 af with e | e
    · exact .inl e
    · exact .inr ⟨e,jQ hc.2.1,hc.1⟩
  · exact .inl af) (fun x af=>by
  unfold notes
  split
  · exact (iW x).2 (.inl af)
  · exact af) (fun g4 hS mI LR=>by
  unfold notes
  have:=(g.l.eA g.s a hS).1
  rw [if_pos ⟨g4,by omega,mI,LR⟩]
  exact (iW a).2 (.inr rfl))
 exact ⟨g.mr,g.oK,h9,jC,jp⟩
theorem Mv {r:Option bU × Int} {a n:Int} (e:m4 F h k a n=some r) (bm:r.2 ≠ 0) (value:Int):n3 F h k a n value=some ((⟨[],0,0,0,0,[],0⟩:bd),r.2):=by
 unfold n3
 have bn:m4 F (⟨h.Words,h.ai,h.ak,h.aB,h.aA,h.al,h.Next⟩:bd) (⟨k.aK,k.aI,k.Fields,k.Names,k.aH⟩:bb) a n=_:=e
 rw [bn,Option.bind_some,decide_eq_false bm]
 rfl
theorem ajY (bu:10000 <F) (g:Good F h k Y O) {a n:Int} (a':a ∈ Y++O) (bm:qW h a n) (value:Int) :
 n3 F h k a n value=some (if io k (wd h.Words a.toNat) n.toNat=true/\value≠ 0 /\ ¬ value ∈ Y++O then ((⟨[],0,0,0,0,[],0⟩:bd),5) else ((⟨h.Words.set (a.toNat+ 3 +n.toNat) value,h.ai,h.ak,h.aB,h.aA,notes h k a n value,h.Next⟩:bd),0)):=by
 obtain ⟨f1,f2,f3,f4,f5⟩:=g.fit a'
 obtain ⟨t1,t2⟩:=g.l.ME a a'
 have aq:=bm.1;have aC:=bm.2
 unfold n3
 have bn:m4 F (⟨h.Words,h.ai,h.ak,h.aB,h.aA,h.al,h.Next⟩:bd) (⟨k.aK,k.aI,k.Fields,k.Names,k.aH⟩:bb) a n=_:=MP bu g a' n
 have bI:m1 (⟨(⟨k.aK,k.aI,k.Fields,k.Names,k.aH⟩:bb)⟩:cd) (wd h.Words a.toNat) n=some (io k (wd h.Words a.toNat) n.toNat):=by
  have:=My g.oK t1 t2 (j:=n.toNat) (by omega)
  rwa [show ((n.toNat:Nat):Int)=n by omega] at this
 have df:pr (⟨h.Words,h.ai,h.ak,h.aB,h.aA,h.al,h.Next⟩:bd)=some h:=RQ g
 have fu:pq F (⟨h.Words,h.ai,h.ak,h.aB,h.aA,h.al,h.Next⟩:bd) (⟨(⟨k.aK,k.aI,k.Fields,k.Names,k.aH⟩:bb)⟩:cd) a n value=_:=Wc bu g a' bm value
 rw [bn,Option.bind_some,if_pos bm]
 simp only [show decide ((0 :Int)= 0)=true from rfl,cond_true,Bool.not_true,cond_false]
 rw [jT (i:=a.toNat) (by omega) (by omega),Option.bind_some,Option.bind_some]
 show (m1 (⟨(⟨k.aK,k.aI,k.Fields,k.Names,k.aH⟩:bb)⟩:cd) (wd h.Words a.toNat) n).bind _=_
 rw [bI,Option.bind_some]
 by_cases aM:io k (wd h.Words a.toNat) n.toNat=true/\value≠ 0
 · obtain ⟨wW,su⟩:=aM
   rw [wW,decide_eq_false su]
   simp only [Bool.not_false,Bool.and_self,cond_true]
   show (s6 (view h k Y O) value).bind _=_
   rw [g.cj,Option.bind_some]
   by_cases U:value ∈ Y++O
   · rw [decide_eq_true U,if_neg (fun q=>q.2.2 U)]
     simp only [Bool.not_true,cond_false]
     rw [df,Option.bind_some]
     show (pq F (⟨h.Words,h.ai,h.ak,h.aB,h.aA,h.al,h.Next⟩:bd) (⟨(⟨k.aK,k.aI,k.Fields,k.Names,k.aH⟩:bb)⟩:cd) a n value).bind _=_
     rw [fu];rfl
   · rw [decide_eq_false U,if_pos ⟨trivial,su,U⟩];rfl
 · have:(io k (wd h.Words a.toNat) n.toNat && (!decide (value= 0)))=false:=by
    rw [Bool.eq_false_iff];intro e
    simp only [Bool.and_eq_true,Bool.not_eq_true',decide_eq_false_iff_not] at e
    exact aM e
   rw [this,if_neg (fun q=>aM ⟨q.1,q.2.1⟩),cond_false,df,Option.bind_some]
   show (pq F (⟨h.Words,h.ai,h.ak,h.aB,h.aA,h.al,h.Next⟩:bd) (⟨(⟨k.aK,k.aI,k.Fields,k.Names,k.aH⟩:bb)⟩:cd) a n value).bind _=_
   rw [fu];rfl
end
end Cin
namespace Cin
section
variable {F:Nat} {k:bb} {h:bd} {Y O:List Int}
theorem VV (g:Good F h k Y O) (tag len:Int):vp ⟨k⟩ tag len=some (if gV k tag=true then (if isLen k tag len=true then 0 else 3) else 7):=by
 unfold vp
 have bn:n4 (⟨(⟨k.aK,k.aI,k.Fields,k.Names,k.aH⟩:bb)⟩:cd) tag=some (gV k tag):=Mw g.oK tag
 show (n4 (⟨(⟨k.aK,k.aI,k.Fields,k.Names,k.aH⟩:bb)⟩:cd) tag).bind _=_
 rw [bn,Option.bind_some]
 cases bt:gV k tag with
 | false=>rfl
 | true=>
   have bI:n5 (⟨(⟨k.aK,k.aI,k.Fields,k.Names,k.aH⟩:bb)⟩:cd) tag len=some (isLen k tag len):=Mx g.oK bt len
   show (n5 (⟨(⟨k.aK,k.aI,k.Fields,k.Names,k.aH⟩:bb)⟩:cd) tag len).bind _=_
   rw [bI,Option.bind_some]
   cases isLen k tag len <;> rfl
def made (h:bd) (tag len:Int) (eA:Bool):bd:=
 if eA then ⟨((h.Words.set h.aA.toNat tag).set (h.aA.toNat+ 1) len).set (h.aA.toNat+ 2) h.Next,h.ai,h.ak,h.aB,h.aA+(3 +len),h.al,h.Next+ 1⟩
 else ⟨((h.Words.set h.aB.toNat tag).set (h.aB.toNat+ 1) len).set (h.aB.toNat+ 2) h.Next,h.ai,h.ak,h.aB+(3 +len),h.aA,h.al,h.Next+ 1⟩
def mO (h:bd) (eA:Bool):Int:=if eA then h.aA else h.aB
def w_ (h:bd) (eA:Bool):Int:=if eA then h.ai+h.ak+ 1 else h.ai+ 1
theorem aiB (g:Good F h k Y O) {tag len:Int} (ad:isLen k tag len=true) (af:h.Next<= 4611686018427387904) (eA:Bool) :
 xn h tag len eA=some (if w_ h eA <mO h eA+(3 +len) then (0,false,h) else (mO h eA,true,made h tag len eA)):=by
 have jg:(h.Words.length:Int)= 1 +h.ai+h.ak:=g.s.B
 obtain ⟨⟨dL,dU⟩,⟨gj,ja⟩,kU⟩:=id g.s.C
 obtain ⟨⟨di,ec⟩,a3,a4⟩:=id g.s.A
 obtain ⟨⟨q0,l1⟩,_⟩:=tt.1 ad
 unfold xn
 rw [dJ (n:=h.ai+h.ak) (by omega) (by omega),dJ (n:=h.ai+h.ak+ 1) (by omega) (by omega),dJ (n:=h.ai+h.ak+ 1 - h.aA) (by omega) (by omega),dJ (n:=3 +len) (by omega) (by omega),
  dJ (n:=h.ai+ 1) (by omega) (by omega),dJ (n:=h.ai+ 1 - h.aB) (by omega) (by omega),dJ (n:=h.aA+ 1) (by omega) (by omega),dJ (n:=h.aA+ 2) (by omega) (by omega),dJ (n:=h.aB+ 1) (by omega) (by omega),dJ (n:=h.aB+ 2) (by omega) (by omega),
  dJ (n:=h.aA+(3 +len)) (by omega) (by omega),dJ (n:=h.aB+(3 +len)) (by omega) (by omega),dJ (n:=h.Next+ 1) (by omega) (by omega)]
 unfold w_ mO made
 cases eA with
 | true=>
   simp only [cond_true,if_true]
   by_cases q:h.ai+h.ak+ 1 <h.aA+(3 +len)
   · rw [if_pos q,decide_eq_true (by omega)];rfl
   · rw [if_neg q,decide_eq_false (by omega),cond_false,jT (i:=h.aA.toNat) (by omega) (by omega),Option.bind_some,Option.bind_some,jT (i:=h.aA.toNat+ 1) (by omega) (by rw [List.length_set];omega),Option.bind_some,Option.bind_some,
      jT (i:=h.aA.toNat+ 2) (by omega) (by rw [List.length_set,List.length_set];omega),Option.bind_some,Option.bind_some,show (h.aA+ 1).toNat=h.aA.toNat+ 1 by omega,show (h.aA+ 2).toNat=h.aA.toNat+ 2 by omega]
 | false=>
   simp only [cond_false,Bool.false_eq_true,if_false]
   by_cases q:h.ai+ 1 <h.aB+(3 +len)
   · rw [if_pos q,decide_eq_true (by omega)];rfl
   · rw [if_neg q,decide_eq_false (by omega),cond_false,jT (i:=h.aB.toNat) (by omega) (by omega),Option.bind_some,Option.bind_some,jT (i:=h.aB.toNat+ 1) (by omega) (by rw [List.length_set];omega),Option.bind_some,Option.bind_some,
      jT (i:=h.aB.toNat+ 2) (by omega) (by rw [List.length_set,List.length_set];omega),Option.bind_some,Option.bind_some,show (h.aB+ 1).toNat=h.aB.toNat+ 1 by omega,show (h.aB+ 2).toNat=h.aB.toNat+ 2 by omega]
theorem ah0 {r:Option bU × Int} (e:kj F h k=some r) (bm:r.2 ≠ 0) (tag len:Int) (eA:Bool):n2 F h k tag len eA=some ((⟨[],0,0,0,0,[],0⟩:bd),0,r.2):=by
 unfold n2
 have bn:kj F (⟨h.Words,h.ai,h.ak,h.aB,h.aA,h.al,h.Next⟩:bd) (⟨k.aK,k.aI,k.Fields,k.Names,k.aH⟩:bb)=_:=e
 rw [bn,Option.bind_some,decide_eq_false bm,cond_false,Option.bind_some,mH bm]
theorem ah1 (bu:10000 <F) (g:Good F h k Y O) (af:h.Next<= 4611686018427387904) (tag len:Int) (eA:Bool) :
 n2 F h k tag len eA=some (if gV k tag=true then (if isLen k tag len=true then (if w_ h eA <mO h eA+(3 +len) then ((⟨[],0,0,0,0,[],0⟩:bd),0,8) else (made h tag len eA,mO h eA,0)) else ((⟨[],0,0,0,0,[],0⟩:bd),0,3)) else ((⟨[],0,0,0,0,[],0⟩:bd),0,7)):=by
 unfold n2
 have bn:kj F (⟨h.Words,h.ai,h.ak,h.aB,h.aA,h.al,h.Next⟩:bd) (⟨k.aK,k.aI,k.Fields,k.Names,k.aH⟩:bb)=_:=g.open bu
 have bI:vp (⟨(⟨k.aK,k.aI,k.Fields,k.Names,k.aH⟩:bb)⟩:cd) tag len=_:=VV g tag len
 rw [bn,Option.bind_some,show decide ((0 :Int)= 0)=true from rfl,cond_true,Option.bind_some]
 show (((vp (⟨(⟨k.aK,k.aI,k.Fields,k.Names,k.aH⟩:bb)⟩:cd) tag len).bind _).bind _)=_
 rw [bI,Option.bind_some,Option.bind_some]
 by_cases bt:gV k tag=true
 case neg=>rw [if_neg bt,if_neg bt];rfl
 by_cases ad:isLen k tag len=true
 case neg=>rw [if_pos bt,if_pos bt,if_neg ad,if_neg ad];rfl
 rw [if_pos bt,if_pos bt,if_pos ad,if_pos ad,lH]
 have df:pr (⟨h.Words,h.ai,h.ak,h.aB,h.aA,h.al,h.Next⟩:bd)=some h:=RQ g
 have fu:xn (⟨h.Words,h.ai,h.ak,h.aB,h.aA,h.al,h.Next⟩:bd) tag len eA=_:=aiB g ad af eA
 rw [df,Option.bind_some,fu,Option.bind_some]
 by_cases q:w_ h eA <mO h eA+(3 +len)
 · rw [if_pos q,if_pos q];rfl
 · rw [if_neg q,if_neg q]
   cases eA <;> rfl
theorem ahY (g:Good F h k Y O) {tag len:Int} (bt:gV k tag=true) (ad:isLen k tag len=true) (eA:Bool) (m6: ¬ w_ h eA <mO h eA+(3 +len)) :
 ∃ Y' O',Good F (made h tag len eA) k Y' O'/\mO h eA ∈ Y'++O'/\wd (made h tag len eA).Words ((mO h eA).toNat+ 1)=len/\(∀ j,j <len.toNat->wd (made h tag len eA).Words ((mO h eA).toNat+ 3 +j)= 0)/\(made h tag len eA).Next=h.Next+ 1 :=by
 cases eA with
 | true=>
   have m6: ¬ h.ai+h.ak+ 1 <h.aA+(3 +len):=m6
   obtain ⟨lU,ni,lk,ow,rB⟩:=ah2 g.s g.l g.ok bt ad (by omega)
   exact ⟨Y,O++[h.aA],⟨g.mr,g.oK,lU,ni,lk⟩,by simp [mO],ow,rB,rfl⟩
 | false=>
   have m6: ¬ h.ai+ 1 <h.aB+(3 +len):=m6
   obtain ⟨lU,ni,lk,ow,rB⟩:=ah3 g.s g.l g.ok bt ad (by omega)
   exact ⟨Y++[h.aB],O,⟨g.mr,g.oK,lU,ni,lk⟩,by simp [mO],ow,rB,rfl⟩
end
end Cin
namespace Cin
set_option maxRecDepth 100000 in
theorem abx (F:Nat):Dd (F+ 60)=some true:=by kernel_rfl
end Cin
namespace Cin
open Go Go.Proofs.Ytpkhpagplommoaa
theorem rO {n:Nat} (h:n<=reachBytes):Small 140737488356000 n:=by
 have:reachBytes= 140737488351232 :=rfl
 unfold Small
 omega
theorem mM {n:Nat} (k:Nat) (h:n*(k+ 1)<=reachBytes):Small 140737488356000 n:=
 rO (Nat.le_trans (Nat.le_mul_of_pos_right n (Nat.succ_pos k)) h)
theorem VS {m:Method} (h:Dg reachBytes m):m.Fits 140737488356000 :=
 ⟨rO h.1,mM 23 h.2.2.1.1,fun k aZ=>rO (h.2.2.1.2 k aZ).2,rO h.2.2.2.1.2,mM 39 h.2.2.2.2.2.2.2.1,fun x af=>rO (h.2.2.2.2.2.2.2.2 x af).2.2.2⟩
theorem VR {c:aG} (h:yP reachBytes c):c.Fits 140737488356000 :=
 ⟨rO h.1,rO h.2.1,mM 39 h.2.2.1.1,fun f I=>⟨rO (h.2.2.1.2 f I).1,rO (h.2.2.1.2 f I).2.2⟩,mM 127 h.2.2.2.1,fun m hm=>VS (h.2.2.2.2 m hm)⟩
theorem VT {l:List aG} (h:l.length* 80 <=reachBytes/\ ∀ x ∈ l,yP reachBytes x):Fits 140737488356000 l:=
 ⟨mM 79 h.1,fun c hc=>VR (h.2 c hc)⟩
theorem ahN {k:bb} (h:Df reachBytes k):Db 140737488356000 k:=
 ⟨mM 7 h.2.1.1,mM 23 h.2.2.1.1,fun x af=>mM 39 (h.2.2.1.2 x af).1,mM 23 h.2.2.2.1.1,fun x af=>mM 15 (h.2.2.2.1.2 x af).1,mM 23 h.2.2.2.2.1,fun x af=>mM 15 (h.2.2.2.2.2 x af).1⟩
end Cin
namespace Cin
theorem aj1 {k:bb} (jO:hq k.aK) (e:k=linked k.aK):j' k:=by
 have:=jO.right.len
 exact ⟨by omega,by rw [e];exact ajy⟩
theorem checked {k:bb} (aq:Go.Proofs.Ytpkhpagplommoaa.Df Go.reachBytes k):∃ e,oo 140737488356000 k=some e/\(e≠ 0 \/(e= 0 /\j' k)):=by
 obtain ⟨e,dL,_,gj⟩:=U3 (F:=140737488356000) (by omega) (VT aq.1) (ahN aq)
 refine ⟨e,dL,?_⟩
 rcases gj with rfl | ⟨rfl,jO,aZ⟩
 · exact .inl (by decide)
 · exact .inr ⟨rfl,aj1 jO aZ⟩
section
variable {F:Nat} {k:bb} {h:bd} {Y O:List Int}
theorem Ph (bu:10000 <F) (g:Good F h k Y O):qF F h k=some 0 :=by
 unfold qF
 have bn:kj F (⟨h.Words,h.ai,h.ak,h.aB,h.aA,h.al,h.Next⟩:bd) (⟨k.aK,k.aI,k.Fields,k.Names,k.aH⟩:bb)=_:=g.open bu
 rw [bn];rfl
theorem ajX (bu:10000 <F) (g:Good F h k Y O) (a n value:Int):∃ x,n3 F h k a n value=some x/\(x.2 ≠ 0 \/(x.2 = 0 /\Good F x.1 k Y O/\a ∈ Y++O/\qW x.1 a n/\wd x.1.Words (a.toNat+ 3 +n.toNat)=value/\x.1.Words.length=h.Words.length/\(∀ i,i≠a.toNat+ 3 +n.toNat->wd x.1.Words i=wd h.Words i)/\ 1 <=a/\ 0 <=n/\a+ 3 +n<= 4001)):=by
 by_cases a':a ∈ Y++O
 case neg=>
  have t:=MF bu g a
  rw [if_neg a'] at t
  exact ⟨_,Mv (SS t (show (5 :Int)≠ 0 by decide) n) (show (5 :Int)≠ 0 by decide) value,.inl (show (5 :Int)≠ 0 by decide)⟩
 by_cases bm:qW h a n
 case neg=>
  have t:=MP bu g a' n
  rw [if_neg bm] at t
  exact ⟨_,Mv t (show (3 :Int)≠ 0 by decide) value,.inl (show (3 :Int)≠ 0 by decide)⟩
 refine ⟨_,ajY bu g a' bm value,?_⟩
 by_cases aM:io k (wd h.Words a.toNat) n.toNat=true/\value≠ 0 /\ ¬ value ∈ Y++O
 · rw [if_pos aM];exact .inl (show (5 :Int)≠ 0 by decide)
 rw [if_neg aM]
 obtain ⟨f1,f2,f3,f4,f5⟩:=g.fit a'
 have aq:=bm.1;have aC:=bm.2
 refine .inr ⟨rfl,Wd bu g a' bm (fun q=>?_),a',?_,?_,?_,fun i hi=>?_,f1,aq,by omega⟩
 · by_cases e:value= 0
   · exact .inl e
   · by_cases bI:value ∈ Y++O
     · exact .inr bI
     · exact absurd ⟨q,e,bI⟩ aM
 · refine ⟨aq,?_⟩
   show n <wd (h.Words.set (a.toNat+ 3 +n.toNat) value) (a.toNat+ 1)
   rw [uh (by omega),if_neg (by omega)];exact aC
 · show wd (h.Words.set (a.toNat+ 3 +n.toNat) value) (a.toNat+ 3 +n.toNat)=value
   rw [uh (by omega),if_pos rfl]
 · show (h.Words.set (a.toNat+ 3 +n.toNat) value).length=_
   rw [List.length_set]
 · show wd (h.Words.set (a.toNat+ 3 +n.toNat) value) i=_
   rw [uh (by omega),if_neg hi]
theorem ahZ (bu:10000 <F) (g:Good F h k Y O) (af:h.Next<= 4611686018427387904) (tag len:Int) (eA:Bool):∃ y,n2 F h k tag len eA=some y/\((y.2.2 ≠ 0 /\y.2.1 = 0)\/(y.2.2 = 0 /\ ∃ Y' O',Good F y.1 k Y' O'/\y.2.1 ∈ Y'++O'/\wd y.1.Words (y.2.1.toNat+ 1)=len/\(∀ j,j <len.toNat->wd y.1.Words (y.2.1.toNat+ 3 +j)= 0)/\y.1.Next=h.Next+ 1)):=by
 refine ⟨_,ah1 bu g af tag len eA,?_⟩
 by_cases bt:gV k tag=true
 case neg=>rw [if_neg bt];exact .inl ⟨show (7 :Int)≠ 0 by decide,rfl⟩
 by_cases ad:isLen k tag len=true
 case neg=>rw [if_pos bt,if_neg ad];exact .inl ⟨show (3 :Int)≠ 0 by decide,rfl⟩
 rw [if_pos bt,if_pos ad]
 by_cases q:w_ h eA <mO h eA+(3 +len)
 · rw [if_pos q];exact .inl ⟨show (8 :Int)≠ 0 by decide,rfl⟩
 · rw [if_neg q]
   obtain ⟨Y',O',lU,ni,lk,ow,rB⟩:=ahY g bt ad eA q
   exact .inr ⟨rfl,Y',O',lU,ni,lk,ow,rB⟩
theorem ahb {x:bd × Int} {w:qj} (bu:10000 <F) (hw:h.Words.length<= 4001) (ag:x.1.Words.length=h.Words.length) (aq:1 <=w.db) (aC:0 <=w.N) (bw:w.db+ 3 +w.N<= 4001)
 (he:∀ i,i≠w.db.toNat+ 3 +w.N.toNat->wd x.1.Words i=wd h.Words i):nE h w x F 0 =some (.go ()):=by
 have l1:=kd (L:=nE h w x) (fun _=>(none:Option Bool)) (n:=h.Words.length) (by omega) (fun f i hi=>by
  rw [nE,cL hi,cond_true,dJ (n:=w.db+ 3) (by omega) (by omega),dJ (n:=w.db+ 3 +w.N) (by omega) (by omega)]
  by_cases e:(i:Int)=w.db+ 3 +w.N
  · rw [decide_eq_true e];rfl
  · rw [decide_eq_false e,Bool.not_false,cond_true,oc hi,Option.bind_some,oc (by omega),Option.bind_some,he i (by omega),decide_eq_true rfl];rfl) (fun f=>by rw [nE,cK];rfl) (F:=F) (by omega)
 rw [l1,z8];rfl
theorem ahc {x:List Int × Int} {w:qj} (bu:10000 <F) (hw:w.Length<= 4001) (ag:(x.1.length:Int)=w.Length) (he:∀ i,i <x.1.length->wd x.1 i= 0):p7 w x F 0 =some (.go ()):=by
 have l1:=kd (L:=p7 w x) (fun _=>(none:Option Bool)) (n:=x.1.length) (by omega) (fun f i hi=>by
  rw [p7,show decide ((i:Int) <w.Length)=true from decide_eq_true (by omega),cond_true,oc hi,Option.bind_some,he i hi];rfl) (fun f=>by
  rw [p7,ag,show decide (w.Length <w.Length)=false from decide_eq_false (by omega)];rfl) (F:=F) (by omega)
 rw [l1,z8];rfl
end
theorem aiy (h:bd) (bk:Go.Proofs.Ytpkhpagplommoaa.NU Go.reachBytes h) (k:bb) (aq:Go.Proofs.Ytpkhpagplommoaa.Df Go.reachBytes k) (w:qj) (_:Go.Proofs.Ytpkhpagplommoaa.NV Go.reachBytes w):∃ F,Dc F h k w=some true:=by
 refine ⟨140737488355940 + 60,?_⟩
 have bu:10000 < 140737488355940 + 60 :=by omega
 have AW:=checked aq
 have ad:Small (140737488355940 + 60) h.al.length:=mM 7 bk.2.2.2.2.2.1.1
 unfold Dc
 rw [abx,Option.bind_some,Bool.not_true,cond_false]
 by_cases af:4611686018427387904 <h.Next
 · rw [decide_eq_true af];rfl
 rw [decide_eq_false af,cond_false]
 generalize P7:(140737488355940 + 60 :Nat)=F at bu ad
 have AW:∃ e,oo F k=some e/\(e≠ 0 \/(e= 0 /\j' k)):=by rw [<-P7];exact AW
 clear P7
 obtain ⟨r,bn,bm⟩:=aio bu AW ad
 rcases bm with ⟨bm,_⟩ | ⟨Y,O,g,_⟩
 · have s1:n3 F (⟨h.Words,h.ai,h.ak,h.aB,h.aA,h.al,h.Next⟩:bd) (⟨k.aK,k.aI,k.Fields,k.Names,k.aH⟩:bb) w.db w.N w.Value=_:=Mv (SS (aj8 bn bm w.db) bm w.N) bm w.Value
   have s2:n2 F (⟨h.Words,h.ai,h.ak,h.aB,h.aA,h.al,h.Next⟩:bd) (⟨k.aK,k.aI,k.Fields,k.Names,k.aH⟩:bb) w.Tag w.Length w.ak=_:=ah0 bn bm w.Tag w.Length w.ak
   rw [s1,Option.bind_some,decide_eq_false bm,cond_false,oJ,s2,Option.bind_some,mH bm];rfl
 obtain ⟨x,s1,Bm⟩:=ajX bu g w.db w.N w.Value
 obtain ⟨y,s2,hy⟩:=ahZ bu g (by omega) w.Tag w.Length w.ak
 have s1:n3 F (⟨h.Words,h.ai,h.ak,h.aB,h.aA,h.al,h.Next⟩:bd) (⟨k.aK,k.aI,k.Fields,k.Names,k.aH⟩:bb) w.db w.N w.Value=_:=s1
 have s2:n2 F (⟨h.Words,h.ai,h.ak,h.aB,h.aA,h.al,h.Next⟩:bd) (⟨k.aK,k.aI,k.Fields,k.Names,k.aH⟩:bb) w.Tag w.Length w.ak=_:=s2
 have Ek:=g.s.nv
 rw [s1,Option.bind_some]
 have vH:∀ K:Unit->Option Bool,dp (α:=Unit) (cond (decide (x.2 = 0)) ((s4 F (⟨x.1.Words,x.1.ai,x.1.ak,x.1.aB,x.1.aA,x.1.al,x.1.Next⟩:bd) (⟨k.aK,k.aI,k.Fields,k.Names,k.aH⟩:bb) w.db w.N).bind fun nr=>
 cond ((!decide (nr.2 = 0)) || (!decide (nr.1 =w.Value))) (some (.out false)) ((qF F (⟨x.1.Words,x.1.ai,x.1.ak,x.1.aB,x.1.aA,x.1.al,x.1.Next⟩:bd) (⟨k.aK,k.aI,k.Fields,k.Names,k.aH⟩:bb)).bind fun B0=>
 cond ((!decide (B0= 0)) || (!decide ((x.1.Words.length:Int)=(h.Words.length:Int)))) (some (.out false)) (dG (α:=Unit) (nE h w x F 0) fun (_:Unit)=>
 some (.go ())))) (some (.go ()))) K=K ():=by
  intro K
  rcases Bm with Bm | ⟨Bm,h1,a',bm,U,ag,he,wW,su,zu⟩
  · rw [decide_eq_false Bm];rfl
  · have bI:s4 F (⟨x.1.Words,x.1.ai,x.1.ak,x.1.aB,x.1.aA,x.1.al,x.1.Next⟩:bd) (⟨k.aK,k.aI,k.Fields,k.Names,k.aH⟩:bb) w.db w.N=_:=Wb bu h1 a' bm
    have df:qF F (⟨x.1.Words,x.1.ai,x.1.ak,x.1.aB,x.1.aA,x.1.al,x.1.Next⟩:bd) (⟨k.aK,k.aI,k.Fields,k.Names,k.aH⟩:bb)=_:=Ph bu h1
    rw [Bm,show decide ((0 :Int)= 0)=true from rfl,cond_true,bI,Option.bind_some,U,decide_eq_true (p:=w.Value=w.Value) rfl,show decide ((0 :Int)= 0)=true from rfl,df]
    simp only [Bool.not_true,Bool.or_self,cond_false,Option.bind_some]
    rw [ag,decide_eq_true (p:=(h.Words.length:Int)=(h.Words.length:Int)) rfl,decide_true,ahb bu Ek ag wW su zu he]
    rfl
 rw [vH,s2,Option.bind_some]
 rcases hy with ⟨hy,agv⟩ | ⟨hy,Y',O',z_,lU,ni,lk,ow⟩
 · rw [mH hy,agv];rfl
 rw [hy,lH]
 obtain ⟨f1,f2,f3,f4,f5⟩:=z_.fit lU
 have bI:xo F (⟨y.1.Words,y.1.ai,y.1.ak,y.1.aB,y.1.aA,y.1.al,y.1.Next⟩:bd) (⟨k.aK,k.aI,k.Fields,k.Names,k.aH⟩:bb) y.2.1 =_:=ajx bu z_ lU
 have df:qF F (⟨y.1.Words,y.1.ai,y.1.ak,y.1.aB,y.1.aA,y.1.al,y.1.Next⟩:bd) (⟨k.aK,k.aI,k.Fields,k.Names,k.aH⟩:bb)=_:=Ph bu z_
 rw [bI,Option.bind_some,df]
 have hlen:((y.1.Words.take (y.2.1.toNat+ 3 +(wd y.1.Words (y.2.1.toNat+ 1)).toNat)).drop (y.2.1.toNat+ 3)).length=(wd y.1.Words (y.2.1.toNat+ 1)).toNat:=by
  rw [List.length_drop,List.length_take];omega
 have Qt:(((y.1.Words.take (y.2.1.toNat+ 3 +(wd y.1.Words (y.2.1.toNat+ 1)).toNat)).drop (y.2.1.toNat+ 3)).length:Int)=w.Length:=by omega
 have cT:∀ i,i <((y.1.Words.take (y.2.1.toNat+ 3 +(wd y.1.Words (y.2.1.toNat+ 1)).toNat)).drop (y.2.1.toNat+ 3)).length->wd ((y.1.Words.take (y.2.1.toNat+ 3 +(wd y.1.Words (y.2.1.toNat+ 1)).toNat)).drop (y.2.1.toNat+ 3)) i= 0 :=fun i hi=>by
  rw [hlen] at hi
  have:=lk i (by omega)
  unfold wd at this ⊢
  rw [List.getElem?_drop,List.getElem?_take,if_pos (by unfold wd at hi;omega)]
  exact this
 have gy:=ahc (x:=((y.1.Words.take (y.2.1.toNat+ 3 +(wd y.1.Words (y.2.1.toNat+ 1)).toNat)).drop (y.2.1.toNat+ 3),0)) (w:=w) bu (by omega) Qt cT
 have anA:1 <=h.Next:=g.s.C.2.2
 rw [decide_eq_true Qt,show decide ((0 :Int)= 0)=true from rfl,ow,dJ (n:=h.Next+ 1) (by omega) (by omega),decide_eq_true (p:=h.Next+ 1 =h.Next+ 1) rfl]
 simp only [Bool.not_true,Bool.or_self,cond_false,Option.bind_some]
 rw [decide_true,gy]
 rfl
end Cin
namespace Go.Proofs.Ytpkhpagplommoaa.heapKeeps
open Go Go.ChangeShapes Go.WideShapes Go.ChangeAt Go.RowKit
theorem own:ownKnob Try.prog.godebug=none:=by kernel_rfl
set_option maxRecDepth 100000 in
theorem U8 (H:Type) (enc:TypeId × Value->H) (W:World) (base:Nat) (args:Array Value) (ds gs:List (DataW H)) (before:List MemPlace)
 (tf:∀ (j:Nat) t v,Try.f4.params[j]? =some t->args[j]? =some v->Value.okWide Try.prog W .any base t v)
 (jh:DataW.Whole enc Try.prog Try.f4.params.toList Rows.heapKeepsSpec.vars false W args.toList ds gs before) (afe:∀ n ∈ DataW.weightsEach Try.prog Try.f4.params.toList ds,n<=reachBytes) :
 Calls Try.prog 4 args W fun e W'=>∃ v,e= .returned v/\Rows.heapKeepsSpec.post enc Try.prog Try.f4 false true false false W args v W':=by
 have XO:=jh
 have dO:=jh.lt
 obtain ⟨p,q,Wj,xh,xB,Iv,JK⟩:=jh
 have hx:DataW.TrodAll enc Try.prog W 0 (fun _=>true) true Try.f4.params.toList args.toList ds p:=Wj
 have jS:=afe
 rw [Try.params4] at hx tf jS
 obtain ⟨v0,anM,d0,am_,gY,anJ,H4,rfl,rfl,bk,akf⟩:=trodAll_cons hx
 obtain ⟨v1,anN,d1,am',gd,g4,rfl,rfl,rfl,aq,akg⟩:=trodAll_cons akf
 obtain ⟨v2,anO,d2,ana,iW,hS,rfl,rfl,rfl,aC,akh⟩:=trodAll_cons akg
 obtain ⟨rfl,rfl,rfl⟩:=trodAll_nil akh
 obtain rfl:args= #[v0,v1,v2]:=by cases args;simp_all
 obtain ⟨rfl,rfl⟩:=trodVars_none xh
 have ajC:=ajf (enc:=enc) (N:=reachBytes)
 have ajz:=Gg.G5 ajC bk (fun x af=>dO x (by subst xB;simp [af]))
 have ajF:=ajz (fun m hm=>jS m (by simp only [DataW.weightsEach,List.mem_append];simp [hm]))
 obtain ⟨d0,iy,jj⟩:=ajF
 obtain ⟨v0,rfl,_⟩:=okWide_struct Try.underlying24 (tf 0 24 v0 rfl rfl)
 obtain ⟨amH,amV,amI,amW,gQ,aiD,aiE⟩:=iy
 obtain rfl:=Gg.G3 gQ
 have ajD:=ajg (enc:=enc) (N:=reachBytes)
 have ajA:=Gg.G5 ajD aq (fun x af=>dO x (by subst xB;simp [af]))
 have ajG:=ajA (fun m hm=>jS m (by simp only [DataW.weightsEach,List.mem_append];simp [hm]))
 obtain ⟨d1,h9,hP⟩:=ajG
 obtain ⟨v1,rfl,_⟩:=okWide_struct Try.underlying36 (tf 1 36 v1 rfl rfl)
 obtain ⟨amL,amZ,amM,am0,amN,am1,amO,am2,amP,am3,bn,aiF,aiG,aiH,aiI,aiJ⟩:=h9
 obtain rfl:=Gg.G3 bn
 have ajE:=ajj (enc:=enc) (N:=reachBytes)
 have ajB:=Gg.G5 ajE aC (fun x af=>dO x (by subst xB;simp [af]))
 have ajH:=ajB (fun m hm=>jS m (by simp only [DataW.weightsEach,List.mem_append];simp [hm]))
 obtain ⟨d2,jC,jk⟩:=ajH
 obtain ⟨v2,rfl,_⟩:=okWide_struct Try.underlying38 (tf 2 38 v2 rfl rfl)
 have bI:=jC
 obtain rfl:=Gg.G3 bI
 obtain ⟨F,bu⟩:=Cin.aiy d0 jj d1 hP d2 jk
 refine (Ub (X:=[]) (W:=W) ⟨Gg.aX.refl _ _,fun _ aZ=>absurd aZ (List.not_mem_nil),fun _ aZ=>absurd aZ (List.not_mem_nil),fun _ af=>absurd af (List.not_mem_nil),List.nodup_nil,fun y hy=>by (simp only [List.mem_cons,List.not_mem_nil,or_false] at hy;rcases hy with rfl | rfl | rfl | rfl | rfl | rfl | rfl <;> first | exact aiD | exact aiE | exact aiF | exact aiG | exact aiH | exact aiI | exact aiJ)⟩ bu).mono fun e W' ⟨he,U⟩=>?_
 exact ⟨_,he,Gg.aiA XO (by kernel_rfl) (by kernel_rfl) rfl rfl Try.underlying4 rfl U.ev⟩
theorem ahH (os:Os):laidMet Try.prog Rows.heapKeepsRow.laid ((World.holding Try.prog os ⟨#[],#[],[]⟩).forCall (fun _ _=>0) ⟨#[],#[.agg #[.slice none 0 0,.int .i64 0,.int .i64 0,.int .i64 0,.int .i64 0,.slice none 0 0,.int .i64 0],.agg #[.slice none 0 0,.slice none 0 0,.slice none 0 0,.slice none 0 0,.slice none 0 0],.agg #[.int .i64 0,.int .i64 0,.int .i64 0,.int .i64 0,.int .i64 0,.bool false]],[]⟩).memory:=
 laidMet_of_run' 8 (by kernel_rfl) (by kernel_rfl)
theorem reads (os:Os) {H:Type} (enc:TypeId × Value->H):∃ places,DataW.whole enc Try.prog ((World.holding Try.prog os ⟨#[],#[],[]⟩).forCall (fun _ _=>0) ⟨#[],#[.agg #[.slice none 0 0,.int .i64 0,.int .i64 0,.int .i64 0,.int .i64 0,.slice none 0 0,.int .i64 0],.agg #[.slice none 0 0,.slice none 0 0,.slice none 0 0,.slice none 0 0,.slice none 0 0],.agg #[.int .i64 0,.int .i64 0,.int .i64 0,.int .i64 0,.int .i64 0,.bool false]],[]⟩).memory Try.f4.params.toList Rows.heapKeepsSpec.vars false (#[.agg #[.slice none 0 0,.int .i64 0,.int .i64 0,.int .i64 0,.int .i64 0,.slice none 0 0,.int .i64 0],.agg #[.slice none 0 0,.slice none 0 0,.slice none 0 0,.slice none 0 0,.slice none 0 0],.agg #[.int .i64 0,.int .i64 0,.int .i64 0,.int .i64 0,.int .i64 0,.bool false]]:Array Value).toList 8 =some ([.agg [.nil,.lit (.int .i64 0),.lit (.int .i64 0),.lit (.int .i64 0),.lit (.int .i64 0),.nil,.lit (.int .i64 0)],.agg [.nil,.nil,.nil,.nil,.nil],.agg [.lit (.int .i64 0),.lit (.int .i64 0),.lit (.int .i64 0),.lit (.int .i64 0),.lit (.int .i64 0),.lit (.bool false)]],[],places):=
 ⟨[],by kernel_rfl⟩
set_option maxRecDepth 100000 in
theorem lifted (os:Os) (started:os.Started) (H:Type) (enc:TypeId × Value->H) (F:Stop.Interp) :
 ReturnsInHanded {} Try.checked os 4 .any ((OpenSpec.ofChange Rows.heapKeepsSpec).preRow enc Try.prog Try.f4 Rows.heapKeepsRow.domain false Rows.heapKeepsRow.laid) (((OpenSpec.ofChange Rows.heapKeepsSpec).at F).post enc Try.prog Try.f4 false true false false):=by
 obtain ⟨places,af⟩:=reads os enc
 refine returnsInHanded_of_row (C:=Try.checked) (s:=OpenSpec.ofChange Rows.heapKeepsSpec) own started (by kernel_rfl) Try.func4
  (witness_row_at (enc:=enc) (C:=Try.checked) false (World.holding Try.prog os ⟨#[],#[],[]⟩) #[.agg #[.slice none 0 0,.int .i64 0,.int .i64 0,.int .i64 0,.int .i64 0,.slice none 0 0,.int .i64 0],.agg #[.slice none 0 0,.slice none 0 0,.slice none 0 0,.slice none 0 0,.slice none 0 0],.agg #[.int .i64 0,.int .i64 0,.int .i64 0,.int .i64 0,.int .i64 0,.bool false]] rfl (by kernel_rfl) (by kernel_rfl) (by kernel_rfl)
   (OpenSpec.preRow_of_cond 8 af (by kernel_rfl) (fun k aZ=>by cases aZ) (by kernel_rfl) (ahH os))) ?_
 intro W base args ds gs before tf jh _ ant afo _ _ _
 exact U8 H enc W base args ds gs before tf jh (fun n ad=>by obtain ⟨_,_,_,xh,_,_,_⟩:=jh;obtain ⟨rfl,_⟩:=trodVars_none xh;have QH:(DataW.weightsEach Try.prog (Try.f4.params.toList++[]) (ds++[])).all (· <=reachBytes)=true:=afo;rw [List.append_nil,List.append_nil] at QH;exact of_decide_eq_true (List.all_eq_true.1 QH n ad))
theorem said:Rows.HeapKeepsSaid:=
 OpenClaim.holds_of_cond 4 Try.f4 rfl rfl rfl rfl rfl rfl rfl ⟨rfl,rfl,rfl,rfl,rfl⟩ rfl rfl rfl rfl rfl (by kernel_rfl) Try.func4 (by kernel_rfl)
  (of_decide_eq_true (by kernel_rfl)) (by unfold Func.isWrapper;first | (rw [if_pos (by decide +kernel)];kernel_rfl) | (rw [if_neg (by decide +kernel)];exact ⟨rfl,rfl⟩))
  (fun os started H enc _ F=>by rw [OpenClaim.pre_eq_preRow];exact lifted os started H enc F)
end Go.Proofs.Ytpkhpagplommoaa.heapKeeps
