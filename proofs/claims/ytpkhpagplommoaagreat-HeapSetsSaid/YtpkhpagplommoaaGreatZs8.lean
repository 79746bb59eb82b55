/- LAW: THE WALK AND THE PLAIN LAW, JOINED TO THE GIVEN STATEMENT: for every input that the row speaks of, the call returns true and what came in reads as it did. Made by program (liftgen2.py). -/
import Derived.Test.YtpkhpagplommoaaGreatZs7
import Derived.KernelRfl
import Derived.Test.YtpkhpagplommoaaGreatRows
import Derived.WalkKit
import Derived.ProofKit
import Derived.OpenShut
import Derived.Deep.DeepHandedRow
namespace J
def refs (k:bt) (W:List Int) (q:Nat):List Int:=(List.range (wd W (q+ 1)).toNat).flatMap fun j=>if hd k (wd W q) j then [((q+ 3 +j:Nat):Int)] else []
theorem Xr {k:bt} {W:List Int} {q:Nat} {x:Int}:x ∈ refs k W q ↔ ∃ j,j <(wd W (q+ 1)).toNat/\hd k (wd W q) j=true/\x=((q+ 3 +j:Nat):Int):=by
 unfold refs
 rw [List.mem_flatMap]
 constructor
 · rintro ⟨j,bb,aj⟩
   split at aj
   · rename_i h;exact ⟨j,by simpa using bb,h,by simpa using aj⟩
   · cases aj
 · rintro ⟨j,bb,h,e⟩
   exact ⟨j,by simpa using bb,by rw [if_pos h,e];simp⟩
section
variable {F:Nat} {k:bt}
theorem aHw (bW:6000 <F) (v:cl) (a6:h2 v.S.K) {q:Nat} (ea:q+ 3 +(wd v.H.Words (q+ 1)).toNat<=v.H.Words.length) (jz:v.H.Words.length<= 5000) (bP:iw v.S.K (wd v.H.Words q)=true) (az:isLen v.S.K (wd v.H.Words q) (wd v.H.Words (q+ 1))=true) :
 pC F v (q:Int)=some (refs v.S.K v.H.Words q):=by
 obtain ⟨⟨Dt,l1⟩,_⟩:=yo.1 az
 unfold pC
 rw [eC (n:=(q:Int)+ 1) (by omega) (by omega),jQ (i:=q+ 1) (by omega) (by omega),Option.bind_some]
 generalize af:(wd v.H.Words (q+ 1)).toNat=n at ea
 have Gh:wd v.H.Words (q+ 1)=(n:Int):=by omega
 have pG:=az
 rw [Gh] at pG ⊢
 have l1:=tI (l:=List.range n) (fun k acc i=>sF (q:Int) v (n:Int) k acc (i:Int)) (fun j=>if hd v.S.K (wd v.H.Words q) j then [((q+ 3 +j:Nat):Int)] else []) 1 5000 (fun x _=>by split <;> simp) (fun f i x acc aj bB=>by
  have hi:i <n:=by have:=(List.getElem?_eq_some_iff.1 aj).1;simpa using this
  rw [List.getElem?_range hi] at aj
  simp only [Option.some.injEq] at aj
  subst aj
  rw [sF,cH hi,cond_true,ll (by omega),Option.bind_some]
  have bL:pB (⟨(⟨v.S.K.aG,v.S.K.aE,v.S.K.Fields,v.S.K.Names,v.S.K.aD⟩:bt)⟩:dn) (wd v.H.Words q) (i:Int)=some (hd v.S.K (wd v.H.Words q) i):=YL a6 bP pG (by omega)
  rw [bL,Option.bind_some]
  show _=sF (q:Int) v (n:Int) f _ _
  cases hd v.S.K (wd v.H.Words q) i with
  | true=>
    rw [cond_true,eC (n:=(q:Int)+ 3) (by omega) (by omega),eC (n:=(q:Int)+ 3 +i) (by omega) (by omega),h3 (by simp;omega),Option.bind_some,Option.bind_some,gK hi (by omega),if_pos rfl]
    congr 2
  | false=>
    rw [cond_false,Option.bind_some,gK hi (by omega),if_neg (by decide),List.append_nil]) (fun f acc=>by
  rw [List.length_range,sF,cG];rfl) (F:=F) (by simp;omega) (acc:=[]) (by simp;omega)
 have l1:sF (q:Int) v (n:Int) F [] 0 =_:=l1
 rw [l1,Option.bind_some,List.nil_append,refs,af]
theorem acG (bW:10000 <F) {gR:List (List Int)} (aB:gR.length<= 10) (aR:gR.flatten.length<= 10000):D7 F gR=some gR.flatten:=by
 unfold D7
 have aFX:∀ (d i f:Nat) (n:Int),i+d=gR.length->d <f-> 0 <=n->n+(gR.drop i).flatten.length<= 10000 ->vK gR f n (i:Int)=some (n+(gR.drop i).flatten.length):=by
  intro d
  induction d with
  | zero=>
    intro i f n h I af _
    obtain ⟨f,rfl⟩:∃ eR,f=eR+ 1 :=⟨f - 1,by omega⟩
    have:i=gR.length:=by omega
    subst this
    rw [vK,cG];simp
  | succ d ct=>
    intro i f n h I af aY
    obtain ⟨f,rfl⟩:∃ eR,f=eR+ 1 :=⟨f - 1,by omega⟩
    have hi:i <gR.length:=by omega
    rw [List.drop_eq_getElem_cons hi] at aY
    simp only [List.flatten_cons,List.length_append] at aY
    rw [vK,cH hi,cond_true,ch (List.getElem?_eq_getElem hi),Option.bind_some,eC (n:=n+((gR[i]).length:Int)) (by omega) (by omega),show decide (n+((gR[i]).length:Int) < 0)=false from decide_eq_false (by omega),cond_false,Option.bind_some,gK hi (by omega),ct (i+ 1) f _ (by omega) (by omega) (by omega) (by omega),List.drop_eq_getElem_cons hi]
    simp only [List.flatten_cons,List.length_append]
    congr 1;omega
 have iL:=aFX gR.length 0 F 0 (by omega) (by omega) (by omega) (by simp at aR ⊢;omega)
 have iL:vK gR F 0 0 =some (0 +((gR.drop 0).flatten.length:Int)):=iL
 rw [iL,Option.bind_some,List.drop_zero,Int.zero_add]
 have kO:Jb (gR.flatten.length:Int)=some []:=by
  unfold Jb
  rw [show decide ((gR.flatten.length:Int) < 0)=false from decide_eq_false (by omega),cond_false,Option.bind_some,eC (n:=(gR.flatten.length:Int) - 0) (by omega) (by omega),Int.sub_zero]
  by_cases bJ:(0 :Int) <(gR.flatten.length:Int)
  · rw [decide_eq_true bJ,cond_true]
    unfold Fu
    rw [if_pos ⟨bJ,by omega⟩];rfl
  · rw [decide_eq_false bJ];rfl
 rw [kO,Option.bind_some]
 have aFY:∀ (d i f:Nat) (acc:List Int),i+d=gR.length->d <f->acc.length+(gR.drop i).flatten.length<= 10000 ->vL gR f acc (i:Int)=some (acc++(gR.drop i).flatten):=by
  intro d
  induction d with
  | zero=>
    intro i f n h I af
    obtain ⟨f,rfl⟩:∃ eR,f=eR+ 1 :=⟨f - 1,by omega⟩
    have:i=gR.length:=by omega
    subst this
    rw [vL,cG];simp
  | succ d ct=>
    intro i f acc h I aY
    obtain ⟨f,rfl⟩:∃ eR,f=eR+ 1 :=⟨f - 1,by omega⟩
    have hi:i <gR.length:=by omega
    rw [List.drop_eq_getElem_cons hi] at aY
    simp only [List.flatten_cons,List.length_append] at aY
    rw [vL,cH hi,cond_true,ch (List.getElem?_eq_getElem hi),Option.bind_some,h3 (by omega),Option.bind_some,gK hi (by omega),ct (i+ 1) f _ (by omega) (by omega) (by simp only [List.length_append];omega),List.drop_eq_getElem_cons hi,List.flatten_cons,List.append_assoc]
 have kO:=aFY gR.length 0 F [] (by omega) (by omega) (by simp at aR ⊢;omega)
 have kO:vL gR F [] 0 =some ([]++(gR.drop 0).flatten):=kO
 rw [kO];simp
theorem all_eq (bW:10000 <F) (v:cl) (h:v.aq.length+v.aA.length<= 10000):xX F v=some (v.aq++v.aA):=by
 unfold xX
 rw [acG bW (by simp) (by simp;omega)]
 simp
def a6 (W:List Int) (a:Int):Int:=wd W (a.toNat+ 2)
def yP (l:List Int) (m:List (Int × Bool)):List (Int × Bool):=l.foldl (fun m x=>hO m x true) m
theorem agi:∀ (l:List Int) (m:List (Int × Bool)),(yP l m).length<=m.length+l.length/\((yP l m).length=m.length+l.length ↔ l.Nodup/\ ∀ x ∈ l,(du m x).isSome=false)
 | [],m=>by simp [yP]
 | x::r,m=>by
   have ct:=agi r (hO m x true)
   have e:yP (x::r) m=yP r (hO m x true):=rfl
   rw [e]
   have az:=M4 (k:=x) (v:=true) m
   rw [List.length_cons]
   cases aj:(du m x).isSome with
   | true=>
     rw [aj,if_pos rfl] at az
     rw [az] at ct
     refine ⟨by omega,⟨fun h=>by omega,fun h=>?_⟩⟩
     have:=h.2 x List.mem_cons_self
     rw [aj] at this;cases this
   | false=>
     rw [aj,if_neg (by decide)] at az
     rw [az] at ct
     refine ⟨by omega,?_⟩
     rw [show m.length+(r.length+ 1)=m.length+ 1 +r.length by omega,ct.2,List.nodup_cons]
     constructor
     · rintro ⟨aB,aR⟩
       refine ⟨⟨fun hm=>?_,aB⟩,fun y hy=>?_⟩
       · have:=aR x hm
         have bT:=(IC (k:=x) (s:=x) (v:=true) m).2 (.inl rfl)
         rw [this] at bT;cases bT
       · rcases List.mem_cons.1 hy with rfl | hy
         · exact aj
         · cases cV:(du m y).isSome with
           | false=>rfl
           | true=>
             have bT:=(IC (k:=x) (s:=y) (v:=true) m).2 (.inr cV)
             rw [aR y hy] at bT;cases bT
     · rintro ⟨⟨aB,aR⟩,bT⟩
       refine ⟨aR,fun y hy=>?_⟩
       cases cV:(du (hO m x true) y).isSome with
       | false=>rfl
       | true=>
         rcases (IC (k:=x) (s:=y) (v:=true) m).1 cV with e | e
         · subst e;exact absurd hy aB
         · rw [bT y (List.mem_cons_of_mem _ hy)] at e;cases e
def jP (v:cl) (a:Int):Bool:=decide (a6 v.H.Words a < 1) || decide (v.H.Next<=a6 v.H.Words a)
theorem apB (v:cl) (r:List Int) (bQ:r.length<= 10000) (aY:∀ a ∈ r,0 <=a/\a.toNat+ 3 <=v.H.Words.length) (jz:v.H.Words.length<= 5000):∀ (d i f:Nat) (m:List (Int × Bool)),i+d=r.length->d <f ->
 uz v r f m (i:Int)=if (r.drop i).any (jP v) then some (.out 3) else some (.go (yP ((r.drop i).map (a6 v.H.Words)) m)):=by
 intro d
 induction d with
 | zero=>
   intro i f m h I
   obtain ⟨f,rfl⟩:∃ eR,f=eR+ 1 :=⟨f - 1,by omega⟩
   have:i=r.length:=by omega
   subst this
   rw [uz,cG];simp [yP]
 | succ d ct=>
   intro i f m h I
   obtain ⟨f,rfl⟩:∃ eR,f=eR+ 1 :=⟨f - 1,by omega⟩
   have hi:i <r.length:=by omega
   obtain ⟨bJ,aB⟩:=aY r[i] (List.getElem_mem hi)
   rw [uz,cH hi,cond_true,ch (List.getElem?_eq_getElem hi),Option.bind_some,eC (n:=r[i]+ 2) (by omega) (by omega),jQ (i:=(r[i]).toNat+ 2) (by omega) (by omega),Option.bind_some,List.drop_eq_getElem_cons hi,List.any_cons]
   show cond (jP v r[i]) _ _=_
   cases jP v r[i] with
   | true=>rfl
   | false=>
     rw [cond_false,gK hi (by omega),ct (i+ 1) f _ (by omega) (by omega),Bool.false_or]
     rfl
theorem apA (bW:10000 <F) (v:cl) (h:v.aq.length+v.aA.length<= 5000) (aY:∀ a ∈ v.aq++v.aA,0 <=a/\a.toNat+ 3 <=v.H.Words.length) (jz:v.H.Words.length<= 5000) (aef:v.c6.length=(v.aq++v.aA).length) :
 C4 F v=some (if (v.aq++v.aA).any (jP v) then 3 else if ((v.aq++v.aA).map (a6 v.H.Words)).Nodup then 0 else 6):=by
 unfold C4
 have e:xX F (⟨(⟨v.H.Words,v.H.aq,v.H.aA,v.H.aP,v.H.aM,v.H.au,v.H.Next⟩:bp),(⟨(⟨v.S.K.aG,v.S.K.aE,v.S.K.Fields,v.S.K.Names,v.S.K.aD⟩:bt)⟩:dn),v.aq,v.aA,v.c6⟩:cl)=some (v.aq++v.aA):=all_eq bW v (by omega)
 rw [e,Option.bind_some]
 have l1:=apB v (v.aq++v.aA) (by simp;omega) aY jz (v.aq++v.aA).length 0 F [] (by omega) (by simp;omega)
 have l1:uz v (v.aq++v.aA) F [] 0 =_:=l1
 rw [l1,List.drop_zero]
 cases (v.aq++v.aA).any (jP v) with
 | true=>rfl
 | false=>
   rw [if_neg (by decide),if_neg (by decide),qw]
   obtain ⟨hr,mf⟩:=agi ((v.aq++v.aA).map (a6 v.H.Words)) []
   rw [List.length_map,List.length_nil,Nat.zero_add] at hr mf
   by_cases af:((v.aq++v.aA).map (a6 v.H.Words)).Nodup
   · rw [if_pos af]
     have:=mf.2 ⟨af,fun _ _=>rfl⟩
     rw [decide_eq_false (by rw [this,aef];omega)];rfl
   · rw [if_neg af]
     have:(yP ((v.aq++v.aA).map (a6 v.H.Words)) []).length≠(v.aq++v.aA).length:=fun e=>af (mf.1 e).1
     rw [decide_eq_true (by rw [aef];omega)];rfl
end
end J
namespace J
def qU (l:List Int):Prop:=∀ a b,a <b->b <l.length->wd l a <wd l b
theorem YO {l:List Int} (h:∀ i,i+ 1 <l.length->wd l i <wd l (i+ 1)):qU l:=by
 intro a b CY
 induction b with
 | zero=>omega
 | succ b ct=>
   intro aY
   by_cases e:a=b
   · subst e;exact h a aY
   · exact Int.lt_trans (ct (by omega) (by omega)) (h b aY)
theorem N9 {l:List Int} {i:Nat} (h:i <l.length):wd l i ∈ l:=by unfold wd;rw [List.getElem?_eq_getElem h];exact List.getElem_mem h
theorem rX {l:List Int} {i:Nat} {x:Int} (h:l[i]? =some x):wd l i=x:=by unfold wd;rw [h];rfl
theorem M1 {l:List Int} {x:Int} (h:x ∈ l):∃ i,i <l.length/\wd l i=x:=by
 obtain ⟨i,hi,e⟩:=List.getElem_of_mem h
 exact ⟨i,hi,rX (by rw [List.getElem?_eq_getElem hi,e])⟩
theorem agh {α:Type} {p:α->Bool}:∀ {l:List α},(fl p l).isSome=l.any p
 | []=>rfl
 | x::r=>by
   rw [fl,List.any_cons]
   cases h:p x with
   | true=>rfl
   | false=>simp only [Bool.false_eq_true,if_false,Bool.false_or];rw [<-agh (l:=r)];cases fl p r <;> rfl
theorem adb {α:Type} {l:List α} {L:Nat->Int->Option (Way Int Unit)} (p:α->Bool) (az:l.length<= 140737488355328)
 (a6:∀ k (i:Nat) x,l[i]? =some x->L (k+ 1) (i:Int)=cond (p x) (some (.out (i:Int))) (L k (av ((i:Int)+ 1))))
 (he:∀ k,L (k+ 1) (l.length:Int)=some (.go ())) {F:Nat} (bW:l.length <F):((dv (α:=Unit) (L F 0) fun (_:Unit)=>some (-1)).bind fun r=>some (decide ((0 :Int)<=r)))=some (l.any p):=by
 rw [Rq p (fun n:Nat=>(n:Int)) az a6 he bW,<-agh]
 cases fl p l with
 | none=>rfl
 | some i=>
   show some (decide ((0 :Int)<=(i:Int)))=_
   rw [decide_eq_true (by omega)];rfl
section
variable {F:Nat}
theorem aHU {l:List Int} (az:l.length<= 10000) (t:Int):∀ (f i j:Nat),i<=j->j<=l.length->j - i <f->(∀ a,a <i->wd l a <t)->(∀ a,j<=a->a <l.length->t<=wd l a)->qU l ->
 ∃ p:Nat,s6 t l f (i:Int) (j:Int)=some (p:Int)/\p<=l.length/\(∀ a,a <p->wd l a <t)/\(∀ a,p<=a->a <l.length->t<=wd l a):=by
 intro f
 induction f with
 | zero=>intro i j _ _ h;omega
 | succ f ct=>
   intro i j L3 bb I aB aR a6
   rw [s6]
   by_cases h:i <j
   case neg=>
    have:i=j:=by omega
    subst this
    rw [cG]
    exact ⟨i,rfl,bb,aB,aR⟩
   have em:av (n5 (n9 (av ((i:Int)+(j:Int)))) 1)=(((i+j) / 2 :Nat):Int):=by
    rw [eC (n:=(i:Int)+j) (by omega) (by omega)]
    unfold n9 n5
    rw [eC (by omega) (by omega)]
    omega
   have hm:(i+j) / 2 <j:=by omega
   have gG:i<=(i+j) / 2 :=by omega
   rw [cH h,cond_true,em,ll (by omega),Option.bind_some]
   unfold Lu Gf
   rw [Option.bind_some,show (!decide (wd l ((i+j) / 2)=wd l ((i+j) / 2)))=false by simp,cond_false,Option.bind_some]
   by_cases hc:wd l ((i+j) / 2) <t
   · rw [decide_eq_true hc,cond_true,Option.bind_some]
     show ∃ p:Nat,s6 t l f (av ((((i+j) / 2 :Nat):Int)+ 1)) (j:Int)=_/\_
     rw [eC (n:=(((i+j) / 2 :Nat):Int)+ 1) (by omega) (by omega),show (((i+j) / 2 :Nat):Int)+ 1 =(((i+j) / 2 + 1 :Nat):Int) by omega]
     refine ct ((i+j) / 2 + 1) j (by omega) bb (by omega) (fun a bB=>?_) aR a6
     by_cases e:a=(i+j) / 2
     · subst e;exact hc
     · exact Int.lt_trans (a6 a ((i+j) / 2) (by omega) (by omega)) hc
   · rw [decide_eq_false hc,cond_false,Option.bind_some]
     show ∃ p:Nat,s6 t l f (i:Int) (((i+j) / 2 :Nat):Int)=_/\_
     refine ct i ((i+j) / 2) (by omega) (by omega) (by omega) aB (fun a bB aY=>?_) a6
     by_cases e:a=(i+j) / 2
     · subst e;omega
     · have:=a6 ((i+j) / 2) a (by omega) aY
       omega
theorem agH (bW:10000 <F) {l:List Int} (az:l.length<= 10000) (a6:qU l) (t:Int) :
 ∃ p:Nat,D6 F l t=some ((p:Int),decide (t ∈ l))/\p<=l.length/\(∀ a,a <p->wd l a <t)/\(∀ a,p<=a->a <l.length->t<=wd l a):=by
 obtain ⟨p,e,b0,aB,aR⟩:=aHU az t F 0 l.length (by omega) (Nat.le_refl _) (by omega) (fun a bB=>by omega) (fun a bB aY=>by omega) a6
 refine ⟨p,?_,b0,aB,aR⟩
 unfold D6
 have e:s6 t l F 0 (l.length:Int)=some (p:Int):=e
 rw [e,Option.bind_some]
 by_cases dP:p <l.length
 · rw [cH dP,cond_true,ll dP,Option.bind_some]
   by_cases bP:wd l p=t
   · rw [decide_eq_true bP,cond_true,decide_eq_true (bP ▸ N9 dP)]
   · have af: ¬ t ∈ l:=fun hm=>by
      obtain ⟨a,bB,acY⟩:=M1 hm
      by_cases RX:a <p
      · have:=aB a RX;omega
      · have bT:=aR p (Nat.le_refl _) dP
        by_cases e:a=p
        · subst e;exact bP acY
        · have:=a6 p a (by omega) bB;omega
     rw [decide_eq_false bP,cond_false,Option.bind_some,decide_eq_false af]
     unfold Jd
     rw [Option.bind_some,show (!decide (wd l p=wd l p))=false by simp,cond_false]
 · have:p=l.length:=by omega
   subst this
   have af: ¬ t ∈ l:=fun hm=>by
    obtain ⟨a,bB,acY⟩:=M1 hm
    have:=aB a bB;omega
   rw [cG,cond_false,decide_eq_false af]
structure qV (v:cl) (a:Int):Prop where
 pos:0 <=a
 fit:a.toNat+ 3 +(wd v.H.Words (a.toNat+ 1)).toNat<=v.H.Words.length
 tag:iw v.S.K (wd v.H.Words a.toNat)=true
 len:isLen v.S.K (wd v.H.Words a.toNat) (wd v.H.Words (a.toNat+ 1))=true
structure ou (v:cl):Prop where
 rT:h2 v.S.K
 k2:v.H.Words.length<= 4900
 sv:v.aq.length+v.aA.length<= 5000
 rU:∀ a ∈ v.aq++v.aA,qV v a
 c6:∀ x,(du v.c6 x).getD false=decide (x ∈ v.aq++v.aA)
theorem qV.YH {v:cl} {a:Int} (ad:ou v) (h:qV v a) (bW:6000 <F):pC F v a=some (refs v.S.K v.H.Words a.toNat):=by
 have:=aHw bW v ad.rT h.fit (by have:=ad.k2;omega) h.tag h.len
 rwa [show ((a.toNat:Nat):Int)=a by have:=h.pos;omega] at this
theorem qV.NG {v:cl} {a w:Int} (h:qV v a) (hw:w ∈ refs v.S.K v.H.Words a.toNat):idx v.H.Words w=some (wd v.H.Words w.toNat):=by
 obtain ⟨j,bb,_,e⟩:=Xr.1 hw
 have:=h.fit
 subst e
 exact ll (by omega)
theorem NH {v:cl} {a:Int} (ad:ou v) (h:qV v a):(refs v.S.K v.H.Words a.toNat).length<= 5000 :=by
 have:(refs v.S.K v.H.Words a.toNat).length<= 1 *(List.range (wd v.H.Words (a.toNat+ 1)).toNat).length:=xO fun x _=>by split <;> simp
 have aB:=h.fit;have aR:=ad.k2
 rw [List.length_range] at this
 omega
def s9 (v:cl) (w:Int):Bool:=!decide (wd v.H.Words w.toNat= 0) && !decide (wd v.H.Words w.toNat ∈ v.aq++v.aA)
def n0 (v:cl) (a:Int):Bool:=(refs v.S.K v.H.Words a.toNat).any (s9 v)
def free (h:bp):List Int:=h.Words.take 1 ++((h.Words.take (h.aq+ 1).toNat).drop h.aP.toNat++h.Words.drop h.aM.toNat)
theorem nG {α:Type} {p:α->Bool} {e:Int}:∀ l:List α,l.findSome? (fun x=>if p x then some e else none)=if l.any p then some e else none
 | []=>rfl
 | x::r=>by
   rw [List.findSome?_cons,List.any_cons]
   cases p x with
   | true=>rfl
   | false=>simp only [Bool.false_eq_true,if_false,Bool.false_or];exact nG r
theorem aIu (bW:10000 <F) {v:cl} (ad:ou v) (bJ:0 <=v.H.aq) (aB:0 <=v.H.aP/\v.H.aP<=v.H.aq+ 1 /\v.H.aq+ 1 <=v.H.Words.length) (aR:0 <=v.H.aM/\v.H.aM<=v.H.Words.length) :
 C6 F v=some (if (v.aq++v.aA).any (n0 v) then 5 else if (free v.H).any (fun x=>!decide (x= 0)) then 1 else 0):=by
 have hc:=ad.sv;have hw:=ad.k2
 unfold C6
 have e:xX F (⟨(⟨v.H.Words,v.H.aq,v.H.aA,v.H.aP,v.H.aM,v.H.au,v.H.Next⟩:bp),(⟨(⟨v.S.K.aG,v.S.K.aE,v.S.K.Fields,v.S.K.Names,v.S.K.aD⟩:bt)⟩:dn),v.aq,v.aA,v.c6⟩:cl)=some (v.aq++v.aA):=all_eq bW v (by omega)
 rw [e,Option.bind_some]
 have l1:xZ F v (v.aq++v.aA) F 0 =some (dC ((v.aq++v.aA).findSome? fun a=>if n0 v a then some 5 else none)):=each _ (by simp;omega) (fun f i a bB=>by
  have hm:=List.mem_of_getElem? bB
  have bP:=ad.rU a hm
  rw [xZ,cH (List.getElem?_eq_some_iff.1 bB).1,cond_true,ch bB,Option.bind_some]
  have b8:pC F (⟨(⟨v.H.Words,v.H.aq,v.H.aA,v.H.aP,v.H.aM,v.H.au,v.H.Next⟩:bp),(⟨(⟨v.S.K.aG,v.S.K.aE,v.S.K.Fields,v.S.K.Names,v.S.K.aD⟩:bt)⟩:dn),v.aq,v.aA,v.c6⟩:cl) a=some (refs v.S.K v.H.Words a.toNat):=bP.YH ad (by omega)
  have Vb:=NH ad bP
  rw [b8,Option.bind_some]
  have fO:uB v (refs v.S.K v.H.Words a.toNat) F 0 =some (dC ((refs v.S.K v.H.Words a.toNat).findSome? fun w=>if s9 v w then some 5 else none)):=each _ (by omega) (fun eR AL w hl=>by
   have gG:=List.mem_of_getElem? hl
   rw [uB,cH (List.getElem?_eq_some_iff.1 hl).1,cond_true,ch hl,Option.bind_some,bP.NG gG,Option.bind_some,ad.c6]
   unfold s9
   cases decide (wd v.H.Words w.toNat= 0) <;> cases decide (wd v.H.Words w.toNat ∈ v.aq++v.aA) <;> rfl) (fun eR=>by rw [uB,cG];rfl) (by omega)
  rw [fO,nG]
  show _=hP (if (refs v.S.K v.H.Words a.toNat).any (s9 v) then some 5 else none) _
  cases (refs v.S.K v.H.Words a.toNat).any (s9 v) <;> rfl) (fun f=>by rw [xZ,cG];rfl) (by simp;omega)
 rw [l1,nG]
 cases (v.aq++v.aA).any (n0 v) with
 | true=>rfl
 | false=>
   simp only [Bool.false_eq_true,if_false,dC,qw]
   have d_:cut v.H.Words 0 1 =some (v.H.Words.take 1):=by
    unfold cut;rw [if_pos ⟨by omega,by omega,by omega⟩];rfl
   have eb:cut v.H.Words v.H.aP (av (v.H.aq+ 1))=some ((v.H.Words.take (v.H.aq+ 1).toNat).drop v.H.aP.toNat):=by
    rw [eC (by omega) (by omega)]
    unfold cut;rw [if_pos ⟨by omega,by omega,by omega⟩]
   have fG:cut v.H.Words v.H.aM (v.H.Words.length:Int)=some (v.H.Words.drop v.H.aM.toNat):=by
    unfold cut;rw [if_pos ⟨by omega,by omega,by omega⟩,Int.toNat_natCast,List.take_length]
   have ad8:(free v.H).length<= 10000 :=by unfold free;simp;omega
   rw [d_,eb,fG,Option.bind_some,Option.bind_some,Option.bind_some,acG bW (by simp) (by simp;omega),Option.bind_some]
   have ak5:[v.H.Words.take 1,(v.H.Words.take (v.H.aq+ 1).toNat).drop v.H.aP.toNat,v.H.Words.drop v.H.aM.toNat].flatten=free v.H:=by simp [free]
   rw [ak5]
   unfold NU NW
   rw [adb (l:=free v.H) (L:=y6 (free v.H)) (fun x=>!decide (x= 0)) (by omega) (fun f i x aj=>by
    rw [y6,cH (List.getElem?_eq_some_iff.1 aj).1,cond_true,ch aj,Option.bind_some]
    rfl) (fun f=>by rw [y6,cG];rfl) (by omega),Option.bind_some]
   cases (free v.H).any (fun x=>!decide (x= 0)) <;> rfl
def kv (v:cl) (x:Int):Bool:=decide (0 <x) && decide (x<=v.H.aq)
def rH (v:cl) (x:Int):Bool:=!decide (x ∈ v.aq++v.aA) || kv v x || (refs v.S.K v.H.Words x.toNat).isEmpty
def jF (v:cl) (i:Nat):Bool:=(decide (0 <i) && decide (wd v.H.au i<=wd v.H.au (i - 1))) || rH v (wd v.H.au i)
def ps (v:cl) (x:Int):Bool:=!decide (x ∈ v.H.au) && (refs v.S.K v.H.Words x.toNat).any fun w=>kv v (wd v.H.Words w.toNat)
theorem aGA (bW:10000 <F) {v:cl} (ad:ou v) (x:Int) (Y:Option (Way Int Unit)):(cond (!((du v.c6 x).getD false)) (some (.out 4)) ((C3 v x).bind fun DS=>
 cond (DS) (some (.out 4)) ((pC F v x).bind fun IU=>
 cond (decide ((IU.length:Int)= 0)) (some (.out 4)) Y)))=hP (if rH v x then some 4 else none) Y:=by
 rw [ad.c6]
 unfold rH
 by_cases hm:x ∈ v.aq++v.aA
 · rw [decide_eq_true hm,(ad.rU x hm).YH ad (by omega)]
   show cond (kv v x) _ ((some _).bind _)=_
   cases kv v x with
   | true=>rfl
   | false=>
     rw [cond_false,Option.bind_some]
     cases refs v.S.K v.H.Words x.toNat with
     | nil=>rfl
     | cons a r=>rw [decide_eq_false (by simp;omega)];rfl
 · rw [decide_eq_false hm];rfl
theorem aGz (bW:10000 <F) {v:cl} (ad:ou v) (af:v.H.au.length<= 140737488355328) (Ay:v.H.au.length <F) (aCv:(∀ i,i <v.H.au.length->jF v i=false)->v.H.au.length<= 10000) :
 C5 F v=some (if (List.range v.H.au.length).any (jF v) || v.aA.any (ps v) then 4 else 0):=by
 have hc:=ad.sv;have hw:=ad.k2
 unfold C5
 have l1:sG F v F 0 =some (dC ((List.range v.H.au.length).findSome? fun i=>if jF v i then some 4 else none)):=kN _ af (fun f i hi=>by
  have bQ:=aGA bW ad (wd v.H.au i) (sG F v f (av ((i:Int)+ 1)))
  rw [sG,cH hi,cond_true,ll hi,Option.bind_some]
  unfold jF
  by_cases bJ:0 <i
  · rw [show decide ((0 :Int) <(i:Int))=true from decide_eq_true (by omega),cond_true,eC (n:=(i:Int) - 1) (by omega) (by omega),jQ (i:=i - 1) (by omega) (by omega),Option.bind_some,decide_eq_true bJ,Bool.true_and]
    cases decide (wd v.H.au i<=wd v.H.au (i - 1)) with
    | true=>rfl
    | false=>exact bQ
  · rw [show decide ((0 :Int) <(i:Int))=false from decide_eq_false (by omega),cond_false,decide_eq_false bJ,Bool.false_and,Bool.false_or]
    exact bQ) (fun f=>by rw [sG,cG];rfl) Ay
 rw [l1,nG]
 cases aY:(List.range v.H.au.length).any (jF v) with
 | true=>rfl
 | false=>
   have oQ:∀ i,i <v.H.au.length->jF v i=false:=fun i hi=>by
    rw [List.any_eq_false] at aY
    simpa using aY i (by simpa using hi)
   have hlen:=aCv oQ
   have aCx:qU v.H.au:=YO fun i hi=>by
    have:=oQ (i+ 1) hi
    unfold jF at this
    simp only [Bool.or_eq_false_iff,Bool.and_eq_false_iff,decide_eq_false_iff_not,Nat.add_sub_cancel] at this
    rcases this.1 with h | h <;> omega
   simp only [Bool.false_eq_true,if_false,dC,qw,Bool.false_or]
   have fO:uA F v F 0 =some (dC (v.aA.findSome? fun x=>if ps v x then some 4 else none)):=each _ (by omega) (fun f i x aj=>by
    have hm:x ∈ v.aq++v.aA:=List.mem_append_right _ (List.mem_of_getElem? aj)
    have bP:=ad.rU x hm
    obtain ⟨p,b0,_⟩:=agH bW hlen aCx x
    rw [uA,cH (List.getElem?_eq_some_iff.1 aj).1,cond_true,ch aj,Option.bind_some,b0,Option.bind_some]
    unfold ps
    by_cases pD:x ∈ v.H.au
    · rw [decide_eq_true pD];rfl
    · rw [decide_eq_false pD]
      have b8:pC F (⟨(⟨v.H.Words,v.H.aq,v.H.aA,v.H.aP,v.H.aM,v.H.au,v.H.Next⟩:bp),(⟨(⟨v.S.K.aG,v.S.K.aE,v.S.K.Fields,v.S.K.Names,v.S.K.aD⟩:bt)⟩:dn),v.aq,v.aA,v.c6⟩:cl) x=some (refs v.S.K v.H.Words x.toNat):=bP.YH ad (by omega)
      have Vb:=NH ad bP
      simp only [Bool.not_false,cond_true,Bool.true_and]
      rw [b8,Option.bind_some]
      unfold NT NV
      rw [adb (l:=refs v.S.K v.H.Words x.toNat) (L:=y5 (refs v.S.K v.H.Words x.toNat) v) (fun w=>kv v (wd v.H.Words w.toNat)) (by omega) (fun eR AL w hl=>by
       rw [y5,cH (List.getElem?_eq_some_iff.1 hl).1,cond_true,ch hl,Option.bind_some]
       unfold L0
       rw [bP.NG (List.mem_of_getElem? hl)]
       rfl) (fun eR=>by rw [y5,cG];rfl) (by omega),Option.bind_some]
      cases (refs v.S.K v.H.Words x.toNat).any (fun w=>kv v (wd v.H.Words w.toNat)) <;> rfl) (fun f=>by rw [uA,cG];rfl) (by omega)
   rw [fO,nG]
   cases v.aA.any (ps v) <;> rfl
end
end J
namespace J
def M9:bt:=⟨[],[],[],[],[]⟩
def rows {β:Type} (f:Int->β) (i:Nat):List β:=(List.range i).map fun j:Nat=>f (j:Int)
theorem D2 {β:Type} (f:Int->β) (i:Nat):rows f (i+ 1)=rows f i++[f (i:Int)]:=by simp [rows,List.range_succ]
def linked (l:List aO):bt:=⟨l,ez l,rows (gp l) l.length,rows (fun i=>(tab l i).1) l.length,rows (fun i=>(tab l i).2) l.length⟩
def Ch (l:List aO) (i:Nat):Option (bt × Int):=if 12 <(gp l i).length\/ 16 <(tab l i).1.length then some (M9,2) else none
section
variable {F:Nat} {l:List aO}
theorem aaO (x y:Nat):((decide ((12 :Int) <(x:Int))) || (decide ((16 :Int) <(y:Int))))=decide (12 <x\/ 16 <y):=by
 rw [Bool.eq_iff_iff];simp;omega
theorem aF_ (bW:1100 <F) (h:il l) (s5 rN:Int × dk) (RB:s5.2.cK=fK 0 l) (Gr:rN.2.b9=ez l) :
 p9 F l s5 rN F [] [] [] 0 =some (Bi ((List.range l.length).findSome? (Ch l)) (rows (fun i=>(tab l i).2) l.length,rows (fun i=>(tab l i).1) l.length,rows (gp l) l.length)):=by
 have hlen:=h.right.len
 refine Qv (n:=l.length) (fun k i=>p9 F l s5 rN k (rows (fun i=>(tab l i).2) i) (rows (fun i=>(tab l i).1) i) (rows (gp l) i) (i:Int)) _ _ (fun k i hi=>?_) (fun k=>?_) (F:=F) (by omega)
 · show p9 F l s5 rN (k+ 1) (rows (fun i=>(tab l i).2) i) (rows (fun i=>(tab l i).1) i) (rows (gp l) i) (i:Int)=_
   rw [p9,cH hi,cond_true,RB,Gr,h.aF' bW (fK 0 l) (by omega) (by omega),Option.bind_some,h.Xo bW (fK 0 l) (by omega) (by omega),Option.bind_some,
    h3 (by simp only [rows,List.length_map,List.length_range,List.length_cons,List.length_nil];omega),Option.bind_some,h3 (by simp only [rows,List.length_map,List.length_range,List.length_cons,List.length_nil];omega),Option.bind_some,
    h3 (by simp only [rows,List.length_map,List.length_range,List.length_cons,List.length_nil];omega),Option.bind_some,ch (i:=i) (x:=gp l i) (by simp [rows]),Option.bind_some,aaO,gK hi (by omega),<-D2 (gp l),<-D2 (fun i=>(tab l i).1),<-D2 (fun i=>(tab l i).2)]
   unfold Ch
   by_cases aY:12 <(gp l i).length\/ 16 <(tab l i).1.length
   · rw [decide_eq_true aY,if_pos aY];rfl
   · rw [decide_eq_false aY,if_neg aY];rfl
 · show p9 F l s5 rN (k+ 1) (rows (fun i=>(tab l i).2) l.length) (rows (fun i=>(tab l i).1) l.length) (rows (gp l) l.length) (l.length:Int)=_
   rw [p9,cG];rfl
theorem aHt (bW:1100 <F) (h:il l) :
 qR F l F [] [] [] [] 0 =some (Bi ((List.range l.length).findSome? (Ch l)) (rows (fun i=>(tab l i).2) l.length,rows (fun i=>(tab l i).1) l.length,rows (gp l) l.length,ez l)):=by
 have hlen:=h.right.len
 refine Qv (n:=l.length) (fun k i=>qR F l k (rows (fun i=>(tab l i).2) i) (rows (fun i=>(tab l i).1) i) (rows (gp l) i) ((ez l).take i) (i:Int)) _ _ (fun k i hi=>?_) (fun k=>?_) (F:=F) (by omega)
 · obtain ⟨x,aj⟩:∃ x,l[i]? =some x:=⟨l[i],List.getElem?_eq_getElem hi⟩
   have dR:(ez l).take i++[dV l x.b2]=(ez l).take (i+ 1):=by rw [List.take_add_one,YQ aj];rfl
   show qR F l (k+ 1) (rows (fun i=>(tab l i).2) i) (rows (fun i=>(tab l i).1) i) (rows (gp l) i) ((ez l).take i) (i:Int)=_
   rw [qR,cH hi,cond_true,h.YF bW (by omega) (by omega),Option.bind_some,h.aHu bW (by omega) (by omega),Option.bind_some,aaO,ch aj,Option.bind_some,w0 ⟨by omega,by omega⟩,Option.bind_some,
    h3 (by simp only [List.length_take,D8,List.length_cons,List.length_nil];omega),Option.bind_some,
    h3 (by simp only [rows,List.length_map,List.length_range,List.length_cons,List.length_nil];omega),Option.bind_some,h3 (by simp only [rows,List.length_map,List.length_range,List.length_cons,List.length_nil];omega),Option.bind_some,
    h3 (by simp only [rows,List.length_map,List.length_range,List.length_cons,List.length_nil];omega),Option.bind_some,gK hi (by omega),<-D2 (gp l),<-D2 (fun i=>(tab l i).1),<-D2 (fun i=>(tab l i).2),dR]
   unfold Ch
   by_cases aY:12 <(gp l i).length\/ 16 <(tab l i).1.length
   · rw [decide_eq_true aY,if_pos aY];rfl
   · rw [decide_eq_false aY,if_neg aY];rfl
 · show qR F l (k+ 1) (rows (fun i=>(tab l i).2) l.length) (rows (fun i=>(tab l i).1) l.length) (rows (gp l) l.length) ((ez l).take l.length) (l.length:Int)=_
   rw [qR,cG,List.take_of_length_le (by rw [D8];omega)];rfl
theorem rI {α:Type} {e:Int} (h:e≠ 0) {x y:α}:cond (!decide (e= 0)) x y=x:=by rw [decide_eq_false h];rfl
theorem q7 {α:Type} {x y:α}:cond (!decide ((0 :Int)= 0)) x y=y:=rfl
theorem aIc {e:Int} (h:l.findSome? s7=some e):e= 4 :=by
 obtain ⟨x,_,aj⟩:=List.exists_of_findSome?_eq_some h
 unfold s7 at aj
 split at aj
 · cases aj
 · injection aj with aj;exact aj.symm
theorem aGm {e:Int} (h:l.findSome? (qa l)=some e):e= 5 :=by
 obtain ⟨x,_,aj⟩:=List.exists_of_findSome?_eq_some h
 unfold qa at aj
 split at aj
 · cases aj
 · injection aj with aj;exact aj.symm
theorem akV {e:Int} (h:(List.range l.length).findSome? (t' l)=some e):e= 4 :=by
 obtain ⟨x,_,aj⟩:=List.exists_of_findSome?_eq_some h
 unfold t' at aj
 split at aj
 · cases aj
 · injection aj with aj;exact aj.symm
theorem aIo {nm:List UInt8} (h:0 <=dV l nm):(du (fK 0 l) nm).getD 0 =dV l nm:=by
 rw [DM]
 unfold dV at h ⊢
 cases b0:fl (jR nm) l with
 | none=>rw [b0] at h;simp at h
 | some i=>simp
theorem akv (bW:1100 <F) (I:Fits F l):∃ e,Fo F l=some e /\
 ((e≠ 0 /\yq F l=some (M9,e)) \/
  (e= 0 /\il l/\ ∃ s5 rN:Int × dk,s5.2.cK=fK 0 l/\rN.2.b9=ez l /\
   yq F l=dv (α:=(List (List Target)) × (List (List (List UInt8))) × (List (List Field))) (p9 F l s5 rN F [] [] [] 0) fun ((nR,nS,nT):(List (List Target)) × (List (List (List UInt8))) × (List (List Field)))=>some ((⟨l,rN.2.b9,nT,nS,nR⟩:bt),0))):=by
 unfold Fo yq
 rw [aiz I,aFD I,Option.bind_some,Option.bind_some]
 by_cases bJ:ss l= 0
 case neg=>exact ⟨ss l,by rw [rI bJ],.inl ⟨bJ,by rw [rI bJ];rfl⟩⟩
 rw [bJ,q7,q7]
 have g4:=aky bJ
 have hlen:=g4.len
 rw [aGJ (by omega) g4,Option.bind_some]
 rcases aGr (F:=F) (by omega) g4 with ⟨mM,DC,AY⟩ | ⟨_,⟨m,DC⟩,AY⟩
 case inr=>
  unfold Dx
  simp only
  rw [DC,AY]
  exact ⟨6,rfl,.inl ⟨by decide,rfl⟩⟩
 rw [AY,qw,w0 ⟨by omega,by omega⟩,Option.bind_some,w0 ⟨by omega,by omega⟩,Option.bind_some]
 have aAm:Dx F ⟨l,[],[]⟩=some (cond (decide (0 <=dV l [79,98,106,101,99,116]) && decide (0 <=dV l [69,114,114,111,114])) 0 5,⟨l,fK 0 l,[]⟩):=by
  unfold Dx
  simp only
  rw [DC,qw,Xv,Xv]
  cases decide (0 <=dV l [79,98,106,101,99,116]) <;> cases decide (0 <=dV l [69,114,114,111,114]) <;> rfl
 rw [aAm,Option.bind_some]
 by_cases UP:0 <=dV l [79,98,106,101,99,116]
 case neg=>
  rw [decide_eq_true (show dV l [79,98,106,101,99,116] < 0 by omega),decide_eq_false UP]
  exact ⟨5,rfl,.inl ⟨by decide,rfl⟩⟩
 rw [decide_eq_false (show ¬ dV l [79,98,106,101,99,116] < 0 by omega),decide_eq_true UP,cond_false]
 by_cases C8:0 <=dV l [69,114,114,111,114]
 case neg=>
  rw [decide_eq_true (show dV l [69,114,114,111,114] < 0 by omega),decide_eq_false C8]
  exact ⟨5,rfl,.inl ⟨by decide,rfl⟩⟩
 rw [decide_eq_false (show ¬ dV l [69,114,114,111,114] < 0 by omega),decide_eq_true C8,cond_false,Bool.and_self,cond_true]
 simp only [Option.bind_some,decide_true,Bool.not_true,cond_false]
 unfold MW
 simp only
 rw [aIa (by omega) g4,aIb (by omega) g4,j7,j7]
 cases bP:l.findSome? s7 with
 | some e=>
   have:=aIc bP
   subst this
   exact ⟨4,rfl,.inl ⟨by decide,rfl⟩⟩
 | none=>
 simp only [Option.map_none,pg]
 obtain ⟨o,br,hm⟩:=aGk (F:=F) (by omega) g4
 rw [aGl (by omega) g4,j7,hm,<-br]
 cases o with
 | some r=>
   simp only [Option.map_some] at br
   have:=aGm br.symm
   refine ⟨5,by simp only [Option.map_some,pg];rw [this],.inl ⟨by decide,?_⟩⟩
   obtain ⟨a,b⟩:=r
   simp only at this
   subst this
   rfl
 | none=>
 simp only [Option.map_none,pg,Bi,qw]
 simp only [Option.map_none] at br
 rw [akU bW g4,j7,akT bW g4,j7]
 cases hc:(List.range l.length).findSome? (t' l) with
 | some e=>
   have:=akV hc
   subst this
   exact ⟨4,rfl,.inl ⟨by decide,rfl⟩⟩
 | none=>
 simp only [Option.map_none,pg,Option.bind_some,decide_true,Bool.not_true,cond_false]
 have aAj:∀ c ∈ l,c.b2= []\/ 0 <=dV l c.b2:=fun c nM=>by
  have:=List.findSome?_eq_none_iff.1 br.symm c nM
  unfold qa at this
  split at this
  · assumption
  · cases this
 have aCC:∀ i,i <l.length-> ∃ c,eF (ez l) l.length (i:Int)=some c:=fun i hi=>by
  have:=List.findSome?_eq_none_iff.1 hc i (by simpa using hi)
  unfold t' at this
  split at this
  · rename_i aB;exact Option.isSome_iff_exists.1 aB
  · cases this
 have ld:il l:=⟨g4,mM,aAj,aCC,fun c nM=>List.findSome?_eq_none_iff.1 bP c nM,UP⟩
 have HE:dV l [69,114,114,111,114] <l.length:=Rc
 obtain ⟨x,aj,_⟩:=vN (l:=l) C8 HE
 unfold MX
 simp only [aIo C8]
 rw [ld.YF bW C8 HE,Option.bind_some,ld.Xo bW (fK 0 l) C8 HE,Option.bind_some,aj,Option.bind_some,Option.bind_some]
 by_cases a6:((!decide (x.b2= [79,98,106,101,99,116])) || (decide (((gp l (dV l [69,114,114,111,114])).length:Int)= 0)))=true
 · rw [a6]
   exact ⟨4,rfl,.inl ⟨by decide,rfl⟩⟩
 rw [Bool.eq_false_iff.2 a6,cond_false,cond_false]
 have eN:0 <(gp l (dV l [69,114,114,111,114])).length:=by
  simp only [Bool.or_eq_true,decide_eq_true_eq,not_or] at a6
  omega
 have aCU:idx (gp l (dV l [69,114,114,111,114])) 0 =some ((gp l (dV l [69,114,114,111,114]))[0]):=by
  have:=ch (l:=gp l (dV l [69,114,114,111,114])) (i:=0) (List.getElem?_eq_getElem eN)
  exact this
 rw [aCU,Option.bind_some,Option.bind_some]
 by_cases bh:((gp l (dV l [69,114,114,111,114]))[0]).Kind.Kind= 1
 case neg=>
  rw [decide_eq_false bh]
  exact ⟨4,rfl,.inl ⟨by decide,rfl⟩⟩
 rw [decide_eq_true bh]
 simp only [Bool.not_true,cond_false,Option.bind_some,decide_true]
 rw [aH_ bW g4,j7,aH9 bW g4,Option.bind_some]
 cases AI:(rV l).findSome? (j8 l) with
 | some e=>
   have:e= 5 :=by
    obtain ⟨s,_,aB⟩:=List.exists_of_findSome?_eq_some AI
    rcases agX (l:=l) (s:=s) with aR | aR
    · rw [aR] at aB;cases aB
    · rw [aR] at aB;injection aB with aB;exact aB.symm
   subst this
   exact ⟨5,rfl,.inl ⟨by decide,rfl⟩⟩
 | none=>
 simp only [pg,Option.getD_none,decide_true,Bool.not_true,cond_false]
 rw [aGE bW ld,j7,aGD bW ld,Option.bind_some]
 cases aAs:(List.range l.length).findSome? (yO l) with
 | some e=>
   have:e= 6 :=by
    obtain ⟨s,_,aB⟩:=List.exists_of_findSome?_eq_some aAs
    unfold yO ua at aB
    split at aB
    · split at aB
      · cases aB
      · simp at aB;exact aB.symm
    · simp at aB;exact aB.symm
   subst this
   exact ⟨6,rfl,.inl ⟨by decide,rfl⟩⟩
 | none=>
 simp only [pg,Option.getD_none,decide_true,Bool.not_true,cond_false]
 rw [aGj bW ld,j7,aGi bW ld,Option.bind_some]
 cases UL:(List.range l.length).findSome? (fun i=>(l[i]?).bind fun c=>DB l c i) with
 | some e=>
   have:e= 4 :=by
    obtain ⟨i,_,aB⟩:=List.exists_of_findSome?_eq_some UL
    cases Dh:l[i]? with
    | none=>rw [Dh] at aB;cases aB
    | some c=>
      rw [Dh,Option.bind_some] at aB
      unfold DB at aB
      rcases sw (acE (l:=l) c) (eG l i).tail with aR | aR
      · rw [aR] at aB;cases aB
      · rw [aR] at aB;injection aB with aB;exact aB.symm
   subst this
   exact ⟨4,rfl,.inl ⟨by decide,rfl⟩⟩
 | none=>
 simp only [pg,Option.getD_none,decide_true,Bool.not_true,cond_false]
 exact ⟨0,rfl,.inr ⟨rfl,ld,(0,⟨l,fK 0 l,[]⟩),(0,⟨l,fK 0 l,ez l⟩),rfl,rfl,rfl⟩⟩
theorem aF9 (bW:1100 <F) (I:Fits F l):∃ r:bt × Int,yq F l=some r/\Fp F l=some r/\(r.2 = 0 ->il l/\r.1 =linked l)/\(r.2 ≠ 0 ->r.1 =M9):=by
 obtain ⟨e,aB,aR⟩:=akv bW I
 unfold Fp
 rw [aB,Option.bind_some]
 rcases aR with ⟨he,aR⟩ | ⟨rfl,ld,s5,rN,RB,Gr,aR⟩
 · exact ⟨_,aR,by rw [rI he];rfl,fun h=>absurd h he,fun _=>rfl⟩
 · rw [q7,aR,aF_ bW ld s5 rN RB Gr,aHt bW ld]
   cases aY:(List.range l.length).findSome? (Ch l) with
   | some r=>
     have:r=(M9,2):=by
      obtain ⟨i,_,aB⟩:=List.exists_of_findSome?_eq_some aY
      unfold Ch at aB
      split at aB
      · injection aB with aB;exact aB.symm
      · cases aB
     subst this
     exact ⟨_,rfl,rfl,fun h=>absurd h (by decide),fun _=>rfl⟩
   | none=>
     refine ⟨_,rfl,?_,fun _=>⟨ld,?_⟩,fun h=>absurd rfl h⟩
     · simp only [Bi,qw,Gr]
     · simp only [Gr];rfl
end
end J
namespace J
theorem mB {α:Type} [DecidableEq α] {F:Nat} {a b:List α} (az:a.length=b.length) {L:Nat->Int->Option (Way Bool Unit)} (af:a.length<= 140737488355328)
 (a6:∀ k (i:Nat) x y,a[i]? =some x->b[i]? =some y->L (k+ 1) (i:Int)=cond (!decide (x=y)) (some (.out false)) (L k (av ((i:Int)+ 1)))) (he:∀ k,L (k+ 1) (a.length:Int)=some (.go ())) (bW:a.length <F) :
 L F 0 =some (if a=b then .go () else .out false):=by
 have l1:L F 0 =some (dC ((List.range a.length).findSome? fun i=>if a[i]? =b[i]? then none else some false)):=kN _ af (fun k i hi=>by
  rw [a6 k i a[i] (b[i]'(by omega)) (List.getElem?_eq_getElem hi) (List.getElem?_eq_getElem (show i <b.length by omega)),List.getElem?_eq_getElem hi,List.getElem?_eq_getElem (show i <b.length by omega)]
  simp only [Option.some.injEq]
  by_cases e:a[i]=b[i]'(by omega)
  · rw [decide_eq_true e,if_pos e];rfl
  · rw [decide_eq_false e,if_neg e];rfl) he bW
 rw [l1]
 cases I:(List.range a.length).findSome? fun i=>if a[i]? =b[i]? then none else some false with
 | some e=>
   obtain ⟨i,hi,aB⟩:=List.exists_of_findSome?_eq_some I
   split at aB
   · cases aB
   · rename_i eN
     injection aB with aB
     subst aB
     rw [if_neg (fun e=>eN (by rw [e]))];rfl
 | none=>
   rw [if_pos];rfl
   apply List.ext_getElem?
   intro i
   by_cases hi:i <a.length
   · have:=List.findSome?_eq_none_iff.1 I i (by simpa using hi)
     split at this
     · assumption
     · cases this
   · rw [List.getElem?_eq_none (by omega),List.getElem?_eq_none (by omega)]
theorem Ru {α β:Type} (l:List α):l.findSome? (fun _=>(none:Option β))=none:=by rw [List.findSome?_eq_none_iff];intro _ _;rfl
theorem oI {p:Prop} [Decidable p] {Y:Option Bool}:dv (α:=Unit) (some (if p then (.go ():Way Bool Unit) else .out false)) (fun _=>Y)=if p then Y else some false:=by by_cases h:p <;> simp [h]
theorem acF {p:Prop} [Decidable p] {Y:Option (Way Bool Unit)}:eh (α:=Unit) (some (if p then (.go ():Way Bool Unit) else .out false)) (fun _=>Y)=if p then Y else some (.out false):=by by_cases h:p <;> simp [h]
theorem m7 {α:Type} {a b:List α}:decide ((a.length:Int)=(b.length:Int))=decide (a.length=b.length):=by
 rw [Bool.eq_iff_iff];simp;omega
theorem q8 {α:Type} [DecidableEq α] {a b:List α} (h:a.length≠b.length):decide (a=b)=false:=decide_eq_false (fun e=>h (by rw [e]))
section
variable {F:Nat}
theorem agD {a b:List Field} (bB:Small F a.length):B' F a b=some (decide (a=b)):=by
 unfold B'
 rw [m7]
 by_cases az:a.length=b.length
 · rw [decide_eq_true az]
   simp only [Bool.not_true,cond_false]
   rw [mB az bB.1 (L:=w5 a b) (fun k i x y aj hy=>by rw [w5,cH (List.getElem?_eq_some_iff.1 aj).1,cond_true,ch aj,Option.bind_some,ch hy,Option.bind_some]) (fun k=>by rw [w5,cG];rfl) bB.2,oI]
   by_cases h:a=b <;> simp [h]
 · rw [decide_eq_false az,q8 az];rfl
theorem aHM {a b:List Kind} (bB:Small F a.length):tD F a b=some (decide (a=b)):=by
 unfold tD
 rw [m7]
 by_cases az:a.length=b.length
 · rw [decide_eq_true az]
   simp only [Bool.not_true,cond_false]
   rw [mB az bB.1 (L:=oq a b) (fun k i x y aj hy=>by rw [oq,cH (List.getElem?_eq_some_iff.1 aj).1,cond_true,ch aj,Option.bind_some,ch hy,Option.bind_some]) (fun k=>by rw [oq,cG];rfl) bB.2,oI]
   by_cases h:a=b <;> simp [h]
 · rw [decide_eq_false az,q8 az];rfl
theorem aHP {l:List aO} (h:Fits F l):B_ F l l=some true:=by
 unfold B_
 rw [decide_eq_true rfl]
 simp only [Bool.not_true,cond_false]
 have l1:w2 F l l F 0 =some (dC (l.findSome? fun _=>(none:Option Bool))):=each (fun _=>none) h.1.1 (fun k i c aj=>by
  have hc:=h.2 c (List.mem_of_getElem? aj)
  have fO:w3 F c c F 0 =some (dC (c.aU.findSome? fun _=>(none:Option Bool))):=each (fun _=>none) hc.methods.1 (fun k i m hy=>by
   have hm:=hc.method m (List.mem_of_getElem? hy)
   have m1:w4 m m F 0 =some (dC (m.bN.findSome? fun _=>(none:Option Bool))):=each (fun _=>none) hm.xU.1 (fun k i x cV=>by
    rw [w4,cH (List.getElem?_eq_some_iff.1 cV).1,cond_true,ch cV,Option.bind_some,Option.bind_some,decide_eq_true rfl];rfl) (fun k=>by rw [w4,cG];rfl) hm.xU.2
   rw [w3,cH (List.getElem?_eq_some_iff.1 hy).1,cond_true,ch hy,Option.bind_some,Option.bind_some,aHM hm.args,Option.bind_some,m1,Ru]
   simp
   rfl) (fun k=>by rw [w3,cG];rfl) hc.methods.2
  rw [w2,cH (List.getElem?_eq_some_iff.1 aj).1,cond_true,ch aj,Option.bind_some,Option.bind_some,agD hc.fields,Option.bind_some,fO,Ru]
  simp
  rfl) (fun k=>by rw [w2,cG];rfl) h.1.2
 rw [l1,Ru];rfl
structure KD (F:Nat) (k:bt):Prop where
 b9:Small F k.aE.length
 fields:Small F k.Fields.length
 field:∀ x ∈ k.Fields,Small F x.length
 names:Small F k.Names.length
 name:∀ x ∈ k.Names,Small F x.length
 targets:Small F k.aD.length
 target:∀ x ∈ k.aD,Small F x.length
instance:DecidableEq (List (List Field)):=inferInstance
theorem aHN {a b:bt} (bB:KD F a) (hc:B_ F a.aG b.aG=some true) :
 Cb F a b=some (decide (a.aE=b.aE/\a.Fields=b.Fields/\a.Names=b.Names/\a.aD=b.aD)):=by
 unfold Cb
 rw [hc,Option.bind_some,m7,m7,m7,m7]
 have bZ:∀ (_: ¬ (a.aE=b.aE/\a.Fields=b.Fields/\a.Names=b.Names/\a.aD=b.aD)),decide (a.aE=b.aE/\a.Fields=b.Fields/\a.Names=b.Names/\a.aD=b.aD)=false:=fun h=>decide_eq_false h
 by_cases aB:b.aE.length=a.aE.length
 case neg=>rw [bZ (fun e=>aB (by rw [e.1])),decide_eq_false aB];rfl
 by_cases aR:a.Fields.length=b.Fields.length
 case neg=>rw [bZ (fun e=>aR (by rw [e.2.1])),decide_eq_true aB,decide_eq_false aR];rfl
 by_cases bT:a.Names.length=b.Names.length
 case neg=>rw [bZ (fun e=>bT (by rw [e.2.2.1])),decide_eq_true aB,decide_eq_true aR,decide_eq_false bT];rfl
 by_cases eo:a.aD.length=b.aD.length
 case neg=>rw [bZ (fun e=>eo (by rw [e.2.2.2])),decide_eq_true aB,decide_eq_true aR,decide_eq_true bT,decide_eq_false eo];rfl
 rw [decide_eq_true aB,decide_eq_true aR,decide_eq_true bT,decide_eq_true eo]
 simp only [Bool.not_true,Bool.or_self,cond_false]
 have l1:=mB (F:=F) aB.symm bB.b9.1 (L:=w6 a b) (fun k i x y aj hy=>by rw [w6,cH (List.getElem?_eq_some_iff.1 aj).1,cond_true,ch aj,Option.bind_some,ch hy,Option.bind_some]) (fun k=>by rw [w6,cG];rfl) bB.b9.2
 have fO:=mB (F:=F) aR bB.fields.1 (L:=w7 F a b) (fun k i x y aj hy=>by
  rw [w7,cH (List.getElem?_eq_some_iff.1 aj).1,cond_true,ch aj,Option.bind_some,ch hy,Option.bind_some,agD (bB.field x (List.mem_of_getElem? aj)),Option.bind_some]) (fun k=>by rw [w7,cG];rfl) bB.fields.2
 have m1:=mB (F:=F) bT bB.names.1 (L:=w8 F a b) (fun k i x y aj hy=>by
  have hE:=bB.name x (List.mem_of_getElem? aj)
  rw [w8,cH (List.getElem?_eq_some_iff.1 aj).1,cond_true,ch aj,Option.bind_some,ch hy,Option.bind_some,m7]
  by_cases az:x.length=y.length
  · rw [decide_eq_true az]
    simp only [Bool.not_true,cond_false]
    rw [mB (F:=F) az hE.1 (L:=w9 a b i) (fun k j u v hu ad=>by
     rw [w9,ch aj,Option.bind_some,cH (List.getElem?_eq_some_iff.1 hu).1,cond_true,Option.bind_some,ch hu,Option.bind_some,ch hy,Option.bind_some,ch ad,Option.bind_some]) (fun k=>by rw [w9,ch aj,Option.bind_some,cG];rfl) hE.2,acF]
    by_cases h:x=y
    · rw [if_pos h,decide_eq_true h];rfl
    · rw [if_neg h,decide_eq_false h];rfl
  · rw [decide_eq_false az,q8 az];rfl) (fun k=>by rw [w8,cG];rfl) bB.names.2
 have Xf:=mB (F:=F) eo bB.targets.1 (L:=w_ F a b) (fun k i x y aj hy=>by
  have hE:=bB.target x (List.mem_of_getElem? aj)
  rw [w_,cH (List.getElem?_eq_some_iff.1 aj).1,cond_true,ch aj,Option.bind_some,ch hy,Option.bind_some,m7]
  by_cases az:x.length=y.length
  · rw [decide_eq_true az]
    simp only [Bool.not_true,cond_false]
    rw [mB (F:=F) az hE.1 (L:=w' a b i) (fun k j u v hu ad=>by
     rw [w',ch aj,Option.bind_some,cH (List.getElem?_eq_some_iff.1 hu).1,cond_true,Option.bind_some,ch hu,Option.bind_some,ch hy,Option.bind_some,ch ad,Option.bind_some]) (fun k=>by rw [w',ch aj,Option.bind_some,cG];rfl) hE.2,acF]
    by_cases h:x=y
    · rw [if_pos h,decide_eq_true h];rfl
    · rw [if_neg h,decide_eq_false h];rfl
  · rw [decide_eq_false az,q8 az];rfl) (fun k=>by rw [w_,cG];rfl) bB.targets.2
 rw [l1,fO,m1,Xf,oI,oI,oI,oI]
 by_cases bL:a.aE=b.aE
 · by_cases b8:a.Fields=b.Fields
   · by_cases dR:a.Names=b.Names
     · by_cases fT:a.aD=b.aD <;> simp [bL,b8,dR,fT]
     · simp [dR]
   · simp [b8]
 · simp [bL]
end
section
variable {F:Nat} {l:List aO}
theorem aHy {β:Type} {f:Int->β} {n:Nat}:(rows f n).length=n:=by simp [rows]
end
end J
namespace J
section
variable {F:Nat}
theorem ak' {a b:List (Int)} (bB:Small F a.length):I' F a b=some (decide (a=b)):=by
 unfold I'
 rw [m7]
 by_cases az:a.length=b.length
 · rw [decide_eq_true az]
   simp only [Bool.not_true,cond_false]
   rw [mB az bB.1 (L:=y3 a b) (fun k i x y aj hy=>by rw [y3,cH (List.getElem?_eq_some_iff.1 aj).1,cond_true,ch aj,Option.bind_some,ch hy,Option.bind_some]) (fun k=>by rw [y3,cG];rfl) bB.2,oI]
   by_cases h:a=b <;> simp [h]
 · rw [decide_eq_false az,q8 az];rfl
theorem ak9 {a b:List (Field)} (bB:Small F a.length):I8 F a b=some (decide (a=b)):=by
 unfold I8
 rw [m7]
 by_cases az:a.length=b.length
 · rw [decide_eq_true az]
   simp only [Bool.not_true,cond_false]
   rw [mB az bB.1 (L:=y1 a b) (fun k i x y aj hy=>by rw [y1,cH (List.getElem?_eq_some_iff.1 aj).1,cond_true,ch aj,Option.bind_some,ch hy,Option.bind_some]) (fun k=>by rw [y1,cG];rfl) bB.2,oI]
   by_cases h:a=b <;> simp [h]
 · rw [decide_eq_false az,q8 az];rfl
theorem ala {a b:List (List UInt8)} (bB:Small F a.length):Ja F a b=some (decide (a=b)):=by
 unfold Ja
 rw [m7]
 by_cases az:a.length=b.length
 · rw [decide_eq_true az]
   simp only [Bool.not_true,cond_false]
   rw [mB az bB.1 (L:=y4 a b) (fun k i x y aj hy=>by rw [y4,cH (List.getElem?_eq_some_iff.1 aj).1,cond_true,ch aj,Option.bind_some,ch hy,Option.bind_some]) (fun k=>by rw [y4,cG];rfl) bB.2,oI]
   by_cases h:a=b <;> simp [h]
 · rw [decide_eq_false az,q8 az];rfl
theorem alc {a b:List (Target)} (bB:Small F a.length):I_ F a b=some (decide (a=b)):=by
 unfold I_
 rw [m7]
 by_cases az:a.length=b.length
 · rw [decide_eq_true az]
   simp only [Bool.not_true,cond_false]
   rw [mB az bB.1 (L:=y2 a b) (fun k i x y aj hy=>by rw [y2,cH (List.getElem?_eq_some_iff.1 aj).1,cond_true,ch aj,Option.bind_some,ch hy,Option.bind_some]) (fun k=>by rw [y2,cG];rfl) bB.2,oI]
   by_cases h:a=b <;> simp [h]
 · rw [decide_eq_false az,q8 az];rfl
theorem ak_ {a b:List (List Field)} (bB:Small F a.length) (aj:∀ x ∈ a,Small F x.length):I5 F a b=some (decide (a=b)):=by
 unfold I5
 rw [m7]
 by_cases az:a.length=b.length
 · rw [decide_eq_true az]
   simp only [Bool.not_true,cond_false]
   rw [mB az bB.1 (L:=yY F a b) (fun k i x y aB aR=>by rw [yY,cH (List.getElem?_eq_some_iff.1 aB).1,cond_true,ch aB,Option.bind_some,ch aR,Option.bind_some,ak9 (aj x (List.mem_of_getElem? aB)),Option.bind_some]) (fun k=>by rw [yY,cG];rfl) bB.2,oI]
   by_cases h:a=b <;> simp [h]
 · rw [decide_eq_false az,q8 az];rfl
theorem alb {a b:List (List (List UInt8))} (bB:Small F a.length) (aj:∀ x ∈ a,Small F x.length):I7 F a b=some (decide (a=b)):=by
 unfold I7
 rw [m7]
 by_cases az:a.length=b.length
 · rw [decide_eq_true az]
   simp only [Bool.not_true,cond_false]
   rw [mB az bB.1 (L:=y0 F a b) (fun k i x y aB aR=>by rw [y0,cH (List.getElem?_eq_some_iff.1 aB).1,cond_true,ch aB,Option.bind_some,ch aR,Option.bind_some,ala (aj x (List.mem_of_getElem? aB)),Option.bind_some]) (fun k=>by rw [y0,cG];rfl) bB.2,oI]
   by_cases h:a=b <;> simp [h]
 · rw [decide_eq_false az,q8 az];rfl
theorem ald {a b:List (List Target)} (bB:Small F a.length) (aj:∀ x ∈ a,Small F x.length):I6 F a b=some (decide (a=b)):=by
 unfold I6
 rw [m7]
 by_cases az:a.length=b.length
 · rw [decide_eq_true az]
   simp only [Bool.not_true,cond_false]
   rw [mB az bB.1 (L:=yZ F a b) (fun k i x y aB aR=>by rw [yZ,cH (List.getElem?_eq_some_iff.1 aB).1,cond_true,ch aB,Option.bind_some,ch aR,Option.bind_some,alc (aj x (List.mem_of_getElem? aB)),Option.bind_some]) (fun k=>by rw [yZ,cG];rfl) bB.2,oI]
   by_cases h:a=b <;> simp [h]
 · rw [decide_eq_false az,q8 az];rfl
theorem aHO {a b:bt} (bB:KD F a):Dy F a b=some (decide (a.aE=b.aE/\a.Fields=b.Fields/\a.Names=b.Names/\a.aD=b.aD)):=by
 unfold Dy
 rw [ak' bB.b9,Option.bind_some]
 by_cases bL:a.aE=b.aE
 case neg=>rw [decide_eq_false bL,decide_eq_false (fun e=>bL e.1)];rfl
 rw [decide_eq_true bL,cond_true,ak_ bB.fields bB.field,Option.bind_some]
 by_cases b8:a.Fields=b.Fields
 case neg=>rw [decide_eq_false b8,decide_eq_false (fun e=>b8 e.2.1)];rfl
 rw [decide_eq_true b8,cond_true,alb bB.names bB.name,Option.bind_some]
 by_cases dR:a.Names=b.Names
 case neg=>rw [decide_eq_false dR,decide_eq_false (fun e=>dR e.2.2.1)];rfl
 rw [decide_eq_true dR,cond_true,ald bB.targets bB.target,Option.bind_some]
 congr 1
 rw [Bool.eq_iff_iff]
 simp [bL,b8,dR]
theorem akw {k:bt} (bW:1100 <F) (hc:Fits F k.aG) (bh:KD F k):∃ e,o0 F k=some e/\tA F k=some e/\((e= 4)\/(e= 0 /\il k.aG/\k=linked k.aG)):=by
 obtain ⟨r,aB,aR,bT,eo⟩:=aF9 bW hc
 unfold o0 tA
 rw [aB,aR,Option.bind_some,Option.bind_some]
 by_cases bJ:r.2 = 0
 case neg=>rw [rI bJ,rI bJ];exact ⟨4,rfl,rfl,.inl rfl⟩
 obtain ⟨ld,e⟩:=bT bJ
 have s1:Dy F (⟨k.aG,k.aE,k.Fields,k.Names,k.aD⟩:bt) (⟨r.1.aG,r.1.aE,r.1.Fields,r.1.Names,r.1.aD⟩:bt)=some (decide (k.aE=r.1.aE/\k.Fields=r.1.Fields/\k.Names=r.1.Names/\k.aD=r.1.aD)):=aHO (a:=k) (b:=r.1) bh
 have s2:Cb F (⟨k.aG,k.aE,k.Fields,k.Names,k.aD⟩:bt) (⟨r.1.aG,r.1.aE,r.1.Fields,r.1.Names,r.1.aD⟩:bt)=some (decide (k.aE=r.1.aE/\k.Fields=r.1.Fields/\k.Names=r.1.Names/\k.aD=r.1.aD)):=aHN (a:=k) (b:=r.1) bh (by rw [e];exact aHP hc)
 rw [s1,s2,bJ];simp only [q7,Option.bind_some]
 by_cases a6:k.aE=r.1.aE/\k.Fields=r.1.Fields/\k.Names=r.1.Names/\k.aD=r.1.aD
 · rw [decide_eq_true a6]
   refine ⟨0,rfl,rfl,.inr ⟨rfl,ld,?_⟩⟩
   obtain ⟨bL,b8,dR,fT⟩:=a6
   rw [e] at bL b8 dR fT
   obtain ⟨a,b,c,d,f⟩:=k
   simp only at bL b8 dR fT
   subst bL b8 dR fT
   rfl
 · rw [decide_eq_false a6]
   exact ⟨4,rfl,rfl,.inl rfl⟩
end
end J
namespace J
def A0 (h:bp):Prop:=(3 <=h.aq/\h.aq<= 2000)/\(3 <=h.aA/\h.aA<= 2000)
def okB (h:bp):Prop:=(h.Words.length:Int)= 1 +h.aq+h.aA
def IF (h:bp):Prop:=(1 <=h.aP/\h.aP<=h.aq+ 1)/\(h.aq+ 1 <=h.aM/\h.aM<=h.aq+h.aA+ 1)/\ 1 <=h.Next
instance (h:bp):Decidable (A0 h):=inferInstanceAs (Decidable ((3 <=h.aq/\h.aq<= 2000)/\(3 <=h.aA/\h.aA<= 2000)))
instance (h:bp):Decidable (okB h):=inferInstanceAs (Decidable ((h.Words.length:Int)= 1 +h.aq+h.aA))
instance (h:bp):Decidable (IF h):=inferInstanceAs (Decidable ((1 <=h.aP/\h.aP<=h.aq+ 1)/\(h.aq+ 1 <=h.aM/\h.aM<=h.aq+h.aA+ 1)/\ 1 <=h.Next))
def nl (h:bp):Int:=if A0 h then (if okB h then (if IF h then 0 else 3) else 1) else 3
theorem aH0 (h:bp):C7 h=some (nl h):=by
 unfold C7 mS nl
 simp only [Option.bind_some]
 by_cases gf:A0 h
 case neg=>
  rw [if_neg gf]
  unfold A0 at gf
  by_cases a:3 <=h.aq/\h.aq<= 2000
  · have b: ¬ (3 <=h.aA/\h.aA<= 2000):=fun b=>gf ⟨a,b⟩
    rw [show (decide (3 <=h.aq) && decide (h.aq<= 2000))=true by simpa using a,show (decide (3 <=h.aA) && decide (h.aA<= 2000))=false by rw [Bool.eq_false_iff];simpa using b]
    rfl
  · rw [show (decide (3 <=h.aq) && decide (h.aq<= 2000))=false by rw [Bool.eq_false_iff];simpa using a]
    rfl
 rw [if_pos gf]
 unfold A0 at gf
 obtain ⟨⟨ej,e9⟩,a3,a4⟩:=gf
 rw [show (decide (3 <=h.aq) && decide (h.aq<= 2000))=true by simp;omega,show (decide (3 <=h.aA) && decide (h.aA<= 2000))=true by simp;omega,
  eC (n:=1 +h.aq) (by omega) (by omega),eC (n:=1 +h.aq+h.aA) (by omega) (by omega),eC (n:=h.aq+ 1) (by omega) (by omega),eC (n:=h.aq+h.aA) (by omega) (by omega),eC (n:=h.aq+h.aA+ 1) (by omega) (by omega)]
 simp only [Bool.not_true,cond_false]
 by_cases i_:okB h
 case neg=>
  rw [if_neg i_,show decide ((h.Words.length:Int)= 1 +h.aq+h.aA)=false from decide_eq_false i_];rfl
 rw [if_pos i_,show decide ((h.Words.length:Int)= 1 +h.aq+h.aA)=true from decide_eq_true i_]
 simp only [Bool.not_true,cond_false]
 by_cases py:IF h
 · rw [if_pos py]
   obtain ⟨d_,eb,fG⟩:=py
   rw [show (decide (1 <=h.aP) && decide (h.aP<=h.aq+ 1))=true by simpa using d_,show (decide (h.aq+ 1 <=h.aM) && decide (h.aM<=h.aq+h.aA+ 1))=true by simpa using eb,show decide (h.Next < 1)=false from decide_eq_false (by omega)]
   rfl
 · rw [if_neg py]
   by_cases d_:1 <=h.aP/\h.aP<=h.aq+ 1
   · rw [show (decide (1 <=h.aP) && decide (h.aP<=h.aq+ 1))=true by simpa using d_]
     by_cases eb:h.aq+ 1 <=h.aM/\h.aM<=h.aq+h.aA+ 1
     · have fG:h.Next < 1 :=by
        rcases Int.lt_or_le h.Next 1 with c | c
        · exact c
        · exact absurd ⟨d_,eb,c⟩ py
       rw [decide_eq_true fG,Bool.or_true];rfl
     · rw [show (decide (h.aq+ 1 <=h.aM) && decide (h.aM<=h.aq+h.aA+ 1))=false by rw [Bool.eq_false_iff];simpa using eb]
       rfl
   · rw [show (decide (1 <=h.aP) && decide (h.aP<=h.aq+ 1))=false by rw [Bool.eq_false_iff];simpa using d_]
     rfl
structure jm (h:bp):Prop where
 A:A0 h
 B:okB h
 C:IF h
theorem YN {h:bp}:nl h= 0 ↔ jm h:=by
 unfold nl
 constructor
 · intro e
   split at e
   · split at e
     · split at e
       · exact ⟨‹_›,‹_›,‹_›⟩
       · cases e
     · cases e
   · cases e
 · rintro ⟨a,b,c⟩
   rw [if_pos a,if_pos b,if_pos c]
section
variable {F:Nat} {k:bt} {W:List Int}
theorem gZ.mem {to q:Nat} {L:List Int} (h:gZ k W to q L):∀ a ∈ L,∃ n:Nat,a=(n:Int)/\q<=n/\n+ 3 +(wd W (n+ 1)).toNat<=to/\iw k (wd W n)=true/\isLen k (wd W n) (wd W (n+ 1))=true:=by
 induction h with
 | nil=>intro a bB;cases bB
 | cons aB aR bT _ ct=>
   intro a bB
   rcases List.mem_cons.1 bB with rfl | bB
   · exact ⟨_,rfl,Nat.le_refl _,bT,aB,aR⟩
   · obtain ⟨n,e,eo,hL⟩:=ct a bB
     exact ⟨n,e,by omega,hL⟩
theorem gZ.y8 {to q:Nat} {L L':List Int} (h:gZ k W to q L) (dN:gZ k W to q L'):L=L':=by
 induction h generalizing L' with
 | nil=>
   cases dN with
   | nil=>rfl
   | cons _ _ _ _=>omega
 | cons _ _ bT _ ct=>
   cases dN with
   | nil=>omega
   | cons _ _ _ eo=>rw [ct eo]
theorem gZ.len {to q:Nat} {L:List Int} (h:gZ k W to q L):3 *L.length+q<=to:=by
 induction h with
 | nil=>simp
 | cons _ _ bT _ ct=>simp only [List.length_cons];omega
theorem agP {l:List Int} {N:Nat} (h:qU l) (bJ:∀ i,i <l.length-> 0 <=wd l i/\wd l i <N):l.length<=N:=by
 have key:∀ i,i <l.length->(i:Int)<=wd l i:=by
  intro i
  induction i with
  | zero=>intro hi;exact (bJ 0 hi).1
  | succ i ct=>
    intro hi
    have:=h i (i+ 1) (by omega) hi
    have:=ct (by omega)
    omega
 rcases Nat.eq_zero_or_pos l.length with e | e
 · omega
 · have:=key (l.length - 1) (by omega)
   have:=(bJ (l.length - 1) (by omega)).2
   omega
theorem Xs (x:Int):∀ A:List Int,(du (A.map fun a=>(a,true)) x).getD false=decide (x ∈ A)
 | []=>by simp [du]
 | a::r=>by
   rw [List.map_cons,du]
   by_cases e:a=x
   · simp [e]
   · rw [if_neg e,Xs x r]
     have: ¬ x=a:=fun h=>e h.symm
     simp [this]
def view (h:bp) (k:bt) (Y O:List Int):cl:=⟨h,⟨k⟩,Y,O,(Y++O).map fun a=>(a,true)⟩
structure im (h:bp) (k:bt) (Y O:List Int):Prop where
 y:gZ k h.Words h.aP.toNat 1 Y
 o:gZ k h.Words h.aM.toNat (h.aq+ 1).toNat O
theorem jm.k2 {h:bp} (a6:jm h):h.Words.length<= 4001 :=by
 obtain ⟨⟨⟨a,b⟩,c,d⟩,e,_⟩:=a6
 unfold okB at e;omega
theorem im.N8 {h:bp} {Y O:List Int} (bh:h2 k) (a6:jm h) (az:im h k Y O):ou (view h k Y O):=by
 have hw:=a6.k2
 obtain ⟨⟨⟨ej,e9⟩,a3,a4⟩,b,⟨d_,eb⟩,⟨fG,iZ⟩,la⟩:=a6
 unfold okB at b
 refine ⟨bh,by show h.Words.length<= 4900;omega,?_,fun a bB=>?_,fun x=>Xs x _⟩
 · have:=az.y.len;have:=az.o.len
   show Y.length+O.length<= 5000
   omega
 · have bB:a ∈ Y++O:=bB
   rcases List.mem_append.1 bB with bB | bB
   · obtain ⟨n,rfl,aB,aR,bT,eo⟩:=az.y.mem a bB
     exact ⟨by omega,by show ((n:Int).toNat)+ 3 +(wd h.Words ((n:Int).toNat+ 1)).toNat<=h.Words.length;rw [Int.toNat_natCast];omega,by rw [Int.toNat_natCast];exact bT,by rw [Int.toNat_natCast];exact eo⟩
   · obtain ⟨n,rfl,aB,aR,bT,eo⟩:=az.o.mem a bB
     exact ⟨by omega,by show ((n:Int).toNat)+ 3 +(wd h.Words ((n:Int).toNat+ 1)).toNat<=h.Words.length;rw [Int.toNat_natCast];omega,by rw [Int.toNat_natCast];exact bT,by rw [Int.toNat_natCast];exact eo⟩
def gr (v:cl):Int:=if (v.aq++v.aA).any (jP v) then 3 else if ((v.aq++v.aA).map (a6 v.H.Words)).Nodup then 0 else 6
def s8 (v:cl):Int:=if (v.aq++v.aA).any (n0 v) then 5 else if (free v.H).any (fun x=>!decide (x= 0)) then 1 else 0
def yN (v:cl):Int:=if (List.range v.H.au.length).any (jF v) || v.aA.any (ps v) then 4 else 0
def n8 (v:cl):Int:=if gr v= 0 then (if s8 v= 0 then yN v else s8 v) else gr v
inductive Spec (h:bp) (k:bt):Option cl × Int->Prop
 | size: ¬ jm h->Spec h k (none,nl h)
 | form:jm h->(∀ Y O,¬ im h k Y O)->Spec h k (none,1)
 | rest {Y O:List Int}:jm h->im h k Y O->Spec h k (if n8 (view h k Y O)= 0 then some (view h k Y O) else none,n8 (view h k Y O))
theorem Xz (bW:10000 <F) {h:bp} (bh:h2 k) (af:Small F h.au.length):∃ r,x0 F h k=some r/\Spec h k r:=by
 unfold x0
 have iE:C7 (⟨h.Words,h.aq,h.aA,h.aP,h.aM,h.au,h.Next⟩:bp)=some (nl h):=aH0 h
 rw [iE,Option.bind_some]
 by_cases a6:jm h
 case neg=>
  rw [rI (fun e=>a6 (YN.1 e))]
  exact ⟨_,rfl,.size a6⟩
 rw [YN.2 a6,q7]
 have hw:=a6.k2
 have dL:=a6
 obtain ⟨⟨⟨ej,e9⟩,a3,a4⟩,b,⟨d_,eb⟩,⟨fG,iZ⟩,la⟩:=a6
 unfold okB at b
 have t1:=agV (F:=F) (by omega) (⟨h,⟨k⟩,[],[],[]⟩:cl) bh (q:=1) (to:=h.aP.toNat) (by omega) (by show _<=h.Words.length;omega) (by show h.Words.length<= 5000;omega) (fun p b0=>by cases b0)
 rw [show ((h.aP.toNat:Nat):Int)=h.aP by omega] at t1
 rw [eC (n:=h.aq+ 1) (by omega) (by omega)]
 rcases t1 with ⟨Y,LX,bL⟩ | ⟨mW,h9,bL⟩
 case inr=>
  have bL:mR F (⟨(⟨h.Words,h.aq,h.aA,h.aP,h.aM,h.au,h.Next⟩:bp),(⟨(⟨k.aG,k.aE,k.Fields,k.Names,k.aD⟩:bt)⟩:dn),[],[],[]⟩:cl) 1 h.aP=some ([],false,(⟨h,⟨k⟩,[],[],h9⟩:cl)):=bL
  rw [bL,Option.bind_some]
  have t2:∃ r,mR F (⟨(⟨h.Words,h.aq,h.aA,h.aP,h.aM,h.au,h.Next⟩:bp),(⟨(⟨k.aG,k.aE,k.Fields,k.Names,k.aD⟩:bt)⟩:dn),[],[],h9⟩:cl) (h.aq+ 1) h.aM=some r:=by
   unfold mR
   have key:∀ (f q:Nat) (acc:List Int) (m:List (Int × Bool)),q<=h.aM.toNat->h.aM.toNat - q <f->acc.length+(h.aM.toNat - q)<= 5000 -> ∃ r,ri h.aM (⟨h,⟨k⟩,[],[],h9⟩:cl) f acc m (q:Int)=some r:=by
    intro f
    induction f with
    | zero=>intro q acc m _ ea;omega
    | succ f ct=>
      intro q acc m ea I ul
      rw [ri]
      by_cases dP:(q:Int) <h.aM
      case neg=>rw [decide_eq_false dP];exact ⟨_,rfl⟩
      rw [decide_eq_true dP,cond_true,eC (n:=(q:Int)+ 3) (by omega) (by omega)]
      by_cases bT:h.aM <(q:Int)+ 3
      · rw [decide_eq_true bT];exact ⟨_,rfl⟩
      rw [decide_eq_false bT,cond_false]
      show ∃ r,(idx h.Words (q:Int)).bind _=some r
      rw [ll (by omega),Option.bind_some]
      show ∃ r,(idx h.Words (av ((q:Int)+ 1))).bind _=some r
      rw [eC (n:=(q:Int)+ 1) (by omega) (by omega),jQ (i:=q+ 1) (by omega) (by omega),Option.bind_some]
      have bL:ux (⟨(⟨k.aG,k.aE,k.Fields,k.Names,k.aD⟩:bt)⟩:dn) (wd h.Words q)=some (iw k (wd h.Words q)):=agL bh _
      show ∃ r,(ux (⟨(⟨k.aG,k.aE,k.Fields,k.Names,k.aD⟩:bt)⟩:dn) (wd h.Words q)).bind _=some r
      rw [bL,Option.bind_some]
      cases bP:iw k (wd h.Words q) with
      | false=>exact ⟨_,rfl⟩
      | true=>
        have b8:uy (⟨(⟨k.aG,k.aE,k.Fields,k.Names,k.aD⟩:bt)⟩:dn) (wd h.Words q) (wd h.Words (q+ 1))=some (isLen k (wd h.Words q) (wd h.Words (q+ 1))):=agM bh bP _
        rw [Bool.not_true,cond_false]
        show ∃ r,(uy (⟨(⟨k.aG,k.aE,k.Fields,k.Names,k.aD⟩:bt)⟩:dn) (wd h.Words q) (wd h.Words (q+ 1))).bind _=some r
        rw [b8,Option.bind_some]
        cases az:isLen k (wd h.Words q) (wd h.Words (q+ 1)) with
        | false=>exact ⟨_,rfl⟩
        | true=>
          obtain ⟨⟨Dt,l1⟩,_⟩:=yo.1 az
          rw [Bool.not_true,Bool.false_or,eC (n:=(q:Int)+ 3 +wd h.Words (q+ 1)) (by omega) (by omega)]
          by_cases uC:h.aM <(q:Int)+ 3 +wd h.Words (q+ 1)
          · rw [decide_eq_true uC];exact ⟨_,rfl⟩
          rw [decide_eq_false uC,cond_false,h3 (by simp;omega),Option.bind_some,eC (n:=3 +wd h.Words (q+ 1)) (by omega) (by omega),eC (n:=(q:Int)+(3 +wd h.Words (q+ 1))) (by omega) (by omega),
           show (q:Int)+(3 +wd h.Words (q+ 1))=((q+ 3 +(wd h.Words (q+ 1)).toNat:Nat):Int) by omega]
          exact ct _ _ _ (by omega) (by omega) (by simp;omega)
   obtain ⟨r,bQ⟩:=key F (h.aq+ 1).toNat [] h9 (by omega) (by omega) (by simp;omega)
   rw [show (((h.aq+ 1).toNat:Nat):Int)=h.aq+ 1 by omega] at bQ
   have bQ:ri h.aM (⟨(⟨h.Words,h.aq,h.aA,h.aP,h.aM,h.au,h.Next⟩:bp),(⟨(⟨k.aG,k.aE,k.Fields,k.Names,k.aD⟩:bt)⟩:dn),[],[],h9⟩:cl) F [] h9 (h.aq+ 1)=some r:=bQ
   rw [bQ]
   cases r <;> exact ⟨_,rfl⟩
  obtain ⟨r,b8⟩:=t2
  rw [b8,Option.bind_some]
  exact ⟨_,rfl,.form dL (fun Y O az=>mW Y az.y)⟩
 have bL:mR F (⟨(⟨h.Words,h.aq,h.aA,h.aP,h.aM,h.au,h.Next⟩:bp),(⟨(⟨k.aG,k.aE,k.Fields,k.Names,k.aD⟩:bt)⟩:dn),[],[],[]⟩:cl) 1 h.aP=some (Y,true,(⟨h,⟨k⟩,[],[],Y.map fun a=>(a,true)⟩:cl)):=bL
 rw [bL,Option.bind_some]
 have t2:=agV (F:=F) (by omega) (⟨h,⟨k⟩,[],[],Y.map fun a=>(a,true)⟩:cl) bh (q:=(h.aq+ 1).toNat) (to:=h.aM.toNat) (by omega) (by show _<=h.Words.length;omega) (by show h.Words.length<= 5000;omega) (fun p b0=>by
  obtain ⟨a,bB,rfl⟩:=List.mem_map.1 b0
  have apt:gZ k h.Words h.aP.toNat 1 Y:=LX
  obtain ⟨n,rfl,aB,aR,_⟩:=apt.mem a bB
  show (n:Int) <_
  omega)
 rw [show ((h.aM.toNat:Nat):Int)=h.aM by omega,show (((h.aq+ 1).toNat:Nat):Int)=h.aq+ 1 by omega] at t2
 rcases t2 with ⟨O,mM,b8⟩ | ⟨mW,h9,b8⟩
 case inr=>
  have b8:mR F (⟨(⟨h.Words,h.aq,h.aA,h.aP,h.aM,h.au,h.Next⟩:bp),(⟨(⟨k.aG,k.aE,k.Fields,k.Names,k.aD⟩:bt)⟩:dn),[],[],Y.map fun a=>(a,true)⟩:cl) (h.aq+ 1) h.aM=_:=b8
  show ∃ r,(mR F (⟨(⟨h.Words,h.aq,h.aA,h.aP,h.aM,h.au,h.Next⟩:bp),(⟨(⟨k.aG,k.aE,k.Fields,k.Names,k.aD⟩:bt)⟩:dn),[],[],Y.map fun a=>(a,true)⟩:cl) (h.aq+ 1) h.aM).bind _=some r/\_
  rw [b8,Option.bind_some]
  exact ⟨_,rfl,.form dL (fun Ft B5 az=>mW B5 az.o)⟩
 have b8:mR F (⟨(⟨h.Words,h.aq,h.aA,h.aP,h.aM,h.au,h.Next⟩:bp),(⟨(⟨k.aG,k.aE,k.Fields,k.Names,k.aD⟩:bt)⟩:dn),[],[],Y.map fun a=>(a,true)⟩:cl) (h.aq+ 1) h.aM=some (O,true,(⟨h,⟨k⟩,[],[],(Y.map fun a=>(a,true))++O.map fun a=>(a,true)⟩:cl)):=b8
 show ∃ r,(mR F (⟨(⟨h.Words,h.aq,h.aA,h.aP,h.aM,h.au,h.Next⟩:bp),(⟨(⟨k.aG,k.aE,k.Fields,k.Names,k.aD⟩:bt)⟩:dn),[],[],Y.map fun a=>(a,true)⟩:cl) (h.aq+ 1) h.aM).bind _=some r/\_
 rw [b8,Option.bind_some,<-List.map_append]
 have az:im h k Y O:=⟨LX,mM⟩
 have ad:=az.N8 bh dL
 have j9:C4 F (⟨(⟨h.Words,h.aq,h.aA,h.aP,h.aM,h.au,h.Next⟩:bp),(⟨(⟨k.aG,k.aE,k.Fields,k.Names,k.aD⟩:bt)⟩:dn),Y,O,(Y++O).map fun a=>(a,true)⟩:cl)=some (gr (view h k Y O)):=
  apA bW (view h k Y O) ad.sv (fun a bB=>⟨(ad.rU a bB).pos,by have:=(ad.rU a bB).fit;omega⟩) (by have:=ad.k2;omega) (by simp [view])
 have Bm:C6 F (⟨(⟨h.Words,h.aq,h.aA,h.aP,h.aM,h.au,h.Next⟩:bp),(⟨(⟨k.aG,k.aE,k.Fields,k.Names,k.aD⟩:bt)⟩:dn),Y,O,(Y++O).map fun a=>(a,true)⟩:cl)=some (s8 (view h k Y O)):=
  aIu bW ad (by show 0 <=h.aq;omega) ⟨by show 0 <=h.aP;omega,by show h.aP<=h.aq+ 1;omega,by show h.aq+ 1 <=h.Words.length;omega⟩ ⟨by show 0 <=h.aM;omega,by show h.aM<=h.Words.length;omega⟩
 have aIA:C5 F (⟨(⟨h.Words,h.aq,h.aA,h.aP,h.aM,h.au,h.Next⟩:bp),(⟨(⟨k.aG,k.aE,k.Fields,k.Names,k.aD⟩:bt)⟩:dn),Y,O,(Y++O).map fun a=>(a,true)⟩:cl)=some (yN (view h k Y O)):=
  aGz bW ad af.1 af.2 (fun oQ=>by
   refine Nat.le_trans (agP (N:=5000) (YO fun i hi=>?_) (fun i hi=>?_)) (by omega)
   · have:=oQ (i+ 1) hi
     unfold jF at this
     simp only [Bool.or_eq_false_iff,Bool.and_eq_false_iff,decide_eq_false_iff_not,Nat.add_sub_cancel] at this
     rcases this.1 with z | z
     · omega
     · have z: ¬ wd h.au (i+ 1)<=wd h.au i:=z
       show wd h.au i <wd h.au (i+ 1);omega
   · have:=oQ i hi
     unfold jF rH at this
     simp only [Bool.or_eq_false_iff] at this
     have hm:wd (view h k Y O).H.au i ∈ (view h k Y O).aq++(view h k Y O).aA:=by
      have:=this.2.1.1
      simp only [Bool.not_eq_false'] at this
      exact of_decide_eq_true this
     have bP:=ad.rU _ hm
     have aB:0 <=wd h.au i:=bP.pos
     have aR:(wd h.au i).toNat+ 3 +(wd h.Words ((wd h.au i).toNat+ 1)).toNat<=h.Words.length:=bP.fit
     exact ⟨aB,by show wd h.au i <((5000 :Nat):Int);omega⟩)
 simp only [Bool.not_true,Bool.or_self,cond_false]
 rw [j9,Option.bind_some]
 by_cases hH:gr (view h k Y O)= 0
 case neg=>
  rw [rI hH]
  have ev:n8 (view h k Y O)=gr (view h k Y O):=by unfold n8;rw [if_neg hH]
  have:=Spec.rest dL az
  rw [ev,if_neg hH] at this
  exact ⟨_,rfl,this⟩
 rw [hH,q7,Bm,Option.bind_some]
 by_cases iy:s8 (view h k Y O)= 0
 case neg=>
  rw [rI iy]
  have ev:n8 (view h k Y O)=s8 (view h k Y O):=by unfold n8;rw [if_pos hH,if_neg iy]
  have:=Spec.rest dL az
  rw [ev,if_neg iy] at this
  exact ⟨_,rfl,this⟩
 rw [iy,q7,aIA,Option.bind_some]
 have ev:n8 (view h k Y O)=yN (view h k Y O):=by unfold n8;rw [if_pos hH,if_pos iy]
 have sK:=Spec.rest dL az
 rw [ev] at sK
 by_cases nX:yN (view h k Y O)= 0
 · rw [nX] at sK ⊢
   rw [q7]
   exact ⟨_,rfl,sK⟩
 · rw [rI nX]
   rw [if_neg nX] at sK
   exact ⟨_,rfl,sK⟩
end
end J
namespace J
theorem Y1 {W:List Int} {p j:Nat} {x:Int} (b0:p <W.length):wd (W.set p x) j=if j=p then x else wd W j:=by
 unfold wd
 rw [List.getElem?_set]
 by_cases e:j=p
 · subst e;simp [b0]
 · have: ¬ p=j:=fun h=>e h.symm
   simp [e,this]
theorem af3 {h:bp} {x:Int} (hy:0 <=h.aq) (aj:x ∈ free h):∃ i:Nat,i <h.Words.length/\(i= 0 \/(h.aP<=i/\(i:Int)<=h.aq)\/h.aM<=i)/\x=wd h.Words i:=by
 unfold free at aj
 rw [List.mem_append,List.mem_append] at aj
 rcases aj with aj | aj | aj
 · obtain ⟨i,hi,e⟩:=List.getElem_of_mem aj
   have x1:i < 1 /\i <h.Words.length:=by rw [List.length_take] at hi;omega
   refine ⟨i,x1.2,.inl (by omega),?_⟩
   rw [<-e,List.getElem_take];exact (rX (List.getElem?_eq_getElem x1.2)).symm
 · obtain ⟨i,hi,e⟩:=List.getElem_of_mem aj
   have x1:i <min (h.aq+ 1).toNat h.Words.length - h.aP.toNat:=by simpa using hi
   have aR:h.aP.toNat+i <h.Words.length:=by omega
   refine ⟨h.aP.toNat+i,aR,.inr (.inl ⟨by omega,by omega⟩),?_⟩
   rw [<-e,List.getElem_drop,List.getElem_take];exact (rX (List.getElem?_eq_getElem aR)).symm
 · obtain ⟨i,hi,e⟩:=List.getElem_of_mem aj
   have x1:i <h.Words.length - h.aM.toNat:=by simpa using hi
   have aR:h.aM.toNat+i <h.Words.length:=by omega
   refine ⟨h.aM.toNat+i,aR,.inr (.inr (by omega)),?_⟩
   rw [<-e,List.getElem_drop];exact (rX (List.getElem?_eq_getElem aR)).symm
theorem adg {h:bp} (bJ:0 <=h.aP/\ 0 <=h.aM) {i:Nat} (hi:i <h.Words.length) (hc:i= 0 \/(h.aP<=i/\(i:Int)<=h.aq)\/h.aM<=i):wd h.Words i ∈ free h:=by
 have key:wd h.Words i=h.Words[i]:=rX (List.getElem?_eq_getElem hi)
 unfold free
 rw [List.mem_append,List.mem_append,key]
 rcases hc with rfl | ⟨aB,aR⟩ | aB
 · left
   rw [List.mem_iff_getElem?]
   exact ⟨0,by rw [List.getElem?_take,if_pos (by omega)];exact List.getElem?_eq_getElem hi⟩
 · right;left
   rw [List.mem_iff_getElem?]
   refine ⟨i - h.aP.toNat,?_⟩
   rw [List.getElem?_drop,List.getElem?_take,if_pos (by omega),show h.aP.toNat+(i - h.aP.toNat)=i by omega]
   exact List.getElem?_eq_getElem hi
 · right;right
   rw [List.mem_iff_getElem?]
   refine ⟨i - h.aM.toNat,?_⟩
   rw [List.getElem?_drop,show h.aM.toNat+(i - h.aM.toNat)=i by omega]
   exact List.getElem?_eq_getElem hi
structure Fi (h:bp) (k:bt) (Y O:List Int):Prop where
 hash:∀ a ∈ Y++O,1 <=a6 h.Words a/\a6 h.Words a <h.Next
 nodup:((Y++O).map (a6 h.Words)).Nodup
 ref:∀ a ∈ Y++O,∀ w ∈ refs k h.Words a.toNat,wd h.Words w.toNat= 0 \/wd h.Words w.toNat ∈ Y++O
 b5:∀ i:Nat,i <h.Words.length->(i= 0 \/(h.aP<=i/\(i:Int)<=h.aq)\/h.aM<=i)->wd h.Words i= 0
 NZ:qU h.au
 rJ:∀ x ∈ h.au,x ∈ O/\refs k h.Words x.toNat≠ []
 must:∀ a ∈ O,¬ a ∈ h.au-> ∀ w ∈ refs k h.Words a.toNat,¬ (0 <wd h.Words w.toNat/\wd h.Words w.toNat<=h.aq)
section
variable {F:Nat} {k:bt} {h:bp} {Y O:List Int}
theorem im.JT (a6:jm h) (az:im h k Y O):∀ a ∈ Y,1 <=a/\a.toNat+ 3 +(wd h.Words (a.toNat+ 1)).toNat<=h.aP.toNat:=fun a bB=>by
 obtain ⟨n,rfl,aB,aR,_⟩:=az.y.mem a bB
 exact ⟨by omega,by rw [Int.toNat_natCast];exact aR⟩
theorem im.IG (a6:jm h) (az:im h k Y O):∀ a ∈ O,h.aq+ 1 <=a/\a.toNat+ 3 +(wd h.Words (a.toNat+ 1)).toNat<=h.aM.toNat:=fun a bB=>by
 obtain ⟨n,rfl,aB,aR,_⟩:=az.o.mem a bB
 have:=a6.A.1.1
 exact ⟨by omega,by rw [Int.toNat_natCast];exact aR⟩
theorem ag3 (bh:h2 k) (dL:jm h) (az:im h k Y O):n8 (view h k Y O)= 0 ↔ Fi h k Y O:=by
 have ad:=az.N8 bh dL
 obtain ⟨⟨⟨ej,e9⟩,a3,a4⟩,b,⟨d_,eb⟩,⟨fG,iZ⟩,la⟩:=id dL
 have hy:=az.JT dL;have br:=az.IG dL
 have bL:gr (view h k Y O)= 0 ↔ (∀ a ∈ Y++O,jP (view h k Y O) a=false)/\((Y++O).map (a6 h.Words)).Nodup:=by
  unfold gr
  show (if (Y++O).any (jP (view h k Y O)) then (3 :Int) else if ((Y++O).map (a6 h.Words)).Nodup then 0 else 6)= 0 ↔ _
  cases aY:(Y++O).any (jP (view h k Y O)) with
  | true=>
    rw [if_pos rfl]
    refine ⟨fun e=>(by cases e),fun ⟨e,_⟩=>?_⟩
    obtain ⟨x,aj,b8⟩:=List.any_eq_true.1 aY
    rw [e x aj] at b8;cases b8
  | false=>
    rw [if_neg (by decide)]
    rw [List.any_eq_false] at aY
    have iK:∀ a ∈ Y++O,jP (view h k Y O) a=false:=fun a bB=>by simpa using aY a bB
    split
    · rename_i af;exact ⟨fun _=>⟨iK,af⟩,fun _=>rfl⟩
    · rename_i af;exact ⟨fun e=>(by cases e),fun e=>absurd e.2 af⟩
 have b8:s8 (view h k Y O)= 0 ↔ (∀ a ∈ Y++O,n0 (view h k Y O) a=false)/\ ∀ x ∈ free h,x= 0 :=by
  unfold s8
  show (if (Y++O).any (n0 (view h k Y O)) then (5 :Int) else if (free h).any (fun x=>!decide (x= 0)) then 1 else 0)= 0 ↔ _
  cases aY:(Y++O).any (n0 (view h k Y O)) with
  | true=>
    rw [if_pos rfl]
    refine ⟨fun e=>(by cases e),fun ⟨e,_⟩=>?_⟩
    obtain ⟨x,aj,b8⟩:=List.any_eq_true.1 aY
    rw [e x aj] at b8;cases b8
  | false=>
    rw [if_neg (by decide)]
    rw [List.any_eq_false] at aY
    have iK:∀ a ∈ Y++O,n0 (view h k Y O) a=false:=fun a bB=>by simpa using aY a bB
    cases I:(free h).any (fun x=>!decide (x= 0)) with
    | true=>
      rw [if_pos rfl]
      refine ⟨fun e=>(by cases e),fun ⟨_,e⟩=>?_⟩
      obtain ⟨x,aj,b8⟩:=List.any_eq_true.1 I
      rw [e x aj] at b8;cases b8
    | false=>
      rw [if_neg (by decide)]
      rw [List.any_eq_false] at I
      exact ⟨fun _=>⟨iK,fun x aj=>by simpa using I x aj⟩,fun _=>rfl⟩
 have dR:yN (view h k Y O)= 0 ↔ (∀ i,i <h.au.length->jF (view h k Y O) i=false)/\ ∀ a ∈ O,ps (view h k Y O) a=false:=by
  unfold yN
  show (if (List.range h.au.length).any (jF (view h k Y O)) || O.any (ps (view h k Y O)) then (4 :Int) else 0)= 0 ↔ _
  cases aY:(List.range h.au.length).any (jF (view h k Y O)) with
  | true=>
    rw [Bool.true_or,if_pos rfl]
    refine ⟨fun e=>(by cases e),fun ⟨e,_⟩=>?_⟩
    obtain ⟨x,aj,b8⟩:=List.any_eq_true.1 aY
    rw [e x (by simpa using aj)] at b8;cases b8
  | false=>
    rw [Bool.false_or]
    rw [List.any_eq_false] at aY
    have iK:∀ i,i <h.au.length->jF (view h k Y O) i=false:=fun i hi=>by simpa using aY i (by simpa using hi)
    cases I:O.any (ps (view h k Y O)) with
    | true=>
      rw [if_pos rfl]
      refine ⟨fun e=>(by cases e),fun ⟨_,e⟩=>?_⟩
      obtain ⟨x,aj,b8⟩:=List.any_eq_true.1 I
      rw [e x aj] at b8;cases b8
    | false=>
      rw [if_neg (by decide)]
      rw [List.any_eq_false] at I
      exact ⟨fun _=>⟨iK,fun x aj=>by simpa using I x aj⟩,fun _=>rfl⟩
 have fT:n8 (view h k Y O)= 0 ↔ gr (view h k Y O)= 0 /\s8 (view h k Y O)= 0 /\yN (view h k Y O)= 0 :=by
  unfold n8
  by_cases hH:gr (view h k Y O)= 0
  · rw [if_pos hH]
    by_cases iy:s8 (view h k Y O)= 0
    · rw [if_pos iy];exact ⟨fun e=>⟨hH,iy,e⟩,fun e=>e.2.2⟩
    · rw [if_neg iy];exact ⟨fun e=>absurd e iy,fun e=>absurd e.2.1 iy⟩
  · rw [if_neg hH];exact ⟨fun e=>absurd e hH,fun e=>absurd e.1 hH⟩
 rw [fT,bL,b8,dR]
 have AA:∀ x,(rH (view h k Y O) x=false) ↔ x ∈ O/\refs k h.Words x.toNat≠ []:=fun x=>by
  unfold rH kv
  show ((!decide (x ∈ Y++O) || (decide (0 <x) && decide (x<=h.aq))) || (refs k h.Words x.toNat).isEmpty)=false ↔ _
  rw [Bool.or_eq_false_iff,Bool.or_eq_false_iff]
  constructor
  · rintro ⟨⟨aB,aR⟩,bT⟩
    have aB:x ∈ Y++O:=by simp only [Bool.not_eq_false'] at aB;exact of_decide_eq_true aB
    refine ⟨?_,fun e=>by rw [e] at bT;cases bT⟩
    rcases List.mem_append.1 aB with eo | eo
    · have:=hy x eo
      rw [decide_eq_true (by omega),decide_eq_true (by omega)] at aR
      cases aR
    · exact eo
  · rintro ⟨aB,aR⟩
    have:=br x aB
    refine ⟨⟨?_,?_⟩,?_⟩
    · rw [decide_eq_true (List.mem_append_right _ aB)];rfl
    · rw [decide_eq_false (p:=x<=h.aq) (by omega),Bool.and_false]
    · cases e:refs k h.Words x.toNat with
      | nil=>exact absurd e aR
      | cons _ _=>rfl
 constructor
 · rintro ⟨⟨aB,aR⟩,⟨bT,eo⟩,hL,ud⟩
   refine ⟨fun a bB=>?_,aR,fun a bB w hw=>?_,fun i hi hc=>eo _ (adg ⟨by omega,by omega⟩ hi hc),YO fun i hi=>?_,fun x aj=>?_,fun a bB af w hw=>?_⟩
   · have:=aB a bB
     unfold jP at this
     rw [Bool.or_eq_false_iff,decide_eq_false_iff_not,decide_eq_false_iff_not] at this
     have t1: ¬ a6 h.Words a < 1 :=this.1
     have t2: ¬ h.Next<=a6 h.Words a:=this.2
     omega
   · have:=bT a bB
     unfold n0 at this
     rw [List.any_eq_false] at this
     have zW:=this w hw
     unfold s9 at zW
     by_cases e:wd h.Words w.toNat= 0
     · exact .inl e
     · refine .inr ?_
       by_cases b8:wd h.Words w.toNat ∈ Y++O
       · exact b8
       · refine absurd ?_ zW
         show (!decide (wd h.Words w.toNat= 0) && !decide (wd h.Words w.toNat ∈ Y++O))=true
         rw [decide_eq_false e,decide_eq_false b8];rfl
   · have:=hL (i+ 1) hi
     unfold jF at this
     simp only [Bool.or_eq_false_iff,Bool.and_eq_false_iff,decide_eq_false_iff_not,Nat.add_sub_cancel] at this
     rcases this.1 with z | z
     · omega
     · have z: ¬ wd h.au (i+ 1)<=wd h.au i:=z
       omega
   · obtain ⟨i,hi,e⟩:=M1 aj
     have:=hL i hi
     unfold jF at this
     rw [Bool.or_eq_false_iff] at this
     have zW:rH (view h k Y O) (wd h.au i)=false:=this.2
     rw [e] at zW
     exact (AA x).1 zW
   · rintro ⟨Ez,P1⟩
     have:=ud a bB
     unfold ps at this
     have this:(!decide (a ∈ h.au) && (refs k h.Words a.toNat).any fun w=>kv (view h k Y O) (wd h.Words w.toNat))=false:=this
     rw [decide_eq_false af,Bool.not_false,Bool.true_and,List.any_eq_false] at this
     refine this w hw ?_
     show (decide (0 <wd h.Words w.toNat) && decide (wd h.Words w.toNat<=h.aq))=true
     rw [decide_eq_true Ez,decide_eq_true P1];rfl
 · intro g
   refine ⟨⟨fun a bB=>?_,g.nodup⟩,⟨fun a bB=>?_,fun x aj=>?_⟩,fun i hi=>?_,fun a bB=>?_⟩
   · have:=g.hash a bB
     show (decide (a6 h.Words a < 1) || decide (h.Next<=a6 h.Words a))=false
     rw [decide_eq_false (by omega),decide_eq_false (by omega)];rfl
   · show ((refs k h.Words a.toNat).any (s9 (view h k Y O)))=false
     rw [List.any_eq_false]
     intro w hw
     show ¬ (!decide (wd h.Words w.toNat= 0) && !decide (wd h.Words w.toNat ∈ Y++O))=true
     rcases g.ref a bB w hw with e | e
     · rw [decide_eq_true e];simp
     · rw [decide_eq_true e];simp
   · obtain ⟨i,hi,hc,e⟩:=af3 (by omega) aj
     rw [e];exact g.b5 i hi hc
   · show ((decide (0 <i) && decide (wd h.au i<=wd h.au (i - 1))) || rH (view h k Y O) (wd h.au i))=false
     rw [(AA _).2 (g.rJ _ (N9 hi)),Bool.or_false]
     by_cases bJ:0 <i
     · have:=g.NZ (i - 1) i (by omega) hi
       rw [decide_eq_false (p:=wd h.au i<=wd h.au (i - 1)) (by omega),Bool.and_false]
     · rw [decide_eq_false bJ];rfl
   · show (!decide (a ∈ h.au) && (refs k h.Words a.toNat).any fun w=>kv (view h k Y O) (wd h.Words w.toNat))=false
     by_cases af:a ∈ h.au
     · rw [decide_eq_true af];rfl
     · rw [decide_eq_false af,Bool.not_false,Bool.true_and,List.any_eq_false]
       intro w hw e
       have e:(decide (0 <wd h.Words w.toNat) && decide (wd h.Words w.toNat<=h.aq))=true:=e
       simp only [Bool.and_eq_true,decide_eq_true_eq] at e
       exact g.must a bB af w hw e
theorem gZ.apart {W:List Int} {to q:Nat} {L:List Int} (h:gZ k W to q L):∀ a ∈ L,∀ b ∈ L,a≠b->a.toNat+ 3 +(wd W (a.toNat+ 1)).toNat<=b.toNat\/b.toNat+ 3 +(wd W (b.toNat+ 1)).toNat<=a.toNat:=by
 induction h with
 | nil=>intro a bB;cases bB
 | cons aB aR bT hw ct=>
   intro a bB b aY eN
   rcases List.mem_cons.1 bB with rfl | bB
   · rcases List.mem_cons.1 aY with rfl | aY
     · exact absurd rfl eN
     · obtain ⟨n,rfl,eo,_⟩:=hw.mem b aY
       left;simp only [Int.toNat_natCast];exact eo
   · rcases List.mem_cons.1 aY with rfl | aY
     · obtain ⟨n,rfl,eo,_⟩:=hw.mem a bB
       right;simp only [Int.toNat_natCast];exact eo
     · exact ct a bB b aY eN
theorem im.apart (a6:jm h) (az:im h k Y O):∀ a ∈ Y++O,∀ b ∈ Y++O,a≠b->a.toNat+ 3 +(wd h.Words (a.toNat+ 1)).toNat<=b.toNat\/b.toNat+ 3 +(wd h.Words (b.toNat+ 1)).toNat<=a.toNat:=by
 intro a bB b aY eN
 have hc:=a6.C.1.2
 rcases List.mem_append.1 bB with bB | bB <;> rcases List.mem_append.1 aY with aY | aY
 · exact az.y.apart a bB b aY eN
 · have:=az.JT a6 a bB;have:=az.IG a6 b aY;left;omega
 · have:=az.IG a6 a bB;have:=az.JT a6 b aY;right;omega
 · exact az.o.apart a bB b aY eN
theorem gZ.congr {W kg:List Int} {to q:Nat} {L:List Int} (h:gZ k W to q L) (he:∀ a ∈ L,wd kg a.toNat=wd W a.toNat/\wd kg (a.toNat+ 1)=wd W (a.toNat+ 1)):gZ k kg to q L:=by
 induction h with
 | nil=>exact .nil
 | @cons q r aB aR bT hw ct=>
   obtain ⟨bL,b8⟩:=he _ List.mem_cons_self
   simp only [Int.toNat_natCast] at bL b8
   have:=ct (fun a bB=>he a (List.mem_cons_of_mem _ bB))
   rw [<-b8] at this bT aR
   rw [<-bL] at aB aR
   exact .cons aB aR bT this
theorem aHv {W kg:List Int} {q:Nat} (aB:wd kg q=wd W q) (aR:wd kg (q+ 1)=wd W (q+ 1)):refs k kg q=refs k W q:=by unfold refs;rw [aB,aR]
end
end J
namespace J
section
variable {F:Nat} {k:bt}
theorem aG5 (h:h2 k) (t:Int):B9 k t=some (iw k t):=by
 have hc:=h.Rb
 unfold B9 iw
 rw [eC (by omega) (by omega),Option.some.injEq,Bool.eq_iff_iff]
 simp;omega
theorem aG3 (h:h2 k) {t:Int} (bP:iw k t=true) (n:Int):B8 k t n=some (isLen k t n):=by
 unfold B8 gC isLen
 simp only [Option.bind_some]
 cases aY:(decide (0 <=n) && decide (n<= 500)) with
 | false=>simp
 | true=>
   by_cases bT:t < 3
   · simp [bT]
   · rw [N2 h bP bT];simp [bT]
theorem Yw (h:h2 k) {t:Int} (bP:iw k t=true) {n:Int} (af:isLen k t n=true) {j:Nat} (bb:(j:Int) <n):sm k t (j:Int)=some (hd k t j):=by
 unfold sm hd
 obtain ⟨_,az⟩:=yo.1 af
 by_cases aR:t= 2
 · simp [aR]
 by_cases bT:t < 3
 · have: ¬ 3 <=t:=by omega
   simp [aR,this]
 · have az:=az.resolve_left bT
   have RC:3 <=t:=by omega
   have C_:j <(Bc k t).length:=by omega
   rw [N2 h bP bT,Option.bind_some,ch (List.getElem?_eq_getElem C_),List.getElem?_eq_getElem C_]
   simp [aR,RC]
theorem gZ.le {W:List Int} {to q:Nat} {L:List Int} (h:gZ k W to q L):q<=to:=by
 cases h with
 | nil=>exact Nat.le_refl _
 | cons aB aR bT eo=>omega
theorem alv (h:bp) (a6:h2 k) {to:Nat} (AI:to<=h.Words.length) (jz:h.Words.length<= 5000):∀ (f q:Nat) (acc:List Int),to - q <f->q<= 6000 ->acc.length+(to - q)<= 6000 ->
 (∃ L,gZ k h.Words to q L/\tG h k (to:Int) f acc (q:Int)=some (.go (acc++L,(to:Int)))) \/
 ((∀ L,¬ gZ k h.Words to q L)/\(tG h k (to:Int) f acc (q:Int)=some (.out ([],false))\/ ∃ x,tG h k (to:Int) f acc (q:Int)=some (.go x)/\x.2 ≠(to:Int))):=by
 intro f
 induction f with
 | zero=>intro q acc h;omega
 | succ f ct=>
   intro q acc I ea ul
   rw [tG]
   by_cases dP:q <to
   case neg=>
    by_cases e:q=to
    · subst e
      refine .inl ⟨[],.nil,?_⟩
      rw [cG];simp
    · rw [show decide ((q:Int) <(to:Int))=false from decide_eq_false (by omega)]
      exact .inr ⟨fun L hD=>by have:=hD.le;omega,.inr ⟨(acc,(q:Int)),rfl,by show (q:Int)≠(to:Int);omega⟩⟩
   rw [cH dP,cond_true,eC (n:=(q:Int)+ 3) (by omega) (by omega)]
   by_cases bT:(to:Int) <(q:Int)+ 3
   · rw [decide_eq_true bT]
     refine .inr ⟨fun L hD=>?_,.inl rfl⟩
     obtain ⟨_,_,_,_,h,_⟩:=hD.inv dP
     omega
   rw [decide_eq_false bT,cond_false,ll (by omega),Option.bind_some]
   have bL:B9 (⟨k.aG,k.aE,k.Fields,k.Names,k.aD⟩:bt) (wd h.Words q)=some (iw k (wd h.Words q)):=aG5 a6 _
   rw [bL,Option.bind_some]
   cases bP:iw k (wd h.Words q) with
   | false=>
     refine .inr ⟨fun L hD=>?_,.inl rfl⟩
     obtain ⟨_,_,h,_⟩:=hD.inv dP
     rw [bP] at h;cases h
   | true=>
     have b8:B8 (⟨k.aG,k.aE,k.Fields,k.Names,k.aD⟩:bt) (wd h.Words q) (wd h.Words (q+ 1))=some (isLen k (wd h.Words q) (wd h.Words (q+ 1))):=aG3 a6 bP _
     rw [Bool.not_true,cond_false,Option.bind_some,eC (n:=(q:Int)+ 1) (by omega) (by omega),jQ (i:=q+ 1) (by omega) (by omega),Option.bind_some,b8,Option.bind_some]
     cases az:isLen k (wd h.Words q) (wd h.Words (q+ 1)) with
     | false=>
       refine .inr ⟨fun L hD=>?_,.inl rfl⟩
       obtain ⟨_,_,_,h,_⟩:=hD.inv dP
       rw [az] at h;cases h
     | true=>
       obtain ⟨⟨Dt,l1⟩,_⟩:=yo.1 az
       rw [Bool.not_true,cond_false,h3 (by simp;omega),Option.bind_some,Option.bind_some,eC (n:=3 +wd h.Words (q+ 1)) (by omega) (by omega),eC (n:=(q:Int)+(3 +wd h.Words (q+ 1))) (by omega) (by omega)]
       rw [show (q:Int)+(3 +wd h.Words (q+ 1))=((q+ 3 +(wd h.Words (q+ 1)).toNat:Nat):Int) by omega]
       rcases ct (q+ 3 +(wd h.Words (q+ 1)).toNat) (acc++[(q:Int)]) (by omega) (by omega) (by simp;omega) with ⟨L,hD,e⟩ | ⟨af,e⟩
       · refine .inl ⟨(q:Int)::L,.cons bP az hD.le hD,?_⟩
         rw [e];simp
       · refine .inr ⟨fun L hD=>?_,e⟩
         obtain ⟨r,_,_,_,_,h⟩:=hD.inv dP
         exact af r h
theorem agq (bW:6000 <F) (h:bp) (a6:h2 k) {to q:Nat} (ea:q<= 5000) (AI:to<=h.Words.length) (jz:h.Words.length<= 5000) :
 (∃ L,gZ k h.Words to q L/\qS F h k (q:Int) (to:Int)=some (L,true))\/((∀ L,¬ gZ k h.Words to q L)/\ ∃ l,qS F h k (q:Int) (to:Int)=some (l,false)):=by
 unfold qS
 rcases alv h a6 AI jz F q [] (by omega) (by omega) (by simp;omega) with ⟨L,hD,e⟩ | ⟨af,e | ⟨x,e,aj⟩⟩
 · exact .inl ⟨L,hD,by rw [e,qw];simp⟩
 · exact .inr ⟨af,[],by rw [e,agJ]⟩
 · exact .inr ⟨af,x.1,by rw [e,qw];show some (x.1,decide (x.2 =(to:Int)))=_;rw [decide_eq_false aj]⟩
theorem adh {α ρ:Type} {p:α->Bool} {e:ρ}:∀ l:List α,l.findSome? (fun x=>if p x then some e else none)=if l.any p then some e else none
 | []=>rfl
 | x::r=>by
   rw [List.findSome?_cons,List.any_cons]
   cases p x with
   | true=>rfl
   | false=>simp only [Bool.false_or];exact adh r
theorem DZ {l:List Int} (az:Small F l.length) (n:Int):nv F l n=some (decide (n ∈ l)):=by
 unfold nv
 have l1:w1 l n F 0 =some (dC (l.findSome? fun x=>if decide (x=n) then some true else none)):=each _ az.1 (fun f i x aj=>by
  rw [w1,cH (List.getElem?_eq_some_iff.1 aj).1,cond_true,ch aj,Option.bind_some]
  cases decide (x=n) <;> rfl) (fun f=>by rw [w1,cG];rfl) az.2
 rw [l1,adh]
 by_cases e:n ∈ l
 · rw [show (l.any fun x=>decide (x=n))=true from List.any_eq_true.2 ⟨n,e,by simp⟩,decide_eq_true e];rfl
 · rw [show (l.any fun x=>decide (x=n))=false from List.any_eq_false.2 fun x aj=>by simp;rintro rfl;exact e aj,decide_eq_false e];rfl
theorem aG4 (bW:6000 <F) (h:bp) (a6:h2 k) {q:Nat} (ea:q+ 3 +(wd h.Words (q+ 1)).toNat<=h.Words.length) (jz:h.Words.length<= 5000) (bP:iw k (wd h.Words q)=true) (az:isLen k (wd h.Words q) (wd h.Words (q+ 1))=true) :
 sj F h k (q:Int)=some (refs k h.Words q):=by
 obtain ⟨⟨Dt,l1⟩,_⟩:=yo.1 az
 unfold sj
 generalize af:(wd h.Words (q+ 1)).toNat=n at ea
 have Gh:wd h.Words (q+ 1)=(n:Int):=by omega
 have pG:=az
 rw [Gh] at pG
 have l1:=tI (l:=List.range n) (fun f acc i=>sk (q:Int) h k f acc (i:Int)) (fun j=>if hd k (wd h.Words q) j then [((q+ 3 +j:Nat):Int)] else []) 1 5000 (fun x _=>by split <;> simp) (fun f i x acc aj bB=>by
  have hi:i <n:=by have:=(List.getElem?_eq_some_iff.1 aj).1;simpa using this
  rw [List.getElem?_range hi] at aj
  simp only [Option.some.injEq] at aj
  subst aj
  rw [sk,eC (n:=(q:Int)+ 1) (by omega) (by omega),jQ (i:=q+ 1) (by omega) (by omega),Option.bind_some,Gh,cH hi,cond_true,ll (by omega),Option.bind_some]
  have bL:sm (⟨k.aG,k.aE,k.Fields,k.Names,k.aD⟩:bt) (wd h.Words q) (i:Int)=some (hd k (wd h.Words q) i):=Yw a6 bP pG (by omega)
  rw [bL,Option.bind_some]
  show _=sk (q:Int) h k f _ _
  cases hd k (wd h.Words q) i with
  | true=>
    rw [cond_true,eC (n:=(q:Int)+ 3) (by omega) (by omega),eC (n:=(q:Int)+ 3 +i) (by omega) (by omega),h3 (by simp;omega),Option.bind_some,Option.bind_some,gK hi (by omega),if_pos rfl]
    congr 2
  | false=>
    rw [cond_false,Option.bind_some,gK hi (by omega),if_neg (by decide),List.append_nil]) (fun f acc=>by
  rw [List.length_range,sk,eC (n:=(q:Int)+ 1) (by omega) (by omega),jQ (i:=q+ 1) (by omega) (by omega),Option.bind_some,Gh,cG];rfl) (F:=F) (by simp;omega) (acc:=[]) (by simp;omega)
 have l1:sk (q:Int) h k F [] 0 =_:=l1
 rw [l1,Option.bind_some,List.nil_append,refs,af]
theorem agr (bW:6000 <F) {h:bp} (bh:h2 k) (a6:jm h):(∃ Y O,im h k Y O/\qT F h k=some (Y,O,true))\/((∀ Y O,¬ im h k Y O)/\ ∃ Y O,qT F h k=some (Y,O,false)):=by
 have hw:=a6.k2
 obtain ⟨⟨⟨ej,e9⟩,a3,a4⟩,b,⟨d_,eb⟩,⟨fG,iZ⟩,la⟩:=id a6
 unfold okB at b
 unfold qT
 have t1:=agq (F:=F) bW h bh (q:=1) (to:=h.aP.toNat) (by omega) (by omega) (by omega)
 have t2:=agq (F:=F) bW h bh (q:=(h.aq+ 1).toNat) (to:=h.aM.toNat) (by omega) (by omega) (by omega)
 rw [show ((h.aP.toNat:Nat):Int)=h.aP by omega] at t1
 rw [show ((h.aM.toNat:Nat):Int)=h.aM by omega,show (((h.aq+ 1).toNat:Nat):Int)=h.aq+ 1 by omega] at t2
 rw [eC (n:=h.aq+ 1) (by omega) (by omega)]
 have N4:∀ r,qS F h k 1 h.aP=some r->qS F (⟨h.Words,h.aq,h.aA,h.aP,h.aM,h.au,h.Next⟩:bp) (⟨k.aG,k.aE,k.Fields,k.Names,k.aD⟩:bt) 1 h.aP=some r:=fun r e=>e
 have aIm:∀ r,qS F h k (h.aq+ 1) h.aM=some r->qS F (⟨h.Words,h.aq,h.aA,h.aP,h.aM,h.au,h.Next⟩:bp) (⟨k.aG,k.aE,k.Fields,k.Names,k.aD⟩:bt) (h.aq+ 1) h.aM=some r:=fun r e=>e
 rcases t1 with ⟨Y,LX,bL⟩ | ⟨DC,Y,bL⟩ <;> rcases t2 with ⟨O,mM,b8⟩ | ⟨AY,O,b8⟩ <;> rw [N4 _ bL,Option.bind_some,aIm _ b8,Option.bind_some]
 · exact .inl ⟨Y,O,⟨LX,mM⟩,rfl⟩
 · exact .inr ⟨fun Y O h=>AY _ h.o,Y,O,rfl⟩
 · exact .inr ⟨fun Y O h=>DC _ h.y,Y,O,rfl⟩
 · exact .inr ⟨fun Y O h=>DC _ h.y,Y,O,rfl⟩
end
end J
namespace J
section
variable {F:Nat} {k:bt} {h:bp} {Y O:List Int}
theorem Vz {b:Bool} {e:Int} {K:Option (Way Int Unit)}:hP (if b=true then some e else none) K=cond b (some (.out e)) K:=by cases b <;> rfl
theorem aG6 (bW:10000 <F) (aB:1 <=h.Next) (af:h.Next<= 9223372036854775807) (ad:ou (view h k Y O)):wG h (Y++O) F 0 =some (dC (if (Y++O).any (jP (view h k Y O)) then some 3 else none)):=by
 have hc:Y.length+O.length<= 5000 :=ad.sv
 have hw:h.Words.length<= 4900 :=ad.k2
 rw [<-nG]
 exact each _ (by simp;omega) (fun f i a bB=>by
  have hm:=List.mem_of_getElem? bB
  have bP:qV (view h k Y O) a:=ad.rU a hm
  have bJ:0 <=a:=bP.pos
  have aR:a.toNat+ 3 +(wd h.Words (a.toNat+ 1)).toNat<=h.Words.length:=bP.fit
  rw [wG,cH (List.getElem?_eq_some_iff.1 bB).1,cond_true,ch bB,Option.bind_some,eC (n:=a+ 2) (by omega) (by omega),jQ (i:=a.toNat+ 2) (by omega) (by omega),Option.bind_some]
  unfold gC
  rw [Option.bind_some,eC (n:=h.Next - 1) (by omega) (by omega),Vz]
  congr 1
  show _=(decide (wd h.Words (a.toNat+ 2) < 1) || decide (h.Next<=wd h.Words (a.toNat+ 2)))
  rw [Bool.eq_iff_iff];simp;omega) (fun f=>by rw [wG,cG];rfl) (by simp;omega)
theorem aGw {l:List Int}:(List.range l.length).any (fun i=>(List.range i).any fun j=>decide (wd l i=wd l j))= !decide l.Nodup:=by
 rw [Bool.eq_iff_iff,List.any_eq_true]
 simp only [List.mem_range,List.any_eq_true,decide_eq_true_eq,Bool.not_eq_true',decide_eq_false_iff_not]
 rw [List.Nodup,List.pairwise_iff_getElem]
 constructor
 · rintro ⟨i,hi,j,bb,e⟩ b0
   have:=b0 j i (by omega) hi bb
   rw [rX (List.getElem?_eq_getElem hi),rX (List.getElem?_eq_getElem (by omega:j <l.length))] at e
   exact this e.symm
 · intro b0
   apply Classical.byContradiction
   intro eN
   refine b0 fun j i bb hi ja e=>eN ⟨i,hi,j,ja,?_⟩
   rw [rX (List.getElem?_eq_getElem hi),rX (List.getElem?_eq_getElem bb)];exact e.symm
theorem aG7 (bW:10000 <F) (ad:ou (view h k Y O)):tt F h (Y++O) F 0 =some (dC (if ((Y++O).map (a6 h.Words)).Nodup then none else some 6)):=by
 have hc:Y.length+O.length<= 5000 :=ad.sv
 have hw:h.Words.length<= 4900 :=ad.k2
 have az:(Y++O).length<= 5000 :=by simp;omega
 have at_:∀ i,i <(Y++O).length->idx (Y++O) (i:Int)=some (wd (Y++O) i)/\idx h.Words (av (wd (Y++O) i+ 2))=some (wd ((Y++O).map (a6 h.Words)) i):=fun i hi=>by
  have bL:wd (Y++O) i=(Y++O)[i]:=rX (List.getElem?_eq_getElem hi)
  have bP:qV (view h k Y O) (Y++O)[i]:=ad.rU _ (List.getElem_mem hi)
  have bJ:0 <=(Y++O)[i]:=bP.pos
  have aR:(Y++O)[i].toNat+ 3 +(wd h.Words ((Y++O)[i].toNat+ 1)).toNat<=h.Words.length:=bP.fit
  refine ⟨ll hi,?_⟩
  rw [bL,eC (by omega) (by omega),jQ (i:=(Y++O)[i].toNat+ 2) (by omega) (by omega)]
  refine congrArg some (rX ?_).symm
  rw [List.getElem?_map,List.getElem?_eq_getElem hi];rfl
 have l1:tt F h (Y++O) F 0 =some (dC ((List.range (Y++O).length).findSome? fun i=>if (List.range i).any (fun j=>decide (wd ((Y++O).map (a6 h.Words)) i=wd ((Y++O).map (a6 h.Words)) j)) then some 6 else none)):=kN _ (by omega) (fun f i hi=>by
  rw [tt,cH hi,cond_true]
  have fO:wH h (Y++O) (i:Int) F 0 =some (dC ((List.range i).findSome? fun j=>if decide (wd ((Y++O).map (a6 h.Words)) i=wd ((Y++O).map (a6 h.Words)) j) then some 6 else none)):=kN _ (by omega) (fun eR j bb=>by
   rw [wH,cH bb,cond_true,(at_ i hi).1,Option.bind_some,(at_ i hi).2,Option.bind_some,(at_ j (by omega)).1,Option.bind_some,(at_ j (by omega)).2,Option.bind_some]
   cases decide (wd ((Y++O).map (a6 h.Words)) i=wd ((Y++O).map (a6 h.Words)) j) <;> rfl) (fun eR=>by rw [wH,cG];rfl) (by omega)
  rw [fO,nG]
  cases (List.range i).any (fun j=>decide (wd ((Y++O).map (a6 h.Words)) i=wd ((Y++O).map (a6 h.Words)) j)) <;> rfl) (fun f=>by rw [tt,cG];rfl) (by omega)
 rw [l1,nG]
 have e:=aGw (l:=(Y++O).map (a6 h.Words))
 rw [List.length_map] at e
 rw [e]
 by_cases bZ:((Y++O).map (a6 h.Words)).Nodup
 · rw [if_pos bZ,decide_eq_true bZ];rfl
 · rw [if_neg bZ,decide_eq_false bZ];rfl
theorem YR (bW:10000 <F) (ad:ou (view h k Y O)) {a:Int} (bB:a ∈ Y++O):sj F (⟨h.Words,h.aq,h.aA,h.aP,h.aM,h.au,h.Next⟩:bp) (⟨k.aG,k.aE,k.Fields,k.Names,k.aD⟩:bt) a=some (refs k h.Words a.toNat):=by
 have bP:qV (view h k Y O) a:=ad.rU a bB
 have hw:h.Words.length<= 4900 :=ad.k2
 have:=aG4 (F:=F) (by omega) h ad.rT (q:=a.toNat) bP.fit (by omega) bP.tag bP.len
 rwa [show ((a.toNat:Nat):Int)=a by have:=bP.pos;omega] at this
theorem aG8 (bW:10000 <F) (ad:ou (view h k Y O)):wI F h k (Y++O) F 0 =some (dC (if (Y++O).any (n0 (view h k Y O)) then some 5 else none)):=by
 have hc:Y.length+O.length<= 5000 :=ad.sv
 have hw:h.Words.length<= 4900 :=ad.k2
 rw [<-nG]
 exact each _ (by simp;omega) (fun f i a bB=>by
  have hm:=List.mem_of_getElem? bB
  have bP:qV (view h k Y O) a:=ad.rU a hm
  have Vb:(refs k h.Words a.toNat).length<= 5000 :=NH ad bP
  rw [wI,cH (List.getElem?_eq_some_iff.1 bB).1,cond_true,ch bB,Option.bind_some,YR bW ad hm,Option.bind_some]
  have fO:tu F h (Y++O) (refs k h.Words a.toNat) F 0 =some (dC ((refs k h.Words a.toNat).findSome? fun w=>if s9 (view h k Y O) w then some 5 else none)):=each _ (by omega) (fun eR AL w hl=>by
   have gG:=List.mem_of_getElem? hl
   have aj:idx h.Words w=some (wd h.Words w.toNat):=bP.NG gG
   rw [tu,cH (List.getElem?_eq_some_iff.1 hl).1,cond_true,ch hl,Option.bind_some,aj,Option.bind_some,Option.bind_some,aj,Option.bind_some,DZ ⟨by simp;omega,by simp;omega⟩,Option.bind_some]
   show _=hP (if (!decide (wd h.Words w.toNat= 0) && !decide (wd h.Words w.toNat ∈ Y++O))=true then some 5 else none) _
   cases decide (wd h.Words w.toNat= 0) <;> cases decide (wd h.Words w.toNat ∈ Y++O) <;> rfl) (fun eR=>by rw [tu,cG];rfl) (by omega)
  rw [fO,nG]
  show _=hP (if (refs k h.Words a.toNat).any (s9 (view h k Y O)) then some 5 else none) _
  cases (refs k h.Words a.toNat).any (s9 (view h k Y O)) <;> rfl) (fun f=>by rw [wI,cG];rfl) (by simp;omega)
theorem aG9 (bW:10000 <F) (dL:jm h):sg h F 0 =some (dC (if (free h).any (fun x=>!decide (x= 0)) then some 1 else none)):=by
 have hw:=dL.k2
 obtain ⟨⟨⟨ej,e9⟩,a3,a4⟩,b,⟨d_,eb⟩,⟨fG,iZ⟩,la⟩:=id dL
 have l1:sg h F 0 =some (dC ((List.range h.Words.length).findSome? fun i=>if (!decide (wd h.Words i= 0) && (decide ((i:Int)= 0) || ((decide (h.aP<=(i:Int)) && decide ((i:Int)<=h.aq)) || decide (h.aM<=(i:Int))))) then some 1 else none)):=kN _ (by omega) (fun f i hi=>by
  rw [sg,cH hi,cond_true,ll hi,Option.bind_some]
  unfold gC
  rw [Option.bind_some]
  cases decide (wd h.Words i= 0) <;> cases decide ((i:Int)= 0) <;> cases ((decide (h.aP<=(i:Int)) && decide ((i:Int)<=h.aq)) || decide (h.aM<=(i:Int))) <;> rfl) (fun f=>by rw [sg,cG];rfl) (by omega)
 rw [l1,nG]
 refine congrArg (fun b:Bool=>some (dC (if b=true then some 1 else none))) ?_
 rw [Bool.eq_iff_iff,List.any_eq_true,List.any_eq_true]
 constructor
 · rintro ⟨i,hi,e⟩
   simp only [Bool.and_eq_true,Bool.or_eq_true,Bool.not_eq_true',decide_eq_false_iff_not,decide_eq_true_eq] at e
   rw [List.mem_range] at hi
   exact ⟨wd h.Words i,adg ⟨by omega,by omega⟩ hi (by rcases e.2 with e | e | e;exact .inl (by omega);exact .inr (.inl e);exact .inr (.inr e)),by simpa using e.1⟩
 · rintro ⟨x,aj,e⟩
   obtain ⟨i,hi,hc,rfl⟩:=af3 (by omega) aj
   refine ⟨i,List.mem_range.2 hi,?_⟩
   simp only [Bool.and_eq_true,Bool.or_eq_true,Bool.not_eq_true',decide_eq_false_iff_not,decide_eq_true_eq] at e ⊢
   exact ⟨e,by rcases hc with e | e | e;exact .inl (by omega);exact .inr (.inl e);exact .inr (.inr e)⟩
theorem agb (dL:jm h) (az:im h k Y O) {x:Int}:x ∈ O ↔ x ∈ Y++O/\kv (view h k Y O) x=false:=by
 obtain ⟨⟨⟨ej,e9⟩,a3,a4⟩,b,⟨d_,eb⟩,⟨fG,iZ⟩,la⟩:=id dL
 have e:kv (view h k Y O) x=(decide (0 <x) && decide (x<=h.aq)):=rfl
 rw [e]
 constructor
 · intro aj
   have:=az.IG dL x aj
   exact ⟨List.mem_append.2 (.inr aj),by simp;omega⟩
 · rintro ⟨aj,e⟩
   rcases List.mem_append.1 aj with aj | aj
   · have:=az.JT dL x aj
     simp at e;omega
   · exact aj
theorem aHb (bW:10000 <F) (dL:jm h) (az:im h k Y O) (ad:ou (view h k Y O)) (x:Int) (Z:Option Int) (apu:Z=some x) (K:Option (Way Int Unit)):((nv F O x).bind fun DW=>
 cond (!DW) (some (.out 4)) (Z.bind fun Ef=>
 (sj F (⟨h.Words,h.aq,h.aA,h.aP,h.aM,h.au,h.Next⟩:bp) (⟨k.aG,k.aE,k.Fields,k.Names,k.aD⟩:bt) Ef).bind fun IY=>
 cond (decide ((IY.length:Int)= 0)) (some (.out 4)) K))=hP (if rH (view h k Y O) x then some 4 else none) K:=by
 have hc:Y.length+O.length<= 5000 :=ad.sv
 subst apu
 rw [DZ ⟨by omega,by omega⟩,Option.bind_some,Vz]
 have e:rH (view h k Y O) x=(!decide (x ∈ Y++O) || kv (view h k Y O) x || (refs k h.Words x.toNat).isEmpty):=rfl
 rw [e]
 by_cases aj:x ∈ O
 · obtain ⟨aB,aR⟩:=(agb dL az).1 aj
   rw [decide_eq_true aj,decide_eq_true aB,aR,Bool.not_true,cond_false,Option.bind_some,YR bW ad aB,Option.bind_some]
   cases refs k h.Words x.toNat with
   | nil=>rfl
   | cons a r=>rw [decide_eq_false (by simp;omega)];rfl
 · rw [decide_eq_false aj]
   have:(!decide (x ∈ Y++O) || kv (view h k Y O) x)=true:=by
    cases bZ:decide (x ∈ Y++O) with
    | false=>rfl
    | true=>
      cases hy:kv (view h k Y O) x with
      | true=>rfl
      | false=>exact absurd ((agb dL az).2 ⟨of_decide_eq_true bZ,hy⟩) aj
   rw [this];rfl
theorem aG_ (bW:10000 <F) (dL:jm h) (az:im h k Y O) (ad:ou (view h k Y O)) (af:Small F h.au.length):sh F h k (Y,O,true) F 0 =some (dC (if (List.range h.au.length).any (jF (view h k Y O)) then some 4 else none)):=by
 rw [<-nG]
 exact kN _ af.1 (fun f i hi=>by
  rw [sh,cH hi,cond_true]
  have e:jF (view h k Y O) i=((decide (0 <i) && decide (wd h.au i<=wd h.au (i - 1))) || rH (view h k Y O) (wd h.au i)):=rfl
  have bQ:=aHb bW dL az ad (wd h.au i) (idx h.au (i:Int)) (ll hi) (sh F h k (Y,O,true) f (av ((i:Int)+ 1)))
  rw [e]
  have aLh:=af.1
  by_cases bJ:0 <i
  · rw [show decide ((0 :Int) <(i:Int))=true from decide_eq_true (by omega),cond_true]
    rw [show ∀ K:Int->Option (Way Int Unit),(idx h.au (i:Int)).bind K=K (wd h.au i) from fun K=>by rw [ll hi];rfl]
    rw [eC (n:=(i:Int) - 1) (by omega) (by omega),jQ (i:=i - 1) (by omega) (by omega),Option.bind_some,decide_eq_true bJ,Bool.true_and]
    cases decide (wd h.au i<=wd h.au (i - 1)) with
    | true=>rfl
    | false=>
      rw [cond_false,Bool.false_or,<-bQ]
      rw [ll hi];rfl
  · rw [show decide ((0 :Int) <(i:Int))=false from decide_eq_false (by omega),cond_false,decide_eq_false bJ,Bool.false_and,Bool.false_or,<-bQ]
    rw [ll hi];rfl) (fun f=>by rw [sh,cG];rfl) af.2
theorem aG' (bW:10000 <F) (ad:ou (view h k Y O)) (af:Small F h.au.length):wJ F h k (Y,O,true) F 0 =some (dC (if O.any (ps (view h k Y O)) then some 4 else none)):=by
 have hc:Y.length+O.length<= 5000 :=ad.sv
 rw [<-nG]
 exact each _ (by omega) (fun f i a bB=>by
  have hm:=List.mem_append.2 (Or.inr (a:=a ∈ Y) (List.mem_of_getElem? bB))
  have bP:qV (view h k Y O) a:=ad.rU a hm
  have Vb:(refs k h.Words a.toNat).length<= 5000 :=NH ad bP
  rw [wJ,cH (List.getElem?_eq_some_iff.1 bB).1,cond_true,ch bB,Option.bind_some,YR bW ad hm,Option.bind_some]
  have fO:tv F h (Y,O,true) (i:Int) (refs k h.Words a.toNat) F 0 =some (dC ((refs k h.Words a.toNat).findSome? fun w=>if (!decide (a ∈ h.au) && kv (view h k Y O) (wd h.Words w.toNat)) then some 4 else none)):=each _ (by omega) (fun eR AL w hl=>by
   have gG:=List.mem_of_getElem? hl
   have aj:idx h.Words w=some (wd h.Words w.toNat):=bP.NG gG
   rw [tv,cH (List.getElem?_eq_some_iff.1 hl).1,cond_true,ch hl,Option.bind_some,aj,Option.bind_some]
   unfold gC
   rw [Option.bind_some,ch bB,Option.bind_some,DZ af,Option.bind_some,Vz]
   have e:kv (view h k Y O) (wd h.Words w.toNat)=(decide (1 <=wd h.Words w.toNat) && decide (wd h.Words w.toNat<=h.aq)):=rfl
   rw [e]
   cases (decide (1 <=wd h.Words w.toNat) && decide (wd h.Words w.toNat<=h.aq)) <;> cases decide (a ∈ h.au) <;> rfl) (fun eR=>by rw [tv,cG];rfl) (by omega)
  rw [fO,nG]
  have e:ps (view h k Y O) a=((refs k h.Words a.toNat).any fun w=>!decide (a ∈ h.au) && kv (view h k Y O) (wd h.Words w.toNat)):=by
   show (!decide (a ∈ h.au) && (refs k h.Words a.toNat).any fun w=>kv (view h k Y O) (wd h.Words w.toNat))=_
   cases decide (a ∈ h.au) with
   | true=>simp
   | false=>simp
  rw [e]
  cases (refs k h.Words a.toNat).any (fun w=>!decide (a ∈ h.au) && kv (view h k Y O) (wd h.Words w.toNat)) <;> rfl) (fun f=>by rw [wJ,cG];rfl) (by omega)
theorem aHa (bW:10000 <F) (bh:h2 k) (af:Small F h.au.length) (hi:h.Next<= 9223372036854775807):∃ r,B7 F h k=some r.2 /\Spec h k r:=by
 unfold B7
 by_cases gf:A0 h
 case neg=>
  refine ⟨(none,nl h),?_,.size fun s=>gf s.A⟩
  show _=some (nl h)
  unfold nl gC
  rw [if_neg gf,Option.bind_some,Option.bind_some]
  cases aY:(decide (3 <=h.aq) && decide (h.aq<= 2000)) with
  | false=>rfl
  | true=>
    cases R3:(decide (3 <=h.aA) && decide (h.aA<= 2000)) with
    | false=>rfl
    | true=>exact absurd ⟨by simpa using aY,by simpa using R3⟩ gf
 obtain ⟨⟨ej,e9⟩,a3,a4⟩:=id gf
 have ox:gC h.aq 3 2000 =some true:=by unfold gC;rw [decide_eq_true ej,decide_eq_true e9];rfl
 have k_:gC h.aA 3 2000 =some true:=by unfold gC;rw [decide_eq_true a3,decide_eq_true a4];rfl
 rw [ox,k_,Option.bind_some,Option.bind_some,Bool.not_true,cond_false,cond_false,eC (n:=1 +h.aq) (by omega) (by omega),eC (n:=1 +h.aq+h.aA) (by omega) (by omega)]
 by_cases i_:okB h
 case neg=>
  refine ⟨(none,nl h),?_,.size fun s=>i_ s.B⟩
  show _=some (nl h)
  unfold nl
  rw [if_pos gf,if_neg i_]
  unfold okB at i_
  rw [decide_eq_false i_];rfl
 have ady:=i_
 unfold okB at ady
 rw [decide_eq_true ady,Bool.not_true,cond_false,eC (n:=h.aq+ 1) (by omega) (by omega),eC (n:=h.aq+h.aA) (by omega) (by omega),eC (n:=h.aq+h.aA+ 1) (by omega) (by omega)]
 by_cases py:IF h
 case neg=>
  refine ⟨(none,nl h),?_,.size fun s=>py s.C⟩
  show _=some (nl h)
  unfold nl gC
  rw [if_pos gf,if_pos i_,if_neg py,Option.bind_some,Option.bind_some]
  cases aY:(decide (1 <=h.aP) && decide (h.aP<=h.aq+ 1)) with
  | false=>rfl
  | true=>
    cases R3:(decide (h.aq+ 1 <=h.aM) && decide (h.aM<=h.aq+h.aA+ 1)) with
    | false=>rfl
    | true=>
      cases aqG:decide (h.Next < 1) with
      | true=>rfl
      | false=>exact absurd ⟨by simpa using aY,by simpa using R3,by simp at aqG;omega⟩ py
 have dL:jm h:=⟨gf,i_,py⟩
 obtain ⟨⟨d_,eb⟩,⟨fG,iZ⟩,la⟩:=id py
 have qX:gC h.aP 1 (h.aq+ 1)=some true:=by unfold gC;rw [decide_eq_true d_,decide_eq_true eb];rfl
 have QC:gC h.aM (h.aq+ 1) (h.aq+h.aA+ 1)=some true:=by unfold gC;rw [decide_eq_true fG,decide_eq_true iZ];rfl
 rw [qX,QC,Option.bind_some,Option.bind_some,Bool.not_true,cond_false,decide_eq_false (show ¬ h.Next < 1 by omega),Bool.or_self,cond_false]
 have N4:∀ r,qT F h k=some r->qT F (⟨h.Words,h.aq,h.aA,h.aP,h.aM,h.au,h.Next⟩:bp) (⟨k.aG,k.aE,k.Fields,k.Names,k.aD⟩:bt)=some r:=fun r e=>e
 rcases agr (F:=F) (by omega) bh dL with ⟨Y,O,az,e⟩ | ⟨mW,Y,O,e⟩
 case inr=>
  refine ⟨(none,1),?_,.form dL mW⟩
  rw [N4 _ e];rfl
 have ad:=az.N8 bh dL
 have hc:Y.length+O.length<= 5000 :=ad.sv
 refine ⟨_,?_,.rest dL az⟩
 show _=some (n8 (view h k Y O))
 have hr:dU 8 ([]:List Int) Y=some Y:=by rw [h3 (by simp;omega)];rfl
 have mf:dU 8 Y O=some (Y++O):=h3 (by omega)
 have l1:=aG6 (k:=k) (Y:=Y) (O:=O) bW la hi ad
 have fO:=aG7 (F:=F) bW ad
 have sR:=aG8 (F:=F) bW ad
 have Ir:=aG9 (F:=F) bW dL
 have Xh:=aG_ bW dL az ad af
 have Xi:=aG' bW ad af
 rw [N4 _ e,Option.bind_some]
 show (dU 8 ([]:List Int) Y).bind _=_
 rw [hr,Option.bind_some]
 show (dU 8 Y O).bind _=_
 rw [mf,Option.bind_some,l1,j7]
 unfold n8 gr
 show pg (if (Y++O).any (jP (view h k Y O))=true then some 3 else none) _=some (if (if (Y++O).any (jP (view h k Y O))=true then (3 :Int) else if ((Y++O).map (a6 h.Words)).Nodup then 0 else 6)= 0 then _ else (if (Y++O).any (jP (view h k Y O))=true then (3 :Int) else if ((Y++O).map (a6 h.Words)).Nodup then 0 else 6))
 cases (Y++O).any (jP (view h k Y O)) with
 | true=>rfl
 | false=>
   rw [if_neg Bool.false_ne_true,if_neg Bool.false_ne_true]
   show dv _ _=_
   rw [fO,j7]
   by_cases bZ:((Y++O).map (a6 h.Words)).Nodup
   case neg=>rw [if_neg bZ,if_neg bZ];rfl
   rw [if_pos bZ,if_pos bZ,if_pos rfl]
   show dv _ _=_
   rw [sR,j7]
   unfold s8
   show pg (if (Y++O).any (n0 (view h k Y O))=true then some 5 else none) _=some (if (if (Y++O).any (n0 (view h k Y O))=true then (5 :Int) else if (free h).any (fun x=>!decide (x= 0))=true then 1 else 0)= 0 then _ else (if (Y++O).any (n0 (view h k Y O))=true then (5 :Int) else if (free h).any (fun x=>!decide (x= 0))=true then 1 else 0))
   cases (Y++O).any (n0 (view h k Y O)) with
   | true=>rfl
   | false=>
     rw [if_neg Bool.false_ne_true,if_neg Bool.false_ne_true]
     show dv _ _=_
     rw [Ir,j7]
     cases (free h).any (fun x=>!decide (x= 0)) with
     | true=>rfl
     | false=>
       rw [if_neg Bool.false_ne_true,if_neg Bool.false_ne_true,if_pos rfl]
       show dv _ _=_
       rw [Xh,j7]
       unfold yN
       show pg (if (List.range h.au.length).any (jF (view h k Y O))=true then some 4 else none) _=some (if ((List.range h.au.length).any (jF (view h k Y O)) || O.any (ps (view h k Y O)))=true then (4 :Int) else 0)
       cases (List.range h.au.length).any (jF (view h k Y O)) with
       | true=>rfl
       | false=>
         rw [if_neg Bool.false_ne_true,Bool.false_or]
         show dv _ _=_
         rw [Xi,j7]
         cases O.any (ps (view h k Y O)) <;> rfl
theorem Spec.y8 {r Nd:Option cl × Int} (s:Spec h k r) (YI:Spec h k Nd):r=Nd:=by
 cases s with
 | size af=>cases YI with
   | size _=>rfl
   | form br _=>exact absurd br af
   | rest br _=>exact absurd br af
 | form br mW=>cases YI with
   | size af=>exact absurd br af
   | form _ _=>rfl
   | rest _ az=>exact absurd az (mW _ _)
 | rest br az=>cases YI with
   | size af=>exact absurd br af
   | form _ mW=>exact absurd az (mW _ _)
   | rest _ pG=>
     obtain rfl:=az.y.y8 pG.y
     obtain rfl:=az.o.y8 pG.o
     rfl
end
end J
namespace J
section
variable {k:bt} {h:bp} {Y O:List Int}
theorem im.fit (dL:jm h) (az:im h k Y O):∀ a ∈ Y++O,1 <=a/\a.toNat+ 3 +(wd h.Words (a.toNat+ 1)).toNat<=h.Words.length/\(a.toNat+ 3 +(wd h.Words (a.toNat+ 1)).toNat<=h.aP.toNat\/(h.aq+ 1 <=a/\a.toNat+ 3 +(wd h.Words (a.toNat+ 1)).toNat<=h.aM.toNat)):=by
 intro a bB
 have i_:(h.Words.length:Int)= 1 +h.aq+h.aA:=dL.B
 obtain ⟨⟨d_,eb⟩,⟨fG,iZ⟩,_⟩:=dL.C
 obtain ⟨⟨ej,_⟩,a3,_⟩:=dL.A
 rcases List.mem_append.1 bB with bB | bB
 · obtain ⟨aB,aR⟩:=az.JT dL a bB;exact ⟨aB,by omega,.inl aR⟩
 · obtain ⟨aB,aR⟩:=az.IG dL a bB;exact ⟨by omega,by omega,.inr ⟨aB,aR⟩⟩
theorem im.Jg (az:im h k Y O):∀ a ∈ Y++O,iw k (wd h.Words a.toNat)=true/\isLen k (wd h.Words a.toNat) (wd h.Words (a.toNat+ 1))=true:=by
 intro a bB
 rcases List.mem_append.1 bB with bB | bB
 · obtain ⟨n,rfl,_,_,bT⟩:=az.y.mem a bB;exact bT
 · obtain ⟨n,rfl,_,_,bT⟩:=az.o.mem a bB;exact bT
theorem Fi.set (dL:jm h) (az:im h k Y O) (g:Fi h k Y O) {a:Int} (bB:a ∈ Y++O) {n:Nat} (af:n <(wd h.Words (a.toNat+ 1)).toNat) {value:Int}
 (ad:hd k (wd h.Words a.toNat) n=true->value= 0 \/value ∈ Y++O) {rJ:List Int} (aB:qU rJ) (aR:∀ x ∈ rJ,x ∈ h.au\/(x=a/\a ∈ O/\hd k (wd h.Words a.toNat) n=true)) (bT:∀ x ∈ h.au,x ∈ rJ)
 (eo:hd k (wd h.Words a.toNat) n=true->a ∈ O-> 0 <value->value<=h.aq->a ∈ rJ) :
 jm (⟨h.Words.set (a.toNat+ 3 +n) value,h.aq,h.aA,h.aP,h.aM,rJ,h.Next⟩:bp)/\im (⟨h.Words.set (a.toNat+ 3 +n) value,h.aq,h.aA,h.aP,h.aM,rJ,h.Next⟩:bp) k Y O /\
 Fi (⟨h.Words.set (a.toNat+ 3 +n) value,h.aq,h.aA,h.aP,h.aM,rJ,h.Next⟩:bp) k Y O:=by
 obtain ⟨f1,f2,f3⟩:=az.fit dL a bB
 have b0:a.toNat+ 3 +n <h.Words.length:=by omega
 have hw:∀ j,wd (h.Words.set (a.toNat+ 3 +n) value) j=if j=a.toNat+ 3 +n then value else wd h.Words j:=fun j=>Y1 b0
 have head:∀ b ∈ Y++O,wd (h.Words.set (a.toNat+ 3 +n) value) b.toNat=wd h.Words b.toNat/\wd (h.Words.set (a.toNat+ 3 +n) value) (b.toNat+ 1)=wd h.Words (b.toNat+ 1)/\wd (h.Words.set (a.toNat+ 3 +n) value) (b.toNat+ 2)=wd h.Words (b.toNat+ 2):=by
  intro b aY
  rw [hw,hw,hw]
  by_cases e:b=a
  · subst e
    rw [if_neg (by omega),if_neg (by omega),if_neg (by omega)];exact ⟨rfl,rfl,rfl⟩
  · have:=az.apart dL b aY a bB e
    rw [if_neg (by omega),if_neg (by omega),if_neg (by omega)];exact ⟨rfl,rfl,rfl⟩
 have i_:(h.Words.length:Int)= 1 +h.aq+h.aA:=dL.B
 obtain ⟨⟨d_,eb⟩,⟨fG,iZ⟩,la⟩:=id dL.C
 have bQ:∀ b ∈ Y++O,refs k (h.Words.set (a.toNat+ 3 +n) value) b.toNat=refs k h.Words b.toNat:=fun b aY=>aHv (head b aY).1 (head b aY).2.1
 have L2:∀ b ∈ Y++O,a6 (h.Words.set (a.toNat+ 3 +n) value) b=a6 h.Words b:=fun b aY=>(head b aY).2.2
 have aAi:(Y++O).map (a6 (h.Words.set (a.toNat+ 3 +n) value))=(Y++O).map (a6 h.Words):=List.map_congr_left L2
 have xV:∀ b ∈ Y++O,∀ w ∈ refs k h.Words b.toNat,w.toNat=a.toNat+ 3 +n->b=a/\hd k (wd h.Words a.toNat) n=true:=by
  intro b aY w hl e
  obtain ⟨j,bb,azq,rfl⟩:=Xr.1 hl
  simp only [Int.toNat_natCast] at e
  have Ly:b=a:=by
   by_cases Ly:b=a
   · exact Ly
   · have:=az.apart dL b aY a bB Ly;omega
  subst Ly
  have:j=n:=by omega
  subst this
  exact ⟨rfl,azq⟩
 refine ⟨⟨dL.A,?_,dL.C⟩,⟨az.y.congr fun b aY=>?_,az.o.congr fun b aY=>?_⟩,⟨fun b aY=>?_,?_,fun b aY w hl=>?_,fun i hi hc=>?_,aB,fun x aj=>?_,fun b aY aei w hl=>?_⟩⟩
 · show ((h.Words.set (a.toNat+ 3 +n) value).length:Int)=_;rw [List.length_set];exact i_
 · obtain ⟨j9,Bm,_⟩:=head b (List.mem_append_left _ aY);exact ⟨j9,Bm⟩
 · obtain ⟨j9,Bm,_⟩:=head b (List.mem_append_right _ aY);exact ⟨j9,Bm⟩
 · show 1 <=a6 (h.Words.set (a.toNat+ 3 +n) value) b/\a6 (h.Words.set (a.toNat+ 3 +n) value) b <h.Next
   rw [L2 b aY];exact g.hash b aY
 · show ((Y++O).map (a6 (h.Words.set (a.toNat+ 3 +n) value))).Nodup
   rw [aAi];exact g.nodup
 · have hl:w ∈ refs k (h.Words.set (a.toNat+ 3 +n) value) b.toNat:=hl
   rw [bQ b aY] at hl
   show wd (h.Words.set (a.toNat+ 3 +n) value) w.toNat= 0 \/wd (h.Words.set (a.toNat+ 3 +n) value) w.toNat ∈ Y++O
   rw [hw]
   by_cases e:w.toNat=a.toNat+ 3 +n
   · rw [if_pos e];exact ad (xV b aY w hl e).2
   · rw [if_neg e];exact g.ref b aY w hl
 · have hi:i <(h.Words.set (a.toNat+ 3 +n) value).length:=hi
   rw [List.length_set] at hi
   have hc:i= 0 \/(h.aP<=i/\(i:Int)<=h.aq)\/h.aM<=i:=hc
   show wd (h.Words.set (a.toNat+ 3 +n) value) i= 0
   rw [hw,if_neg (by omega)]
   exact g.b5 i hi hc
 · show x ∈ O/\refs k (h.Words.set (a.toNat+ 3 +n) value) x.toNat≠ []
   rcases aR x aj with aj | ⟨rfl,mM,bb⟩
   · obtain ⟨j9,Bm⟩:=g.rJ x aj
     rw [bQ x (List.mem_append_right _ j9)];exact ⟨j9,Bm⟩
   · refine ⟨mM,?_⟩
     rw [bQ x bB]
     intro e
     have:((x.toNat+ 3 +n:Nat):Int) ∈ refs k h.Words x.toNat:=Xr.2 ⟨n,af,bb,rfl⟩
     rw [e] at this;cases this
 · have iK:b ∈ Y++O:=List.mem_append_right _ aY
   have hl:w ∈ refs k (h.Words.set (a.toNat+ 3 +n) value) b.toNat:=hl
   rw [bQ b iK] at hl
   show ¬ (0 <wd (h.Words.set (a.toNat+ 3 +n) value) w.toNat/\wd (h.Words.set (a.toNat+ 3 +n) value) w.toNat<=h.aq)
   rw [hw]
   by_cases e:w.toNat=a.toNat+ 3 +n
   · rw [if_pos e]
     obtain ⟨rfl,bb⟩:=xV b iK w hl e
     rintro ⟨Ez,P1⟩
     exact aei (eo bb aY Ez P1)
   · rw [if_neg e]
     exact g.must b aY (fun hm=>aei (bT b hm)) w hl
end
end J
namespace J
structure Good (F:Nat) (h:bp) (k:bt) (Y O:List Int):Prop where
 ss:o0 F k=some 0
 rT:h2 k
 s:jm h
 l:im h k Y O
 ok:Fi h k Y O
section
variable {F:Nat} {k:bt} {h:bp} {Y O:List Int}
theorem Good.DN (g:Good F h k Y O):h.au.length<= 5000 :=by
 refine agP (N:=5000) g.ok.NZ (fun i hi=>?_)
 obtain ⟨aB,_⟩:=g.ok.rJ _ (N9 hi)
 obtain ⟨f1,f2,_⟩:=g.l.fit g.s _ (List.mem_append_right Y aB)
 have:=g.s.k2
 omega
theorem Good.open (bW:10000 <F) (g:Good F h k Y O):oS F h k=some (some (view h k Y O),0):=by
 unfold oS
 have bL:o0 F (⟨k.aG,k.aE,k.Fields,k.Names,k.aD⟩:bt)=some 0 :=g.ss
 have af:=g.DN
 obtain ⟨r,b8,hh⟩:=Xz bW g.rT (h:=h) ⟨by omega,by omega⟩
 have b8:x0 F (⟨h.Words,h.aq,h.aA,h.aP,h.aM,h.au,h.Next⟩:bp) (⟨k.aG,k.aE,k.Fields,k.Names,k.aD⟩:bt)=some r:=b8
 rw [bL,Option.bind_some,q7,b8,Option.bind_some]
 cases hh with
 | size a6=>exact absurd g.s a6
 | form _ I=>exact absurd g.l (I Y O)
 | @rest Ft B5 _ az=>
   have alp:=az.y.y8 g.l.y
   have ak7:=az.o.y8 g.l.o
   subst alp ak7
   rw [(ag3 g.rT g.s g.l).2 g.ok];rfl
theorem aGI (bW:10000 <F) (Ak:∃ e,o0 F k=some e/\(e≠ 0 \/(e= 0 /\h2 k))) (af:Small F h.au.length) :
 ∃ r,oS F h k=some r/\((r.2 ≠ 0 /\r.1 =none)\/ ∃ Y O,Good F h k Y O/\r=(some (view h k Y O),0)):=by
 obtain ⟨e,bL,he⟩:=Ak
 unfold oS
 have ak3:o0 F (⟨k.aG,k.aE,k.Fields,k.Names,k.aD⟩:bt)=some e:=bL
 rw [ak3,Option.bind_some]
 rcases he with he | ⟨rfl,bh⟩
 · rw [rI he];exact ⟨_,rfl,.inl ⟨he,rfl⟩⟩
 obtain ⟨r,b8,hh⟩:=Xz bW bh af
 have b8:x0 F (⟨h.Words,h.aq,h.aA,h.aP,h.aM,h.au,h.Next⟩:bp) (⟨k.aG,k.aE,k.Fields,k.Names,k.aD⟩:bt)=some r:=b8
 rw [q7,b8,Option.bind_some]
 refine ⟨_,rfl,?_⟩
 cases hh with
 | size a6=>exact .inl ⟨fun e=>a6 (YN.1 e),rfl⟩
 | form _ I=>exact .inl ⟨by decide,rfl⟩
 | @rest Ft B5 a6 az=>
   by_cases q:n8 (view h k Ft B5)= 0
   · exact .inr ⟨Ft,B5,⟨bL,bh,a6,az,(ag3 bh a6 az).1 q⟩,by rw [q];rfl⟩
   · exact .inl ⟨q,by rw [if_neg q]⟩
theorem Good.c6 (_:Good F h k Y O) (a:Int):xY (view h k Y O) a=some (decide (a ∈ Y++O)):=by
 unfold xY
 show some ((du ((Y++O).map fun a=>(a,true)) a).getD false)=_
 rw [Xs]
theorem agU (bW:10000 <F) (g:Good F h k Y O) (a:Int):sH F h k a=some (some (view h k Y O),if a ∈ Y++O then 0 else 5):=by
 unfold sH
 have bL:oS F (⟨h.Words,h.aq,h.aA,h.aP,h.aM,h.au,h.Next⟩:bp) (⟨k.aG,k.aE,k.Fields,k.Names,k.aD⟩:bt)=_:=g.open bW
 rw [bL,Option.bind_some,show decide ((0 :Int)= 0)=true from rfl,cond_true,Option.bind_some]
 show (xY (view h k Y O) a).bind _=_
 rw [g.c6,Option.bind_some]
 by_cases bB:a ∈ Y++O
 · rw [decide_eq_true bB,if_pos bB];rfl
 · rw [decide_eq_false bB,if_neg bB];rfl
theorem aH5 {r:Option cl × Int} (e:oS F h k=some r) (bQ:r.2 ≠ 0) (a:Int):sH F h k a=some r:=by
 unfold sH
 have bL:oS F (⟨h.Words,h.aq,h.aA,h.aP,h.aM,h.au,h.Next⟩:bp) (⟨k.aG,k.aE,k.Fields,k.Names,k.aD⟩:bt)=_:=e
 rw [bL,Option.bind_some,decide_eq_false bQ];rfl
theorem ag' {r:Option cl × Int} {a:Int} (e:sH F h k a=some r) (bQ:r.2 ≠ 0) (n:Int):rj F h k a n=some r:=by
 unfold rj
 have bL:sH F (⟨h.Words,h.aq,h.aA,h.aP,h.aM,h.au,h.Next⟩:bp) (⟨k.aG,k.aE,k.Fields,k.Names,k.aD⟩:bt) a=_:=e
 rw [bL,Option.bind_some,decide_eq_false bQ];rfl
def AO (h:bp) (a n:Int):Prop:=0 <=n/\n <wd h.Words (a.toNat+ 1)
instance (h:bp) (a n:Int):Decidable (AO h a n):=inferInstanceAs (Decidable (0 <=n/\n <wd h.Words (a.toNat+ 1)))
theorem Good.fit (g:Good F h k Y O) {a:Int} (bB:a ∈ Y++O):1 <=a/\a.toNat+ 3 +(wd h.Words (a.toNat+ 1)).toNat<=h.Words.length/\h.Words.length<= 4001 /\ 0 <=wd h.Words (a.toNat+ 1)/\wd h.Words (a.toNat+ 1)<= 500 :=by
 obtain ⟨f1,f2,_⟩:=g.l.fit g.s a bB
 obtain ⟨t1,t2⟩:=g.l.Jg a bB
 obtain ⟨⟨Dt,l1⟩,_⟩:=yo.1 t2
 exact ⟨f1,f2,g.s.k2,Dt,l1⟩
theorem aha (bW:10000 <F) (g:Good F h k Y O) {a:Int} (bB:a ∈ Y++O) (n:Int):rj F h k a n=some (some (view h k Y O),if AO h a n then 0 else 3):=by
 obtain ⟨f1,f2,f3,f4,f5⟩:=g.fit bB
 unfold rj
 have bL:sH F (⟨h.Words,h.aq,h.aA,h.aP,h.aM,h.au,h.Next⟩:bp) (⟨k.aG,k.aE,k.Fields,k.Names,k.aD⟩:bt) a=_:=agU bW g a
 rw [bL,Option.bind_some,if_pos bB,show decide ((0 :Int)= 0)=true from rfl,cond_true,eC (n:=a+ 1) (by omega) (by omega),jQ (i:=a.toNat+ 1) (by omega) (by omega),Option.bind_some,eC (n:=wd h.Words (a.toNat+ 1) - 1) (by omega) (by omega)]
 unfold mS
 rw [Option.bind_some]
 by_cases bQ:AO h a n
 · rw [if_pos bQ]
   have aB:=bQ.1;have aR:=bQ.2
   rw [decide_eq_true aB,decide_eq_true (p:=n<=wd h.Words (a.toNat+ 1) - 1) (by omega)];rfl
 · rw [if_neg bQ]
   have:(decide (0 <=n) && decide (n<=wd h.Words (a.toNat+ 1) - 1))=false:=by
    rw [Bool.eq_false_iff];intro e
    simp only [Bool.and_eq_true,decide_eq_true_eq] at e
    exact bQ ⟨e.1,by omega⟩
   rw [this];rfl
theorem aGK (g:Good F h k Y O):uw h=some h:=by
 have aB:=g.DN;have aR:=g.s.k2
 unfold uw I4
 rw [h3 (by simp;omega),Option.bind_some,h3 (by simp;omega)]
 rfl
theorem ag9 {l:List Int} {p i:Nat} {t:Int} (b0:p<=l.length):wd (l.take p++t::l.drop p) i=if i <p then wd l i else if i=p then t else wd l (i - 1):=by
 have bP:(l.take p).length=p:=by rw [List.length_take];omega
 unfold wd
 by_cases aB:i <p
 · rw [if_pos aB,List.getElem?_append_left (by omega),List.getElem?_take,if_pos aB]
 · rw [if_neg aB,List.getElem?_append_right (by omega),bP]
   by_cases aR:i=p
   · subst aR;rw [if_pos rfl,Nat.sub_self];rfl
   · rw [if_neg aR,show i - p=(i - 1 - p)+ 1 by omega,List.getElem?_cons_succ,List.getElem?_drop,show p+(i - 1 - p)=i - 1 by omega]
theorem aH4 {l:List Int} {p:Nat} {t:Int} (a6:qU l) (b0:p<=l.length) (aB:∀ a,a <p->wd l a <t) (aR:∀ a,p<=a->a <l.length->t<=wd l a) (af: ¬ t ∈ l):qU (l.take p++t::l.drop p):=by
 have bT:∀ a,p<=a->a <l.length->t <wd l a:=fun a bB aY=>by
  have:=aR a bB aY
  have:wd l a≠t:=fun e=>af (e ▸ N9 aY)
  omega
 intro a b CY aY
 have aY:b <l.length+ 1 :=by simp at aY;omega
 rw [ag9 b0,ag9 b0]
 by_cases hH:a <p
 · rw [if_pos hH]
   by_cases iy:b <p
   · rw [if_pos iy];exact a6 a b CY (by omega)
   · rw [if_neg iy]
     by_cases nX:b=p
     · rw [if_pos nX];exact aB a hH
     · rw [if_neg nX]
       have:=aB a hH;have:=bT (b - 1) (by omega) (by omega)
       omega
 · rw [if_neg hH,if_neg (show ¬ b <p by omega),if_neg (show ¬ b=p by omega)]
   by_cases nX:a=p
   · rw [if_pos nX];exact bT (b - 1) (by omega) (by omega)
   · rw [if_neg nX];exact a6 (a - 1) (b - 1) (by omega) (by omega)
def note (l:List Int) (a:Int):List Int:=if a ∈ l then l else (l.filter fun x=>decide (x <a))++a::l.filter fun x=>!decide (x <a)
theorem Rp {a:Int}:∀ {l:List Int} {p:Nat},p<=l.length->(∀ i,i <p->wd l i <a)->(∀ i,p<=i->i <l.length->a<=wd l i)->(l.filter fun x=>decide (x <a))=l.take p/\(l.filter fun x=>!decide (x <a))=l.drop p
 | [],p,_,_,_=>by simp
 | x::r,0,_,_,aR=>by
   have aj:∀ y ∈ x::r,¬ y <a:=fun y hy=>by
    obtain ⟨i,hi,e⟩:=M1 hy
    have:=aR i (by omega) hi
    omega
   constructor
   · rw [List.take_zero,List.filter_eq_nil_iff]
     intro y hy;simpa using aj y hy
   · rw [List.drop_zero,List.filter_eq_self]
     intro y hy;simpa using aj y hy
 | x::r,p+ 1,b0,aB,aR=>by
   have aj:x <a:=aB 0 (by omega)
   obtain ⟨i1,i2⟩:=Rp (a:=a) (l:=r) (p:=p) (by simpa using b0) (fun i hi=>aB (i+ 1) (by omega)) (fun i hi aY=>aR (i+ 1) (by omega) (by simpa using aY))
   rw [List.filter_cons_of_pos (by simpa using aj),List.filter_cons_of_neg (by simpa using aj),i1,i2]
   exact ⟨rfl,rfl⟩
theorem aGy (bW:10000 <F) {l:List Int} (az:l.length<= 5000) (a6:qU l) (a:Int):qU (note l a)/\(∀ x,x ∈ note l a ↔ x ∈ l\/x=a)/\ ∀ h:bp,h.au=l->C2 F h a=some { h with au:=note l a }:=by
 obtain ⟨p,e,b0,aB,aR⟩:=agH bW (by omega) a6 a
 unfold note
 by_cases bB:a ∈ l
 · rw [if_pos bB]
   refine ⟨a6,fun x=>⟨.inl,?_⟩,fun h hb=>?_⟩
   · rintro (h | rfl) <;> assumption
   · subst hb
     unfold C2
     rw [e,Option.bind_some,decide_eq_true bB];rfl
 · rw [if_neg bB]
   obtain ⟨i1,i2⟩:=Rp b0 aB aR
   refine ⟨?_,fun x=>?_,fun h hb=>?_⟩
   · rw [i1,i2];exact aH4 a6 b0 aB aR bB
   · rw [i1,i2,List.mem_append,List.mem_cons]
     have:=List.take_append_drop p l
     have aj:x ∈ l ↔ x ∈ l.take p\/x ∈ l.drop p:=by rw [<-List.mem_append,this]
     rw [aj]
     constructor
     · rintro (h | h | h)
       · exact .inl (.inl h)
       · exact .inr h
       · exact .inl (.inr h)
     · rintro ((h | h) | h)
       · exact .inl h
       · exact .inr (.inr h)
       · exact .inr (.inl h)
   · subst hb
     unfold C2
     rw [e,Option.bind_some,decide_eq_false bB]
     simp only [Bool.not_false,cond_true]
     unfold Im
     rw [if_pos ⟨by omega,by omega,by omega⟩,Option.bind_some,Int.toNat_natCast,i1,i2]
def notes (h:bp) (k:bt) (a n value:Int):List Int:=if hd k (wd h.Words a.toNat) n.toNat=true/\h.aq <a/\ 0 <value/\value<=h.aq then note h.au a else h.au
theorem alN (bW:10000 <F) (g:Good F h k Y O) {a n:Int} (bB:a ∈ Y++O) (bQ:AO h a n) (value:Int) :
 sE F h ⟨k⟩ a n value=some (⟨h.Words.set (a.toNat+ 3 +n.toNat) value,h.aq,h.aA,h.aP,h.aM,notes h k a n value,h.Next⟩:bp):=by
 obtain ⟨f1,f2,f3,f4,f5⟩:=g.fit bB
 obtain ⟨t1,t2⟩:=g.l.Jg a bB
 have aB:=bQ.1;have aR:=bQ.2
 unfold sE
 rw [eC (n:=a+ 3) (by omega) (by omega),eC (n:=a+ 3 +n) (by omega) (by omega),jQ (i:=a.toNat+ 3 +n.toNat) (by omega) (by omega),Option.bind_some,Option.bind_some,show (a+ 3 +n).toNat=a.toNat+ 3 +n.toNat by omega,
  jQ (W:=h.Words.set (a.toNat+ 3 +n.toNat) value) (i:=a.toNat) (by omega) (by rw [List.length_set];omega),Option.bind_some,Y1 (by omega),if_neg (by omega)]
 have bL:pB (⟨(⟨k.aG,k.aE,k.Fields,k.Names,k.aD⟩:bt)⟩:dn) (wd h.Words a.toNat) n=some (hd k (wd h.Words a.toNat) n.toNat):=by
  have:=YL g.rT t1 t2 (j:=n.toNat) (by omega)
  rwa [show ((n.toNat:Nat):Int)=n by omega] at this
 show (pB (⟨(⟨k.aG,k.aE,k.Fields,k.Names,k.aD⟩:bt)⟩:dn) (wd h.Words a.toNat) n).bind _=_
 rw [bL,Option.bind_some]
 unfold notes
 by_cases hc:hd k (wd h.Words a.toNat) n.toNat=true/\h.aq <a/\ 0 <value/\value<=h.aq
 · obtain ⟨hH,iy,nX,agj⟩:=id hc
   rw [if_pos hc,hH,decide_eq_true iy,decide_eq_true nX,decide_eq_true agj]
   have:=(aGy bW g.DN g.ok.NZ a).2.2 (⟨h.Words.set (a.toNat+ 3 +n.toNat) value,h.aq,h.aA,h.aP,h.aM,h.au,h.Next⟩:bp) rfl
   simp only [Bool.and_self,cond_true]
   rw [this];rfl
 · rw [if_neg hc]
   have:(((hd k (wd h.Words a.toNat) n.toNat && (decide (h.aq <a))) && (decide (0 <value))) && (decide (value<=h.aq)))=false:=by
    rw [Bool.eq_false_iff];intro e
    simp only [Bool.and_eq_true,decide_eq_true_eq] at e
    exact hc ⟨e.1.1.1,e.1.1.2,e.1.2,e.2⟩
   rw [this];rfl
theorem YK {r:Option cl × Int} {a n:Int} (e:rj F h k a n=some r) (bQ:r.2 ≠ 0) (value:Int):pA F h k a n value=some ((⟨[],0,0,0,0,[],0⟩:bp),r.2):=by
 unfold pA
 have bL:rj F (⟨h.Words,h.aq,h.aA,h.aP,h.aM,h.au,h.Next⟩:bp) (⟨k.aG,k.aE,k.Fields,k.Names,k.aD⟩:bt) a n=_:=e
 rw [bL,Option.bind_some,decide_eq_false bQ]
 rfl
theorem aHV (bW:10000 <F) (g:Good F h k Y O) {a n:Int} (bB:a ∈ Y++O) (bQ:AO h a n) (value:Int) :
 pA F h k a n value=some (if hd k (wd h.Words a.toNat) n.toNat=true/\value≠ 0 /\ ¬ value ∈ Y++O then ((⟨[],0,0,0,0,[],0⟩:bp),5) else ((⟨h.Words.set (a.toNat+ 3 +n.toNat) value,h.aq,h.aA,h.aP,h.aM,notes h k a n value,h.Next⟩:bp),0)):=by
 obtain ⟨f1,f2,f3,f4,f5⟩:=g.fit bB
 obtain ⟨t1,t2⟩:=g.l.Jg a bB
 have aB:=bQ.1;have aR:=bQ.2
 unfold pA
 have bL:rj F (⟨h.Words,h.aq,h.aA,h.aP,h.aM,h.au,h.Next⟩:bp) (⟨k.aG,k.aE,k.Fields,k.Names,k.aD⟩:bt) a n=_:=aha bW g bB n
 have b8:pB (⟨(⟨k.aG,k.aE,k.Fields,k.Names,k.aD⟩:bt)⟩:dn) (wd h.Words a.toNat) n=some (hd k (wd h.Words a.toNat) n.toNat):=by
  have:=YL g.rT t1 t2 (j:=n.toNat) (by omega)
  rwa [show ((n.toNat:Nat):Int)=n by omega] at this
 have dR:uw (⟨h.Words,h.aq,h.aA,h.aP,h.aM,h.au,h.Next⟩:bp)=some h:=aGK g
 have fT:sE F (⟨h.Words,h.aq,h.aA,h.aP,h.aM,h.au,h.Next⟩:bp) (⟨(⟨k.aG,k.aE,k.Fields,k.Names,k.aD⟩:bt)⟩:dn) a n value=_:=alN bW g bB bQ value
 rw [bL,Option.bind_some,if_pos bQ]
 simp only [show decide ((0 :Int)= 0)=true from rfl,cond_true,Bool.not_true,cond_false]
 rw [jQ (i:=a.toNat) (by omega) (by omega),Option.bind_some,Option.bind_some]
 show (pB (⟨(⟨k.aG,k.aE,k.Fields,k.Names,k.aD⟩:bt)⟩:dn) (wd h.Words a.toNat) n).bind _=_
 rw [b8,Option.bind_some]
 by_cases aY:hd k (wd h.Words a.toNat) n.toNat=true/\value≠ 0
 · obtain ⟨ox,k_⟩:=aY
   rw [ox,decide_eq_false k_]
   simp only [Bool.not_false,Bool.and_self,cond_true]
   show (xY (view h k Y O) value).bind _=_
   rw [g.c6,Option.bind_some]
   by_cases ad:value ∈ Y++O
   · rw [decide_eq_true ad,if_neg (fun q=>q.2.2 ad)]
     simp only [Bool.not_true,cond_false]
     rw [dR,Option.bind_some]
     show (sE F (⟨h.Words,h.aq,h.aA,h.aP,h.aM,h.au,h.Next⟩:bp) (⟨(⟨k.aG,k.aE,k.Fields,k.Names,k.aD⟩:bt)⟩:dn) a n value).bind _=_
     rw [fT];rfl
   · rw [decide_eq_false ad,if_pos ⟨trivial,k_,ad⟩];rfl
 · have:(hd k (wd h.Words a.toNat) n.toNat && (!decide (value= 0)))=false:=by
    rw [Bool.eq_false_iff];intro e
    simp only [Bool.and_eq_true,Bool.not_eq_true',decide_eq_false_iff_not] at e
    exact aY e
   rw [this,if_neg (fun q=>aY ⟨q.1,q.2.1⟩),cond_false,dR,Option.bind_some]
   show (sE F (⟨h.Words,h.aq,h.aA,h.aP,h.aM,h.au,h.Next⟩:bp) (⟨(⟨k.aG,k.aE,k.Fields,k.Names,k.aD⟩:bt)⟩:dn) a n value).bind _=_
   rw [fT];rfl
end
end J
namespace J
set_option maxRecDepth 100000 in
theorem awC (F:Nat):ts (F+ 60)=some true:=by kernel_rfl
theorem agF {F:Nat} {l:List Int} (h:Small F l.length):Ca F l l=some true:=by
 unfold Ca
 have l1:=MZ (n:=l.length) (fun k i=>sl l l k (i:Int)) (.go ()) (fun k i hi=>by
  obtain ⟨x,aj⟩:∃ x,l[i]? =some x:=⟨l[i],List.getElem?_eq_getElem hi⟩
  rw [sl,cH hi,cond_true,ch aj,Option.bind_some,Option.bind_some,decide_eq_true rfl]
  show sl l l k _=_
  rw [gK hi h.1]) (fun k=>by rw [sl,cG];rfl) h.2
 have l1:sl l l F 0 =some (.go ()):=l1
 rw [l1,decide_eq_true rfl]
 rfl
theorem agE {F:Nat} {h:bp} (aB:Small F h.Words.length) (aR:Small F h.au.length):zB F h h=some true:=by
 unfold zB
 rw [agF aB,agF aR]
 simp
end J
namespace J
open Go Go.Proofs.YtpkhpagplommoaaGreat
theorem vM {n:Nat} (h:n<=reachBytes):Small 140737488356000 n:=by
 have:reachBytes= 140737488351232 :=rfl
 unfold Small
 omega
theorem pi {n:Nat} (k:Nat) (h:n*(k+ 1)<=reachBytes):Small 140737488356000 n:=
 vM (Nat.le_trans (Nat.le_mul_of_pos_right n (Nat.succ_pos k)) h)
theorem alr {m:Method} (h:KG reachBytes m):m.Fits 140737488356000 :=
 ⟨vM h.1,pi 23 h.2.2.1.1,fun k bh=>vM (h.2.2.1.2 k bh).2,vM h.2.2.2.1.2,pi 39 h.2.2.2.2.2.2.2.1,fun x aj=>vM (h.2.2.2.2.2.2.2.2 x aj).2.2.2⟩
theorem alq {c:aO} (h:Fj reachBytes c):c.Fits 140737488356000 :=
 ⟨vM h.1,vM h.2.1,pi 39 h.2.2.1.1,fun f I=>⟨vM (h.2.2.1.2 f I).1,vM (h.2.2.1.2 f I).2.2⟩,pi 127 h.2.2.2.1,fun m hm=>alr (h.2.2.2.2 m hm)⟩
theorem als {l:List aO} (h:l.length* 80 <=reachBytes/\ ∀ x ∈ l,Fj reachBytes x):Fits 140737488356000 l:=
 ⟨pi 79 h.1,fun c hc=>alq (h.2 c hc)⟩
theorem aF8 {k:bt} (h:KF reachBytes k):KD 140737488356000 k:=
 ⟨pi 7 h.2.1.1,pi 23 h.2.2.1.1,fun x aj=>pi 39 (h.2.2.1.2 x aj).1,pi 23 h.2.2.2.1.1,fun x aj=>pi 15 (h.2.2.2.1.2 x aj).1,pi 23 h.2.2.2.2.1,fun x aj=>pi 15 (h.2.2.2.2.2 x aj).1⟩
end J
namespace J
theorem aHZ {k:bt} (ld:il k.aG) (e:k=linked k.aG):h2 k:=by
 have:=ld.right.len
 exact ⟨by omega,by rw [e];exact aHy⟩
theorem akx {k:bt} (aB:Go.Proofs.YtpkhpagplommoaaGreat.KF Go.reachBytes k):∃ e,o0 140737488356000 k=some e/\tA 140737488356000 k=some e/\(e≠ 0 \/(e= 0 /\h2 k)):=by
 obtain ⟨e,d_,eb,fG⟩:=akw (F:=140737488356000) (by omega) (als aB.1) (aF8 aB)
 refine ⟨e,d_,eb,?_⟩
 rcases fG with rfl | ⟨rfl,ld,bh⟩
 · exact .inl (by decide)
 · exact .inr ⟨rfl,aHZ ld bh⟩
theorem aGH {F:Nat} {h:bp} {k:bt} (bW:10000 <F) (Ak:∃ e,o0 F k=some e/\tA F k=some e/\(e≠ 0 \/(e= 0 /\h2 k))) (af:Small F h.au.length) (hi:h.Next<= 9223372036854775807) :
 ∃ r,oS F h k=some r/\zA F h k=some r.2 /\((r.2 ≠ 0 /\r.1 =none)\/ ∃ Y O,Good F h k Y O/\r=(some (view h k Y O),0)):=by
 obtain ⟨e,d_,eb,fG⟩:=Ak
 obtain ⟨r,bL,bQ⟩:=aGI bW ⟨e,d_,fG⟩ af
 refine ⟨r,bL,?_,bQ⟩
 have aiT:o0 F (⟨k.aG,k.aE,k.Fields,k.Names,k.aD⟩:bt)=some e:=d_
 have ai2:tA F (⟨k.aG,k.aE,k.Fields,k.Names,k.aD⟩:bt)=some e:=eb
 unfold zA
 unfold oS at bL
 rw [aiT,Option.bind_some] at bL
 rw [ai2,Option.bind_some]
 rcases fG with fG | ⟨rfl,bh⟩
 · rw [rI fG] at bL
   obtain rfl:=Option.some.inj bL
   rw [decide_eq_false fG];rfl
 · rw [q7] at bL
   obtain ⟨j4,qt,s1⟩:=Xz bW bh af
   obtain ⟨nY,qu,s2⟩:=aHa bW bh af hi
   have qt:x0 F (⟨h.Words,h.aq,h.aA,h.aP,h.aM,h.au,h.Next⟩:bp) (⟨k.aG,k.aE,k.Fields,k.Names,k.aD⟩:bt)=some j4:=qt
   have qu:B7 F (⟨h.Words,h.aq,h.aA,h.aP,h.aM,h.au,h.Next⟩:bp) (⟨k.aG,k.aE,k.Fields,k.Names,k.aD⟩:bt)=some nY.2 :=qu
   obtain rfl:=s1.y8 s2
   rw [qt,Option.bind_some] at bL
   obtain rfl:=Option.some.inj bL
   rw [show decide ((0 :Int)= 0)=true from rfl,cond_true,qu];rfl
end J
namespace J
section
variable {F:Nat} {k:bt} {h:bp} {Y O:List Int}
theorem aH6 (bW:10000 <F) (g:Good F h k Y O):qT F h k=some (Y,O,true):=by
 rcases agr (F:=F) (by omega) g.rT g.s with ⟨Ft,B5,az,e⟩ | ⟨mW,_⟩
 · obtain rfl:=az.y.y8 g.l.y
   obtain rfl:=az.o.y8 g.l.o
   exact e
 · exact absurd g.l (mW _ _)
theorem ae' (bW:10000 <F) (g:Good F h k Y O) (a:Int):tB F h k a=some (decide (a ∈ Y++O)):=by
 have ad:=g.l.N8 g.rT g.s
 have hc:Y.length+O.length<= 5000 :=ad.sv
 unfold tB
 have u:qT F (⟨h.Words,h.aq,h.aA,h.aP,h.aM,h.au,h.Next⟩:bp) (⟨k.aG,k.aE,k.Fields,k.Names,k.aD⟩:bt)=some (Y,O,true):=aH6 bW g
 rw [u,Option.bind_some]
 show (nv F Y a).bind _=_
 rw [DZ ⟨by omega,by omega⟩,Option.bind_some]
 show cond _ _ ((nv F O a).bind _)=_
 rw [DZ ⟨by omega,by omega⟩,Option.bind_some]
 by_cases hy:a ∈ Y <;> by_cases br:a ∈ O <;> simp [hy,br]
end
end J
namespace J
section
variable {F:Nat} {k:bt} {h:bp} {Y O:List Int}
theorem akD (g:Good F h k Y O):Cd h=some h:=by
 have hw:=g.s.k2
 have af:=g.DN
 unfold Cd
 rw [h3 (by simp;omega),Option.bind_some,h3 (by simp;omega),Option.bind_some]
 rfl
theorem aGx (bW:10000 <F) {a:Int} (az:h.au.length<= 5000):∃ p:Nat,tE a h F 0 =some (p:Int)/\p<=h.au.length/\(∀ j,j <p->wd h.au j <a)/\(p <h.au.length->a<=wd h.au p):=by
 have key:∀ (d i f:Nat),i+d=h.au.length->d <f->(∀ j,j <i->wd h.au j <a)-> ∃ p:Nat,tE a h f (i:Int)=some (p:Int)/\p<=h.au.length/\(∀ j,j <p->wd h.au j <a)/\(p <h.au.length->a<=wd h.au p):=by
  intro d
  induction d with
  | zero=>
    intro i f hi I bb
    obtain ⟨f,rfl⟩:∃ eR,f=eR+ 1 :=⟨f - 1,by omega⟩
    have:i=h.au.length:=by omega
    refine ⟨i,?_,by omega,bb,fun q=>by omega⟩
    rw [tE,this,cG];rfl
  | succ d ct=>
    intro i f hi I bb
    obtain ⟨f,rfl⟩:∃ eR,f=eR+ 1 :=⟨f - 1,by omega⟩
    have dP:i <h.au.length:=by omega
    rw [tE,cH dP,cond_true,ll dP,Option.bind_some]
    by_cases hc:wd h.au i <a
    · rw [decide_eq_true hc,cond_true,gK dP (by omega)]
      exact ct (i+ 1) f (by omega) (by omega) fun j C_=>by
       by_cases e:j=i
       · subst e;exact hc
       · exact bb j (by omega)
    · rw [decide_eq_false hc,cond_false]
      exact ⟨i,rfl,by omega,bb,fun _=>by omega⟩
 exact key h.au.length 0 F (by omega) (by omega) (fun j bb=>by omega)
theorem aHW (bW:10000 <F) (g:Good F h k Y O) {a n:Int} (bB:a ∈ Y++O) (bQ:AO h a n) (value:Int) :
 Cc F h k a n value=some (⟨h.Words.set (a.toNat+ 3 +n.toNat) value,h.aq,h.aA,h.aP,h.aM,notes h k a n value,h.Next⟩:bp):=by
 obtain ⟨f1,f2,f3,f4,f5⟩:=g.fit bB
 have aB:=bQ.1;have aR:=bQ.2
 have af:=g.DN
 have c0:Cd (⟨h.Words,h.aq,h.aA,h.aP,h.aM,h.au,h.Next⟩:bp)=some h:=akD g
 obtain ⟨t1,t2⟩:=g.l.Jg a bB
 unfold Cc
 rw [c0,Option.bind_some,eC (n:=a+ 3) (by omega) (by omega),eC (n:=a+ 3 +n) (by omega) (by omega),jQ (i:=a.toNat+ 3 +n.toNat) (by omega) (by omega),Option.bind_some,Option.bind_some,show (a+ 3 +n).toNat=a.toNat+ 3 +n.toNat by omega,
  jQ (W:=h.Words.set (a.toNat+ 3 +n.toNat) value) (i:=a.toNat) (by omega) (by rw [List.length_set];omega),Option.bind_some,Y1 (by omega),if_neg (by omega)]
 have Rk:sm (⟨k.aG,k.aE,k.Fields,k.Names,k.aD⟩:bt) (wd h.Words a.toNat) n=some (hd k (wd h.Words a.toNat) n.toNat):=by
  have:=Yw g.rT t1 t2 (j:=n.toNat) (by omega)
  rw [show ((n.toNat:Nat):Int)=n by omega] at this
  exact this
 rw [Rk,Option.bind_some]
 unfold notes
 cases bL:hd k (wd h.Words a.toNat) n.toNat with
 | false=>rw [if_neg (by simp)];rfl
 | true=>
   rw [Bool.true_and]
   by_cases b8:h.aq <a
   case neg=>rw [decide_eq_false b8,if_neg (by simp [b8])];rfl
   rw [decide_eq_true b8,cond_true]
   unfold gC
   rw [Option.bind_some]
   by_cases dR:1 <=value/\value<=h.aq
   case neg=>
    have:(decide (1 <=value) && decide (value<=h.aq))=false:=by
     rw [Bool.eq_false_iff,Ne,Bool.and_eq_true,decide_eq_true_eq,decide_eq_true_eq];exact dR
    rw [this,if_neg (by rintro ⟨_,_,hH,iy⟩;exact dR ⟨by omega,iy⟩)];rfl
   rw [decide_eq_true dR.1,decide_eq_true dR.2,Bool.and_self,cond_true,DZ ⟨by omega,by omega⟩,Option.bind_some,if_pos ⟨rfl,b8,by omega,dR.2⟩]
   unfold note
   by_cases fT:a ∈ h.au
   · rw [decide_eq_true fT,if_pos fT];rfl
   rw [decide_eq_false fT,if_neg fT,Bool.not_false,cond_true]
   obtain ⟨p,l1,fO,m1,sR⟩:=aGx (F:=F) (a:=a) bW af
   have b0:∀ i,p<=i->i <h.au.length->a<=wd h.au i:=fun i hi dP=>by
    by_cases e:i=p
    · subst e;exact sR dP
    · have:=g.ok.NZ p i (by omega) dP
      have:=sR (by omega)
      omega
   obtain ⟨s1,s2⟩:=Rp fO m1 b0
   rw [s1,s2]
   have d_:cut h.au 0 (p:Int)=some (h.au.take p):=by
    unfold cut;rw [if_pos ⟨by omega,by omega,by omega⟩,Int.toNat_natCast];rfl
   have eb:cut h.au (p:Int) (h.au.length:Int)=some (h.au.drop p):=by
    unfold cut;rw [if_pos ⟨by omega,by omega,by omega⟩,Int.toNat_natCast,Int.toNat_natCast,List.take_length]
   have fG:dU 8 [a] (h.au.drop p)=some (a::h.au.drop p):=by rw [h3 (by simp;omega)];rfl
   have iZ:dU 8 (h.au.take p) (a::h.au.drop p)=some (h.au.take p++a::h.au.drop p):=h3 (by simp;omega)
   rw [l1,Option.bind_some,d_,Option.bind_some,eb,Option.bind_some,fG,Option.bind_some]
   show (M5 true).bind _=_
   show (dU 8 (h.au.take p) (a::h.au.drop p)).bind _=_
   rw [iZ];rfl
end
end J
namespace J
theorem ae_ {F:Nat} {e:Int} {x w:bp} (aj:e= 0 ->Small F x.Words.length/\Small F x.au.length) (aB:0 <F) (ex:x=if e= 0 then w else (⟨[],0,0,0,0,[],0⟩:bp)):qO F x e e w=some true:=by
 unfold qO
 by_cases he:e= 0
 · rw [if_pos he] at ex
   subst ex
   rw [he,show decide ((0 :Int)= 0)=true from rfl,Bool.not_true,cond_false,Option.bind_some]
   have:=agE (F:=F) (h:=x) (aj he).1 (aj he).2
   show cond (decide ((0 :Int)= 0)) ((zB F x x).bind _) _=_
   rw [this];rfl
 · rw [if_neg he] at ex
   subst ex
   rw [decide_eq_false he,Bool.not_false,cond_true,Option.bind_some]
   have:=agE (F:=F) (h:=(⟨[],0,0,0,0,[],0⟩:bp)) ⟨by simp,by simpa using aB⟩ ⟨by simp,by simpa using aB⟩
   show cond (decide (e=e)) ((zB F (⟨[],0,0,0,0,[],0⟩:bp) (⟨[],0,0,0,0,[],0⟩:bp)).bind _) _=_
   rw [this,decide_eq_true rfl];rfl
theorem aGS (h:bp) (bJ:Go.Proofs.YtpkhpagplommoaaGreat.aaF Go.reachBytes h) (k:bt) (aB:Go.Proofs.YtpkhpagplommoaaGreat.KF Go.reachBytes k) (a:Int) (_:a2.iX a) (n:Int) (_:a2.iX n) (value:Int) (_:a2.iX value):∃ F,KE F h k a n value=some true:=by
 refine ⟨140737488355940 + 60,?_⟩
 have bW:10000 < 140737488355940 + 60 :=by omega
 have gu:20000 < 140737488355940 + 60 :=by omega
 have Ak:=akx aB
 have af:Small (140737488355940 + 60) h.au.length:=pi 7 bJ.2.2.2.2.2.1.1
 have aY:=awC 140737488355940
 generalize adz:(140737488355940 + 60 :Nat)=F at bW gu af aY ⊢
 have Ak:∃ e,o0 F k=some e/\tA F k=some e/\(e≠ 0 \/(e= 0 /\h2 k)):=by rw [<-adz];exact Ak
 clear adz
 obtain ⟨r,bL,b8,bQ⟩:=aGH bW Ak af bJ.2.2.2.2.2.2.2
 have nil:∀ e:Int,e≠ 0 ->qO F (⟨[],0,0,0,0,[],0⟩:bp) e e (⟨[],0,0,0,0,[],0⟩:bp)=some true:=fun e he=>ae_ (fun q=>absurd q he) (by omega) (by rw [if_neg he])
 have br:zA F (⟨h.Words,h.aq,h.aA,h.aP,h.aM,h.au,h.Next⟩:bp) (⟨k.aG,k.aE,k.Fields,k.Names,k.aD⟩:bt)=some r.2 :=b8
 have d0:decide ((0 :Int)= 0)=true:=rfl
 unfold KE
 rcases bQ with ⟨bQ,_⟩ | ⟨Y,O,g,rfl⟩
 · have m:pA F (⟨h.Words,h.aq,h.aA,h.aP,h.aM,h.au,h.Next⟩:bp) (⟨k.aG,k.aE,k.Fields,k.Names,k.aD⟩:bt) a n value=_:=YK (ag' (aH5 bL bQ a) bQ n) bQ value
   rw [m,Option.bind_some,br,Option.bind_some,decide_eq_false bQ,cond_false,Option.bind_some,decide_eq_false bQ,cond_false,Option.bind_some,decide_eq_false bQ,cond_false,Option.bind_some,decide_eq_false bQ,cond_false,Option.bind_some]
   show (ts F).bind _=_
   rw [aY,Option.bind_some]
   show cond true ((qO F (⟨[],0,0,0,0,[],0⟩:bp) r.2 r.2 (⟨[],0,0,0,0,[],0⟩:bp)).bind _) _=_
   rw [nil _ bQ];rfl
 have br:zA F (⟨h.Words,h.aq,h.aA,h.aP,h.aM,h.au,h.Next⟩:bp) (⟨k.aG,k.aE,k.Fields,k.Names,k.aD⟩:bt)=some 0 :=br
 have hi:tB F (⟨h.Words,h.aq,h.aA,h.aP,h.aM,h.au,h.Next⟩:bp) (⟨k.aG,k.aE,k.Fields,k.Names,k.aD⟩:bt) a=some (decide (a ∈ Y++O)):=ae' bW g a
 have ad:tB F (⟨h.Words,h.aq,h.aA,h.aP,h.aM,h.au,h.Next⟩:bp) (⟨k.aG,k.aE,k.Fields,k.Names,k.aD⟩:bt) value=some (decide (value ∈ Y++O)):=ae' bW g value
 by_cases bB:a ∈ Y++O
 case neg=>
  have t:=agU bW g a
  rw [if_neg bB] at t
  have hL:(5 :Int)≠ 0 :=by decide
  have m:pA F (⟨h.Words,h.aq,h.aA,h.aP,h.aM,h.au,h.Next⟩:bp) (⟨k.aG,k.aE,k.Fields,k.Names,k.aD⟩:bt) a n value=_:=YK (ag' t hL n) hL value
  rw [m,Option.bind_some,br,Option.bind_some,d0,cond_true,hi,decide_eq_false bB,Option.bind_some,Bool.not_false,cond_true,Option.bind_some,decide_eq_false hL,cond_false,Option.bind_some,decide_eq_false hL,cond_false,Option.bind_some,decide_eq_false hL,cond_false,Option.bind_some]
  show (ts F).bind _=_
  rw [aY,Option.bind_some]
  show cond true ((qO F (⟨[],0,0,0,0,[],0⟩:bp) 5 5 (⟨[],0,0,0,0,[],0⟩:bp)).bind _) _=_
  rw [nil _ hL];rfl
 obtain ⟨f1,f2,f3,f4,f5⟩:=g.fit bB
 rw [show ∀ K:bp × Int->Option Bool,(pA F (⟨h.Words,h.aq,h.aA,h.aP,h.aM,h.au,h.Next⟩:bp) (⟨k.aG,k.aE,k.Fields,k.Names,k.aD⟩:bt) a n value).bind K=(pA F h k a n value).bind K from fun _=>rfl]
 by_cases g4:AO h a n
 case neg=>
  have t:=aha bW g bB n
  rw [if_neg g4] at t
  have bT:(3 :Int)≠ 0 :=by decide
  rw [YK t bT value,Option.bind_some,br,Option.bind_some,d0,cond_true,hi,decide_eq_true bB,Option.bind_some,Bool.not_true,cond_false,Option.bind_some,d0,cond_true]
  have hw:∀ K:Int->Option Bool,Option.bind (α:=Int) (cond (decide (n < 0)) (some 3) ((idx h.Words (av (a+ 1))).bind fun ta=>cond (decide (ta<=n)) (some 3) (some 0))) K=K 3 :=fun K=>by
   by_cases x5:n < 0
   · rw [decide_eq_true x5];rfl
   · rw [decide_eq_false x5,cond_false,eC (n:=a+ 1) (by omega) (by omega),jQ (i:=a.toNat+ 1) (by omega) (by omega),Option.bind_some,decide_eq_true (p:=wd h.Words (a.toNat+ 1)<=n) (by
      apply Classical.byContradiction
      intro hb
      exact g4 ⟨by omega,by omega⟩)]
     rfl
  rw [hw,decide_eq_false bT,cond_false,Option.bind_some,decide_eq_false bT,cond_false,Option.bind_some]
  show (ts F).bind _=_
  rw [aY,Option.bind_some]
  show cond true ((qO F (⟨[],0,0,0,0,[],0⟩:bp) 3 3 (⟨[],0,0,0,0,[],0⟩:bp)).bind _) _=_
  rw [nil _ bT];rfl
 have hH:=g4.1;have iy:=g4.2
 obtain ⟨t1,t2⟩:=g.l.Jg a bB
 have Rk:sm (⟨k.aG,k.aE,k.Fields,k.Names,k.aD⟩:bt) (wd h.Words a.toNat) n=some (hd k (wd h.Words a.toNat) n.toNat):=by
  have:=Yw g.rT t1 t2 (j:=n.toNat) (by omega)
  rw [show ((n.toNat:Nat):Int)=n by omega] at this
  exact this
 rw [aHV bW g bB g4 value,Option.bind_some,br,Option.bind_some,d0,cond_true,hi,decide_eq_true bB,Option.bind_some,Bool.not_true,cond_false,Option.bind_some,d0,cond_true,decide_eq_false (show ¬ n < 0 by omega),cond_false,
  eC (n:=a+ 1) (by omega) (by omega),jQ (i:=a.toNat+ 1) (by omega) (by omega),Option.bind_some,decide_eq_false (show ¬ wd h.Words (a.toNat+ 1)<=n by omega),cond_false,Option.bind_some,d0,cond_true,jQ (i:=a.toNat) (by omega) (by omega),Option.bind_some,Rk,Option.bind_some]
 by_cases jP:hd k (wd h.Words a.toNat) n.toNat=true/\value≠ 0 /\ ¬ value ∈ Y++O
 · have hL:(5 :Int)≠ 0 :=by decide
   obtain ⟨ox,k_,qX⟩:=jP
   rw [if_pos ⟨ox,k_,qX⟩,ox,decide_eq_false k_,Bool.not_false,Bool.and_self,cond_true,ad,decide_eq_false qX,Option.bind_some,Bool.not_false,cond_true,Option.bind_some,decide_eq_false hL,cond_false,Option.bind_some]
   show (ts F).bind _=_
   rw [aY,Option.bind_some]
   show cond true ((qO F (⟨[],0,0,0,0,[],0⟩:bp) 5 5 (⟨[],0,0,0,0,[],0⟩:bp)).bind _) _=_
   rw [nil _ hL];rfl
 · have a6:Cc F (⟨h.Words,h.aq,h.aA,h.aP,h.aM,h.au,h.Next⟩:bp) (⟨k.aG,k.aE,k.Fields,k.Names,k.aD⟩:bt) a n value=_:=aHW bW g bB g4 value
   have hw:∀ K:Int->Option Bool,Option.bind (α:=Int) (cond (hd k (wd h.Words a.toNat) n.toNat && (!decide (value= 0))) ((tB F (⟨h.Words,h.aq,h.aA,h.aP,h.aM,h.au,h.Next⟩:bp) (⟨k.aG,k.aE,k.Fields,k.Names,k.aD⟩:bt) value).bind fun vI=>cond (!vI) (some 5) (some 0)) (some 0)) K=K 0 :=fun K=>by
    rw [ad]
    cases ox:hd k (wd h.Words a.toNat) n.toNat with
    | false=>rfl
    | true=>
      by_cases k_:value= 0
      · rw [decide_eq_true k_];rfl
      · by_cases qX:value ∈ Y++O
        · rw [decide_eq_false k_,decide_eq_true qX];rfl
        · exact absurd ⟨ox,k_,qX⟩ jP
   rw [if_neg jP,hw,d0,cond_true,a6,Option.bind_some]
   show (ts F).bind _=_
   rw [aY,Option.bind_some]
   have bh:Small F (notes h k a n value).length:=by
    have aLi:=g.DN
    unfold notes
    split
    · unfold note
      split
      · exact ⟨by omega,by omega⟩
      · have l1:=List.length_filter_le (fun x=>decide (x <a)) h.au
        have fO:=List.length_filter_le (fun x=>!decide (x <a)) h.au
        constructor <;> (rw [List.length_append,List.length_cons];omega)
    · exact ⟨by omega,by omega⟩
   show cond true ((qO F (⟨h.Words.set (a.toNat+ 3 +n.toNat) value,h.aq,h.aA,h.aP,h.aM,notes h k a n value,h.Next⟩:bp) 0 0 (⟨h.Words.set (a.toNat+ 3 +n.toNat) value,h.aq,h.aA,h.aP,h.aM,notes h k a n value,h.Next⟩:bp)).bind _) _=_
   rw [ae_ (fun _=>⟨⟨by rw [List.length_set];omega,by rw [List.length_set];omega⟩,bh⟩) (by omega) (by rw [if_pos rfl])];rfl
end J
namespace Go.Proofs.YtpkhpagplommoaaGreat.heapSets
open Go Go.ChangeShapes Go.WideShapes Go.ChangeAt Go.RowKit
theorem own:ownKnob Tryz.prog.godebug=none:=by kernel_rfl
set_option maxRecDepth 100000 in
theorem akC (H:Type) (enc:TypeId × Value->H) (W:World) (base:Nat) (args:Array Value) (ds gs:List (DataW H)) (before:List MemPlace)
 (pI:∀ (j:Nat) t v,Tryz.f7.params[j]? =some t->args[j]? =some v->Value.okWide Tryz.prog W .any base t v)
 (jz:DataW.Whole enc Tryz.prog Tryz.f7.params.toList Rows.heapSetsSpec.vars false W args.toList ds gs before) (aCz:∀ n ∈ DataW.weightsEach Tryz.prog Tryz.f7.params.toList ds,n<=reachBytes) :
 Calls Tryz.prog 7 args W fun e kg=>∃ v,e= .returned v/\Rows.heapSetsSpec.post enc Tryz.prog Tryz.f7 false true false false W args v kg:=by
 have apr:=jz
 have dP:=jz.lt
 obtain ⟨p,q,alS,CX,H5,SE,UN⟩:=jz
 have gf:DataW.TrodAll enc Tryz.prog W 0 (fun _=>true) true Tryz.f7.params.toList args.toList ds p:=alS
 have iv:=aCz
 rw [Tryz.params7] at gf pI iv
 obtain ⟨v0,aLu,d0,aKI,ig,aLr,RY,rfl,rfl,bJ,aId⟩:=trodAll_cons gf
 obtain ⟨v1,aLv,d1,aKJ,hr,hH,rfl,rfl,rfl,aB,aIe⟩:=trodAll_cons aId
 obtain ⟨v2,aLw,d2,aKK,mf,iy,rfl,rfl,rfl,aR,aIf⟩:=trodAll_cons aIe
 obtain ⟨v3,aLx,d3,aKL,s4,nX,rfl,rfl,rfl,bT,aIg⟩:=trodAll_cons aIf
 obtain ⟨v4,aLy,d4,aKM,DQ,agj,rfl,rfl,rfl,eo,aIh⟩:=trodAll_cons aIg
 obtain ⟨rfl,rfl,rfl⟩:=trodAll_nil aIh
 obtain rfl:args= #[v0,v1,v2,v3,v4]:=by cases args;simp_all
 obtain ⟨rfl,rfl⟩:=trodVars_none CX
 have aHB:=aHf (enc:=enc) (N:=reachBytes)
 have aHz:=a2.aaM aHB bJ (fun x aj=>dP x (by subst H5;simp [aj]))
 have aHD:=aHz (fun m hm=>iv m (by simp only [DataW.weightsEach,List.mem_append];simp [hm]))
 obtain ⟨d0,kE,ln⟩:=aHD
 obtain ⟨v0,rfl,_⟩:=okWide_struct Tryz.underlying24 (pI 0 24 v0 rfl rfl)
 obtain ⟨aJZ,aKf,aJ0,aKg,iE,aGW,aGX⟩:=kE
 obtain rfl:=a2.aaH iE
 have aHC:=aHg (enc:=enc) (N:=reachBytes)
 have aHA:=a2.aaM aHC aB (fun x aj=>dP x (by subst H5;simp [aj]))
 have aHE:=aHA (fun m hm=>iv m (by simp only [DataW.weightsEach,List.mem_append];simp [hm]))
 obtain ⟨d1,j4,iL⟩:=aHE
 obtain ⟨v1,rfl,_⟩:=okWide_struct Tryz.underlying30 (pI 1 30 v1 rfl rfl)
 obtain ⟨aJ4,aKk,aJ5,aKl,aJ6,aKm,aJ7,aKn,aJ8,aKo,bL,aGY,aGZ,aG0,aG1,aG2⟩:=j4
 obtain rfl:=a2.aaH bL
 obtain ⟨AY,rfl,kO⟩:=a2.QB Tryz.underlying3 (pI 2 3 v2 rfl rfl) aR
 obtain ⟨aGp,rfl,l2⟩:=a2.QB Tryz.underlying3 (pI 3 3 v3 rfl rfl) bT
 obtain ⟨aGq,rfl,uO⟩:=a2.QB Tryz.underlying3 (pI 4 3 v4 rfl rfl) eo
 obtain ⟨F,bW⟩:=J.aGS d0 ln d1 iL AY kO aGp l2 aGq uO
 refine (ajs (X:=[]) (M0:=[]) (W:=W) ⟨a2.a7.refl _ _,fun _ bh=>absurd bh (List.not_mem_nil),fun _ bh=>absurd bh (List.not_mem_nil),fun _ aj=>absurd aj (List.not_mem_nil),List.nodup_nil,fun y hy=>by (simp only [List.mem_cons,List.not_mem_nil,or_false] at hy;rcases hy with rfl | rfl | rfl | rfl | rfl | rfl | rfl <;> first | exact aGW | exact aGX | exact aGY | exact aGZ | exact aG0 | exact aG1 | exact aG2)⟩ bW).mono fun e kg ⟨he,ad⟩=>?_
 exact ⟨_,he,a2.aGU apr (by kernel_rfl) (by kernel_rfl) rfl rfl Tryz.underlying4 rfl ad.ev⟩
theorem aF3 (os:Os):laidMet Tryz.prog Rows.heapSetsRow.laid ((World.holding Tryz.prog os ⟨#[],#[],[]⟩).forCall (fun _ _=>0) ⟨#[],#[.agg #[.slice none 0 0,.int .i64 0,.int .i64 0,.int .i64 0,.int .i64 0,.slice none 0 0,.int .i64 0],.agg #[.slice none 0 0,.slice none 0 0,.slice none 0 0,.slice none 0 0,.slice none 0 0],.int .i64 0,.int .i64 0,.int .i64 0],[]⟩).memory:=
 laidMet_of_run' 8 (by kernel_rfl) (by kernel_rfl)
theorem reads (os:Os) {H:Type} (enc:TypeId × Value->H):∃ places,DataW.whole enc Tryz.prog ((World.holding Tryz.prog os ⟨#[],#[],[]⟩).forCall (fun _ _=>0) ⟨#[],#[.agg #[.slice none 0 0,.int .i64 0,.int .i64 0,.int .i64 0,.int .i64 0,.slice none 0 0,.int .i64 0],.agg #[.slice none 0 0,.slice none 0 0,.slice none 0 0,.slice none 0 0,.slice none 0 0],.int .i64 0,.int .i64 0,.int .i64 0],[]⟩).memory Tryz.f7.params.toList Rows.heapSetsSpec.vars false (#[.agg #[.slice none 0 0,.int .i64 0,.int .i64 0,.int .i64 0,.int .i64 0,.slice none 0 0,.int .i64 0],.agg #[.slice none 0 0,.slice none 0 0,.slice none 0 0,.slice none 0 0,.slice none 0 0],.int .i64 0,.int .i64 0,.int .i64 0]:Array Value).toList 8 =some ([.agg [.nil,.lit (.int .i64 0),.lit (.int .i64 0),.lit (.int .i64 0),.lit (.int .i64 0),.nil,.lit (.int .i64 0)],.agg [.nil,.nil,.nil,.nil,.nil],.lit (.int .i64 0),.lit (.int .i64 0),.lit (.int .i64 0)],[],places):=
 ⟨[],by kernel_rfl⟩
set_option maxRecDepth 100000 in
theorem lifted (os:Os) (started:os.Started) (H:Type) (enc:TypeId × Value->H) (F:Stop.Interp) :
 ReturnsInHanded {} Tryz.checked os 7 .any ((OpenSpec.ofChange Rows.heapSetsSpec).preRow enc Tryz.prog Tryz.f7 Rows.heapSetsRow.domain false Rows.heapSetsRow.laid) (((OpenSpec.ofChange Rows.heapSetsSpec).at F).post enc Tryz.prog Tryz.f7 false true false false):=by
 obtain ⟨places,aj⟩:=reads os enc
 refine returnsInHanded_of_row (C:=Tryz.checked) (s:=OpenSpec.ofChange Rows.heapSetsSpec) own started (by kernel_rfl) Tryz.func7
  (witness_row_at (enc:=enc) (C:=Tryz.checked) false (World.holding Tryz.prog os ⟨#[],#[],[]⟩) #[.agg #[.slice none 0 0,.int .i64 0,.int .i64 0,.int .i64 0,.int .i64 0,.slice none 0 0,.int .i64 0],.agg #[.slice none 0 0,.slice none 0 0,.slice none 0 0,.slice none 0 0,.slice none 0 0],.int .i64 0,.int .i64 0,.int .i64 0] rfl (by kernel_rfl) (by kernel_rfl) (by kernel_rfl)
   (OpenSpec.preRow_of_cond 8 aj (by kernel_rfl) (fun k bh=>by cases bh) (by kernel_rfl) (aF3 os))) ?_
 intro W base args ds gs before pI jz _ aLc aCT _ _ _
 exact akC H enc W base args ds gs before pI jz (fun n af=>by obtain ⟨_,_,_,CX,_,_,_⟩:=jz;obtain ⟨rfl,_⟩:=trodVars_none CX;have aeC:(DataW.weightsEach Tryz.prog (Tryz.f7.params.toList++[]) (ds++[])).all (· <=reachBytes)=true:=aCT;rw [List.append_nil,List.append_nil] at aeC;exact of_decide_eq_true (List.all_eq_true.1 aeC n af))
theorem said:Rows.HeapSetsSaid:=
 OpenClaim.holds_of_cond 7 Tryz.f7 rfl rfl rfl rfl rfl rfl rfl ⟨rfl,rfl,rfl,rfl,rfl⟩ rfl rfl rfl rfl rfl (by kernel_rfl) Tryz.func7 (by kernel_rfl)
  (of_decide_eq_true (by kernel_rfl)) (by unfold Func.isWrapper;first | (rw [if_pos (by decide +kernel)];kernel_rfl) | (rw [if_neg (by decide +kernel)];exact ⟨rfl,rfl⟩))
  (fun os started H enc _ F=>by rw [OpenClaim.pre_eq_preRow];exact lifted os started H enc F)
end Go.Proofs.YtpkhpagplommoaaGreat.heapSets
