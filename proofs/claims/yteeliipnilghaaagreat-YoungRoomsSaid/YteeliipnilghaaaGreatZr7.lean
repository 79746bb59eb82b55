/- LAW: THE WALK AND THE PLAIN LAW, JOINED TO THE GIVEN STATEMENT: for every input that the row speaks of, the call returns true and what came in reads as it did. Made by program (liftgen2.py). -/
import Derived.Test.YteeliipnilghaaaGreatZr6
import Derived.Test.YteeliipnilghaaaGreatRows
import Derived.WalkKit
import Derived.ProofKit
import Derived.OpenShut
import Derived.Deep.DeepHandedRow
namespace I
def wE (h:aU):Prop:=(3 <=h.aW/\h.aW<= 2000)/\(3 <=h.a9/\h.a9<= 2000)
def okB (h:aU):Prop:=(h.Words.length:Int)= 1 +h.aW+h.a9
def Et (h:aU):Prop:=(1 <=h.bq/\h.bq<=h.aW+ 1)/\(h.aW+ 1 <=h.bm/\h.bm<=h.aW+h.a9+ 1)/\ 1 <=h.Next
instance (h:aU):Decidable (wE h):=inferInstanceAs (Decidable ((3 <=h.aW/\h.aW<= 2000)/\(3 <=h.a9/\h.a9<= 2000)))
instance (h:aU):Decidable (okB h):=inferInstanceAs (Decidable ((h.Words.length:Int)= 1 +h.aW+h.a9))
instance (h:aU):Decidable (Et h):=inferInstanceAs (Decidable ((1 <=h.bq/\h.bq<=h.aW+ 1)/\(h.aW+ 1 <=h.bm/\h.bm<=h.aW+h.a9+ 1)/\ 1 <=h.Next))
def ki (h:aU):Int:=if wE h then (if okB h then (if Et h then 0 else 3) else 1) else 3
theorem avR (h:aU):vE h=some (ki h):=by
 unfold vE kT ki
 simp only [Option.bind_some]
 by_cases dT:wE h
 case neg=>
  rw [if_neg dT]
  unfold wE at dT
  by_cases a:3 <=h.aW/\h.aW<= 2000
  · have b: ¬ (3 <=h.a9/\h.a9<= 2000):=fun b=>dT ⟨a,b⟩
    rw [show (decide (3 <=h.aW) && decide (h.aW<= 2000))=true by simpa using a,show (decide (3 <=h.a9) && decide (h.a9<= 2000))=false by rw [Bool.eq_false_iff];simpa using b]
    rfl
  · rw [show (decide (3 <=h.aW) && decide (h.aW<= 2000))=false by rw [Bool.eq_false_iff];simpa using a]
    rfl
 rw [if_pos dT]
 unfold wE at dT
 obtain ⟨⟨cR,di⟩,dW,eJ⟩:=dT
 rw [show (decide (3 <=h.aW) && decide (h.aW<= 2000))=true by simp;omega,show (decide (3 <=h.a9) && decide (h.a9<= 2000))=true by simp;omega,
  dx (n:=1 +h.aW) (by omega) (by omega),dx (n:=1 +h.aW+h.a9) (by omega) (by omega),dx (n:=h.aW+ 1) (by omega) (by omega),dx (n:=h.aW+h.a9) (by omega) (by omega),dx (n:=h.aW+h.a9+ 1) (by omega) (by omega)]
 simp only [Bool.not_true,cond_false]
 by_cases bZ:okB h
 case neg=>
  rw [if_neg bZ,show decide ((h.Words.length:Int)= 1 +h.aW+h.a9)=false from decide_eq_false bZ];rfl
 rw [if_pos bZ,show decide ((h.Words.length:Int)= 1 +h.aW+h.a9)=true from decide_eq_true bZ]
 simp only [Bool.not_true,cond_false]
 by_cases gI:Et h
 · rw [if_pos gI]
   obtain ⟨cJ,cm,dS⟩:=gI
   rw [show (decide (1 <=h.bq) && decide (h.bq<=h.aW+ 1))=true by simpa using cJ,show (decide (h.aW+ 1 <=h.bm) && decide (h.bm<=h.aW+h.a9+ 1))=true by simpa using cm,show decide (h.Next < 1)=false from decide_eq_false (by omega)]
   rfl
 · rw [if_neg gI]
   by_cases cJ:1 <=h.bq/\h.bq<=h.aW+ 1
   · rw [show (decide (1 <=h.bq) && decide (h.bq<=h.aW+ 1))=true by simpa using cJ]
     by_cases cm:h.aW+ 1 <=h.bm/\h.bm<=h.aW+h.a9+ 1
     · have dS:h.Next < 1 :=by
        rcases Int.lt_or_le h.Next 1 with c | c
        · exact c
        · exact absurd ⟨cJ,cm,c⟩ gI
       rw [decide_eq_true dS,Bool.or_true];rfl
     · rw [show (decide (h.aW+ 1 <=h.bm) && decide (h.bm<=h.aW+h.a9+ 1))=false by rw [Bool.eq_false_iff];simpa using cm]
       rfl
   · rw [show (decide (1 <=h.bq) && decide (h.bq<=h.aW+ 1))=false by rw [Bool.eq_false_iff];simpa using cJ]
     rfl
structure hg (h:aU):Prop where
 A:wE h
 B:okB h
 C:Et h
theorem QT {h:aU}:ki h= 0 ↔ hg h:=by
 unfold ki
 constructor
 · intro e
   split at e
   · split at e
     · split at e
       · exact ⟨‹_›,‹_›,‹_›⟩
       · cases e
     · cases e
   · cases e
 · rintro ⟨a,b,c⟩
   rw [if_pos a,if_pos b,if_pos c]
section
variable {F:Nat} {k:aH} {W:List Int}
theorem e7.mem {to q:Nat} {L:List Int} (h:e7 k W to q L):∀ a ∈ L,∃ n:Nat,a=(n:Int)/\q<=n/\n+ 3 +(wd W (n+ 1)).toNat<=to/\gV k (wd W n)=true/\isLen k (wd W n) (wd W (n+ 1))=true:=by
 induction h with
 | nil=>intro a a3;cases a3
 | cons J aa az _ bH=>
   intro a a3
   rcases List.mem_cons.1 a3 with rfl | a3
   · exact ⟨_,rfl,Nat.le_refl _,az,J,aa⟩
   · obtain ⟨n,e,bp,dj⟩:=bH a a3
     exact ⟨n,e,by omega,dj⟩
theorem e7.Jb {to q:Nat} {L L':List Int} (h:e7 k W to q L) (h':e7 k W to q L'):L=L':=by
 induction h generalizing L' with
 | nil=>
   cases h' with
   | nil=>rfl
   | cons _ _ _ _=>omega
 | cons _ _ az _ bH=>
   cases h' with
   | nil=>omega
   | cons _ _ _ bp=>rw [bH bp]
theorem e7.len {to q:Nat} {L:List Int} (h:e7 k W to q L):3 *L.length+q<=to:=by
 induction h with
 | nil=>simp
 | cons _ _ az _ bH=>simp only [List.length_cons];omega
theorem avV {l:List Int} {N:Nat} (h:u4 l) (aY:∀ i,i <l.length-> 0 <=wd l i/\wd l i <N):l.length<=N:=by
 have key:∀ i,i <l.length->(i:Int)<=wd l i:=by
  intro i
  induction i with
  | zero=>intro hi;exact (aY 0 hi).1
  | succ i bH=>
    intro hi
    have:=h i (i+ 1) (by omega) hi
    have:=bH (by omega)
    omega
 rcases Nat.eq_zero_or_pos l.length with e | e
 · omega
 · have:=key (l.length - 1) (by omega)
   have:=(aY (l.length - 1) (by omega)).2
   omega
theorem Ot (x:Int):∀ A:List Int,(dL (A.map fun a=>(a,true)) x).getD false=decide (x ∈ A)
 | []=>by simp [dL]
 | a::r=>by
   rw [List.map_cons,dL]
   by_cases e:a=x
   · simp [e]
   · rw [if_neg e,Ot x r]
     have: ¬ x=a:=fun h=>e h.symm
     simp [this]
def view (h:aU) (k:aH) (Y O:List Int):bb:=⟨h,⟨k⟩,Y,O,(Y++O).map fun a=>(a,true)⟩
structure g8 (h:aU) (k:aH) (Y O:List Int):Prop where
 y:e7 k h.Words h.bq.toNat 1 Y
 o:e7 k h.Words h.bm.toNat (h.aW+ 1).toNat O
theorem hg.lf {h:aU} (ar:hg h):h.Words.length<= 4001 :=by
 obtain ⟨⟨⟨a,b⟩,c,d⟩,e,_⟩:=ar
 unfold okB at e;omega
theorem g8.uC {h:aU} {Y O:List Int} (ak:gD k) (ar:hg h) (au:g8 h k Y O):lp (view h k Y O):=by
 have hw:=ar.lf
 obtain ⟨⟨⟨cR,di⟩,dW,eJ⟩,b,⟨cJ,cm⟩,⟨dS,hq⟩,iM⟩:=ar
 unfold okB at b
 refine ⟨ak,by show h.Words.length<= 4900;omega,?_,fun a a3=>?_,fun x=>Ot x _⟩
 · have:=au.y.len;have:=au.o.len
   show Y.length+O.length<= 5000
   omega
 · have a3:a ∈ Y++O:=a3
   rcases List.mem_append.1 a3 with a3 | a3
   · obtain ⟨n,rfl,J,aa,az,bp⟩:=au.y.mem a a3
     exact ⟨by omega,by show ((n:Int).toNat)+ 3 +(wd h.Words ((n:Int).toNat+ 1)).toNat<=h.Words.length;rw [Int.toNat_natCast];omega,by rw [Int.toNat_natCast];exact az,by rw [Int.toNat_natCast];exact bp⟩
   · obtain ⟨n,rfl,J,aa,az,bp⟩:=au.o.mem a a3
     exact ⟨by omega,by show ((n:Int).toNat)+ 3 +(wd h.Words ((n:Int).toNat+ 1)).toNat<=h.Words.length;rw [Int.toNat_natCast];omega,by rw [Int.toNat_natCast];exact az,by rw [Int.toNat_natCast];exact bp⟩
def ah (v:bb):Int:=if (v.aW++v.a9).any (jo v) then 3 else if ((v.aW++v.a9).map (ar v.H.Words)).Nodup then 0 else 6
def jK (v:bb):Int:=if (v.aW++v.a9).any (k6 v) then 5 else if (free v.H).any (fun x=>!decide (x= 0)) then 1 else 0
def tX (v:bb):Int:=if (List.range v.H.bg.length).any (f_ v) || v.a9.any (l6 v) then 4 else 0
def ld (v:bb):Int:=if ah v= 0 then (if jK v= 0 then tX v else jK v) else ah v
inductive Spec (h:aU) (k:aH):Option bb × Int->Prop
 | size: ¬ hg h->Spec h k (none,ki h)
 | form:hg h->(∀ Y O,¬ g8 h k Y O)->Spec h k (none,1)
 | rest {Y O:List Int}:hg h->g8 h k Y O->Spec h k (if ld (view h k Y O)= 0 then some (view h k Y O) else none,ld (view h k Y O))
theorem aax (aR:10000 <F) {h:aU} (ak:gD k) (aS:Small F h.bg.length):∃ r,o0 F h k=some r/\Spec h k r:=by
 unfold o0
 have dn:vE (⟨h.Words,h.aW,h.a9,h.bq,h.bm,h.bg,h.Next⟩:aU)=some (ki h):=avR h
 rw [dn,Option.bind_some]
 by_cases ar:hg h
 case neg=>
  rw [n4 (fun e=>ar (QT.1 e))]
  exact ⟨_,rfl,.size ar⟩
 rw [QT.2 ar,oL]
 have hw:=ar.lf
 have ct:=ar
 obtain ⟨⟨⟨cR,di⟩,dW,eJ⟩,b,⟨cJ,cm⟩,⟨dS,hq⟩,iM⟩:=ar
 unfold okB at b
 have t1:=abW (F:=F) (by omega) (⟨h,⟨k⟩,[],[],[]⟩:bb) ak (q:=1) (to:=h.bq.toNat) (by omega) (by show _<=h.Words.length;omega) (by show h.Words.length<= 5000;omega) (fun p aP=>by cases aP)
 rw [show ((h.bq.toNat:Nat):Int)=h.bq by omega] at t1
 rw [dx (n:=h.aW+ 1) (by omega) (by omega)]
 rcases t1 with ⟨Y,GX,ao⟩ | ⟨iT,eA,ao⟩
 case inr=>
  have ao:jp F (⟨(⟨h.Words,h.aW,h.a9,h.bq,h.bm,h.bg,h.Next⟩:aU),(⟨(⟨k.bJ,k.bB,k.Fields,k.Names,k.bC⟩:aH)⟩:bM),[],[],[]⟩:bb) 1 h.bq=some ([],false,(⟨h,⟨k⟩,[],[],eA⟩:bb)):=ao
  rw [ao,Option.bind_some]
  have t2:∃ r,jp F (⟨(⟨h.Words,h.aW,h.a9,h.bq,h.bm,h.bg,h.Next⟩:aU),(⟨(⟨k.bJ,k.bB,k.Fields,k.Names,k.bC⟩:aH)⟩:bM),[],[],eA⟩:bb) (h.aW+ 1) h.bm=some r:=by
   unfold jp
   have key:∀ (f q:Nat) (acc:List Int) (m:List (Int × Bool)),q<=h.bm.toNat->h.bm.toNat - q <f->acc.length+(h.bm.toNat - q)<= 5000 -> ∃ r,lC h.bm (⟨h,⟨k⟩,[],[],eA⟩:bb) f acc m (q:Int)=some r:=by
    intro f
    induction f with
    | zero=>intro q acc m _ a1;omega
    | succ f bH=>
      intro q acc m a1 ag qo
      rw [lC]
      by_cases bL:(q:Int) <h.bm
      case neg=>rw [decide_eq_false bL];exact ⟨_,rfl⟩
      rw [decide_eq_true bL,cond_true,dx (n:=(q:Int)+ 3) (by omega) (by omega)]
      by_cases az:h.bm <(q:Int)+ 3
      · rw [decide_eq_true az];exact ⟨_,rfl⟩
      rw [decide_eq_false az,cond_false]
      show ∃ r,(idx h.Words (q:Int)).bind _=some r
      rw [js (by omega),Option.bind_some]
      show ∃ r,(idx h.Words (aX ((q:Int)+ 1))).bind _=some r
      rw [dx (n:=(q:Int)+ 1) (by omega) (by omega),nK (i:=q+ 1) (by omega) (by omega),Option.bind_some]
      have ao:oW (⟨(⟨k.bJ,k.bB,k.Fields,k.Names,k.bC⟩:aH)⟩:bM) (wd h.Words q)=some (gV k (wd h.Words q)):=abI ak _
      show ∃ r,(oW (⟨(⟨k.bJ,k.bB,k.Fields,k.Names,k.bC⟩:aH)⟩:bM) (wd h.Words q)).bind _=some r
      rw [ao,Option.bind_some]
      cases aL:gV k (wd h.Words q) with
      | false=>exact ⟨_,rfl⟩
      | true=>
        have aq:oX (⟨(⟨k.bJ,k.bB,k.Fields,k.Names,k.bC⟩:aH)⟩:bM) (wd h.Words q) (wd h.Words (q+ 1))=some (isLen k (wd h.Words q) (wd h.Words (q+ 1))):=abJ ak aL _
        rw [Bool.not_true,cond_false]
        show ∃ r,(oX (⟨(⟨k.bJ,k.bB,k.Fields,k.Names,k.bC⟩:aH)⟩:bM) (wd h.Words q) (wd h.Words (q+ 1))).bind _=some r
        rw [aq,Option.bind_some]
        cases au:isLen k (wd h.Words q) (wd h.Words (q+ 1)) with
        | false=>exact ⟨_,rfl⟩
        | true=>
          obtain ⟨⟨o9,l1⟩,_⟩:=vX.1 au
          rw [Bool.not_true,Bool.false_or,dx (n:=(q:Int)+ 3 +wd h.Words (q+ 1)) (by omega) (by omega)]
          by_cases Dj:h.bm <(q:Int)+ 3 +wd h.Words (q+ 1)
          · rw [decide_eq_true Dj];exact ⟨_,rfl⟩
          rw [decide_eq_false Dj,cond_false,h7 (by simp;omega),Option.bind_some,dx (n:=3 +wd h.Words (q+ 1)) (by omega) (by omega),dx (n:=(q:Int)+(3 +wd h.Words (q+ 1))) (by omega) (by omega),
           show (q:Int)+(3 +wd h.Words (q+ 1))=((q+ 3 +(wd h.Words (q+ 1)).toNat:Nat):Int) by omega]
          exact bH _ _ _ (by omega) (by omega) (by simp;omega)
   obtain ⟨r,aN⟩:=key F (h.aW+ 1).toNat [] eA (by omega) (by omega) (by simp;omega)
   rw [show (((h.aW+ 1).toNat:Nat):Int)=h.aW+ 1 by omega] at aN
   have aN:lC h.bm (⟨(⟨h.Words,h.aW,h.a9,h.bq,h.bm,h.bg,h.Next⟩:aU),(⟨(⟨k.bJ,k.bB,k.Fields,k.Names,k.bC⟩:aH)⟩:bM),[],[],eA⟩:bb) F [] eA (h.aW+ 1)=some r:=aN
   rw [aN]
   cases r <;> exact ⟨_,rfl⟩
  obtain ⟨r,aq⟩:=t2
  rw [aq,Option.bind_some]
  exact ⟨_,rfl,.form ct (fun Y O au=>iT Y au.y)⟩
 have ao:jp F (⟨(⟨h.Words,h.aW,h.a9,h.bq,h.bm,h.bg,h.Next⟩:aU),(⟨(⟨k.bJ,k.bB,k.Fields,k.Names,k.bC⟩:aH)⟩:bM),[],[],[]⟩:bb) 1 h.bq=some (Y,true,(⟨h,⟨k⟩,[],[],Y.map fun a=>(a,true)⟩:bb)):=ao
 rw [ao,Option.bind_some]
 have t2:=abW (F:=F) (by omega) (⟨h,⟨k⟩,[],[],Y.map fun a=>(a,true)⟩:bb) ak (q:=(h.aW+ 1).toNat) (to:=h.bm.toNat) (by omega) (by show _<=h.Words.length;omega) (by show h.Words.length<= 5000;omega) (fun p aP=>by
  obtain ⟨a,a3,rfl⟩:=List.mem_map.1 aP
  have aki:e7 k h.Words h.bq.toNat 1 Y:=GX
  obtain ⟨n,rfl,J,aa,_⟩:=aki.mem a a3
  show (n:Int) <_
  omega)
 rw [show ((h.bm.toNat:Nat):Int)=h.bm by omega,show (((h.aW+ 1).toNat:Nat):Int)=h.aW+ 1 by omega] at t2
 rcases t2 with ⟨O,j2,aq⟩ | ⟨iT,eA,aq⟩
 case inr=>
  have aq:jp F (⟨(⟨h.Words,h.aW,h.a9,h.bq,h.bm,h.bg,h.Next⟩:aU),(⟨(⟨k.bJ,k.bB,k.Fields,k.Names,k.bC⟩:aH)⟩:bM),[],[],Y.map fun a=>(a,true)⟩:bb) (h.aW+ 1) h.bm=_:=aq
  show ∃ r,(jp F (⟨(⟨h.Words,h.aW,h.a9,h.bq,h.bm,h.bg,h.Next⟩:aU),(⟨(⟨k.bJ,k.bB,k.Fields,k.Names,k.bC⟩:aH)⟩:bM),[],[],Y.map fun a=>(a,true)⟩:bb) (h.aW+ 1) h.bm).bind _=some r/\_
  rw [aq,Option.bind_some]
  exact ⟨_,rfl,.form ct (fun Kg FI au=>iT FI au.o)⟩
 have aq:jp F (⟨(⟨h.Words,h.aW,h.a9,h.bq,h.bm,h.bg,h.Next⟩:aU),(⟨(⟨k.bJ,k.bB,k.Fields,k.Names,k.bC⟩:aH)⟩:bM),[],[],Y.map fun a=>(a,true)⟩:bb) (h.aW+ 1) h.bm=some (O,true,(⟨h,⟨k⟩,[],[],(Y.map fun a=>(a,true))++O.map fun a=>(a,true)⟩:bb)):=aq
 show ∃ r,(jp F (⟨(⟨h.Words,h.aW,h.a9,h.bq,h.bm,h.bg,h.Next⟩:aU),(⟨(⟨k.bJ,k.bB,k.Fields,k.Names,k.bC⟩:aH)⟩:bM),[],[],Y.map fun a=>(a,true)⟩:bb) (h.aW+ 1) h.bm).bind _=some r/\_
 rw [aq,Option.bind_some,<-List.map_append]
 have au:g8 h k Y O:=⟨GX,j2⟩
 have aj:=au.uC ak ct
 have h0:vB F (⟨(⟨h.Words,h.aW,h.a9,h.bq,h.bm,h.bg,h.Next⟩:aU),(⟨(⟨k.bJ,k.bB,k.Fields,k.Names,k.bC⟩:aH)⟩:bM),Y,O,(Y++O).map fun a=>(a,true)⟩:bb)=some (ah (view h k Y O)):=
  ako aR (view h k Y O) aj.qd (fun a a3=>⟨(aj.od a a3).pos,by have:=(aj.od a a3).fit;omega⟩) (by have:=aj.lf;omega) (by simp [view])
 have w3:vD F (⟨(⟨h.Words,h.aW,h.a9,h.bq,h.bm,h.bg,h.Next⟩:aU),(⟨(⟨k.bJ,k.bB,k.Fields,k.Names,k.bC⟩:aH)⟩:bM),Y,O,(Y++O).map fun a=>(a,true)⟩:bb)=some (jK (view h k Y O)):=
  awv aR aj (by show 0 <=h.aW;omega) ⟨by show 0 <=h.bq;omega,by show h.bq<=h.aW+ 1;omega,by show h.aW+ 1 <=h.Words.length;omega⟩ ⟨by show 0 <=h.bm;omega,by show h.bm<=h.Words.length;omega⟩
 have aw_:vC F (⟨(⟨h.Words,h.aW,h.a9,h.bq,h.bm,h.bg,h.Next⟩:aU),(⟨(⟨k.bJ,k.bB,k.Fields,k.Names,k.bC⟩:aH)⟩:bM),Y,O,(Y++O).map fun a=>(a,true)⟩:bb)=some (tX (view h k Y O)):=
  ao8 aR aj aS.1 aS.2 (fun hN=>by
   refine Nat.le_trans (avV (N:=5000) (Q1 fun i hi=>?_) (fun i hi=>?_)) (by omega)
   · have:=hN (i+ 1) hi
     unfold f_ at this
     simp only [Bool.or_eq_false_iff,Bool.and_eq_false_iff,decide_eq_false_iff_not,Nat.add_sub_cancel] at this
     rcases this.1 with z | z
     · omega
     · have z: ¬ wd h.bg (i+ 1)<=wd h.bg i:=z
       show wd h.bg i <wd h.bg (i+ 1);omega
   · have:=hN i hi
     unfold f_ n3 at this
     simp only [Bool.or_eq_false_iff] at this
     have hm:wd (view h k Y O).H.bg i ∈ (view h k Y O).aW++(view h k Y O).a9:=by
      have:=this.2.1.1
      simp only [Bool.not_eq_false'] at this
      exact of_decide_eq_true this
     have aL:=aj.od _ hm
     have J:0 <=wd h.bg i:=aL.pos
     have aa:(wd h.bg i).toNat+ 3 +(wd h.Words ((wd h.bg i).toNat+ 1)).toNat<=h.Words.length:=aL.fit
     exact ⟨J,by show wd h.bg i <((5000 :Nat):Int);omega⟩)
 simp only [Bool.not_true,Bool.or_self,cond_false]
 rw [h0,Option.bind_some]
 by_cases bx:ah (view h k Y O)= 0
 case neg=>
  rw [n4 bx]
  have cr:ld (view h k Y O)=ah (view h k Y O):=by unfold ld;rw [if_neg bx]
  have:=Spec.rest ct au
  rw [cr,if_neg bx] at this
  exact ⟨_,rfl,this⟩
 rw [bx,oL,w3,Option.bind_some]
 by_cases b6:jK (view h k Y O)= 0
 case neg=>
  rw [n4 b6]
  have cr:ld (view h k Y O)=jK (view h k Y O):=by unfold ld;rw [if_pos bx,if_neg b6]
  have:=Spec.rest ct au
  rw [cr,if_neg b6] at this
  exact ⟨_,rfl,this⟩
 rw [b6,oL,aw_,Option.bind_some]
 have cr:ld (view h k Y O)=tX (view h k Y O):=by unfold ld;rw [if_pos bx,if_pos b6]
 have vO:=Spec.rest ct au
 rw [cr] at vO
 by_cases b':tX (view h k Y O)= 0
 · rw [b'] at vO ⊢
   rw [oL]
   exact ⟨_,rfl,vO⟩
 · rw [n4 b']
   rw [if_neg b'] at vO
   exact ⟨_,rfl,vO⟩
end
end I
namespace I
theorem awt {W:List Int} {p j:Nat} {x:Int} (aP:p <W.length):wd (W.set p x) j=if j=p then x else wd W j:=by
 unfold wd
 rw [List.getElem?_set]
 by_cases e:j=p
 · subst e;simp [aP]
 · have: ¬ p=j:=fun h=>e h.symm
   simp [e,this]
theorem Z1 {h:aU} {x:Int} (hy:0 <=h.aW) (af:x ∈ free h):∃ i:Nat,i <h.Words.length/\(i= 0 \/(h.bq<=i/\(i:Int)<=h.aW)\/h.bm<=i)/\x=wd h.Words i:=by
 unfold free at af
 rw [List.mem_append,List.mem_append] at af
 rcases af with af | af | af
 · obtain ⟨i,hi,e⟩:=List.getElem_of_mem af
   have cW:i < 1 /\i <h.Words.length:=by rw [List.length_take] at hi;omega
   refine ⟨i,cW.2,.inl (by omega),?_⟩
   rw [<-e,List.getElem_take];exact (oi (List.getElem?_eq_getElem cW.2)).symm
 · obtain ⟨i,hi,e⟩:=List.getElem_of_mem af
   have cW:i <min (h.aW+ 1).toNat h.Words.length - h.bq.toNat:=by simpa using hi
   have aa:h.bq.toNat+i <h.Words.length:=by omega
   refine ⟨h.bq.toNat+i,aa,.inr (.inl ⟨by omega,by omega⟩),?_⟩
   rw [<-e,List.getElem_drop,List.getElem_take];exact (oi (List.getElem?_eq_getElem aa)).symm
 · obtain ⟨i,hi,e⟩:=List.getElem_of_mem af
   have cW:i <h.Words.length - h.bm.toNat:=by simpa using hi
   have aa:h.bm.toNat+i <h.Words.length:=by omega
   refine ⟨h.bm.toNat+i,aa,.inr (.inr (by omega)),?_⟩
   rw [<-e,List.getElem_drop];exact (oi (List.getElem?_eq_getElem aa)).symm
theorem UG {h:aU} (aY:0 <=h.bq/\ 0 <=h.bm) {i:Nat} (hi:i <h.Words.length) (hc:i= 0 \/(h.bq<=i/\(i:Int)<=h.aW)\/h.bm<=i):wd h.Words i ∈ free h:=by
 have key:wd h.Words i=h.Words[i]:=oi (List.getElem?_eq_getElem hi)
 unfold free
 rw [List.mem_append,List.mem_append,key]
 rcases hc with rfl | ⟨J,aa⟩ | J
 · left
   rw [List.mem_iff_getElem?]
   exact ⟨0,by rw [List.getElem?_take,if_pos (by omega)];exact List.getElem?_eq_getElem hi⟩
 · right;left
   rw [List.mem_iff_getElem?]
   refine ⟨i - h.bq.toNat,?_⟩
   rw [List.getElem?_drop,List.getElem?_take,if_pos (by omega),show h.bq.toNat+(i - h.bq.toNat)=i by omega]
   exact List.getElem?_eq_getElem hi
 · right;right
   rw [List.mem_iff_getElem?]
   refine ⟨i - h.bm.toNat,?_⟩
   rw [List.getElem?_drop,show h.bm.toNat+(i - h.bm.toNat)=i by omega]
   exact List.getElem?_eq_getElem hi
structure ax (h:aU) (k:aH) (Y O:List Int):Prop where
 hash:∀ a ∈ Y++O,1 <=ar h.Words a/\ar h.Words a <h.Next
 nodup:((Y++O).map (ar h.Words)).Nodup
 ref:∀ a ∈ Y++O,∀ w ∈ refs k h.Words a.toNat,wd h.Words w.toNat= 0 \/wd h.Words w.toNat ∈ Y++O
 bd:∀ i:Nat,i <h.Words.length->(i= 0 \/(h.bq<=i/\(i:Int)<=h.aW)\/h.bm<=i)->wd h.Words i= 0
 avU:u4 h.bg
 pt:∀ x ∈ h.bg,x ∈ O/\refs k h.Words x.toNat≠ []
 must:∀ a ∈ O,¬ a ∈ h.bg-> ∀ w ∈ refs k h.Words a.toNat,¬ (0 <wd h.Words w.toNat/\wd h.Words w.toNat<=h.aW)
section
variable {F:Nat} {k:aH} {h:aU} {Y O:List Int}
theorem g8.Fo (ar:hg h) (au:g8 h k Y O):∀ a ∈ Y,1 <=a/\a.toNat+ 3 +(wd h.Words (a.toNat+ 1)).toNat<=h.bq.toNat:=fun a a3=>by
 obtain ⟨n,rfl,J,aa,_⟩:=au.y.mem a a3
 exact ⟨by omega,by rw [Int.toNat_natCast];exact aa⟩
theorem g8.n6 (ar:hg h) (au:g8 h k Y O):∀ a ∈ O,h.aW+ 1 <=a/\a.toNat+ 3 +(wd h.Words (a.toNat+ 1)).toNat<=h.bm.toNat:=fun a a3=>by
 obtain ⟨n,rfl,J,aa,_⟩:=au.o.mem a a3
 have:=ar.A.1.1
 exact ⟨by omega,by rw [Int.toNat_natCast];exact aa⟩
theorem awm (ak:gD k) (ct:hg h) (au:g8 h k Y O):ld (view h k Y O)= 0 ↔ ax h k Y O:=by
 have aj:=au.uC ak ct
 obtain ⟨⟨⟨cR,di⟩,dW,eJ⟩,b,⟨cJ,cm⟩,⟨dS,hq⟩,iM⟩:=id ct
 have hy:=au.Fo ct;have aC:=au.n6 ct
 have ao:ah (view h k Y O)= 0 ↔ (∀ a ∈ Y++O,jo (view h k Y O) a=false)/\((Y++O).map (ar h.Words)).Nodup:=by
  unfold ah
  show (if (Y++O).any (jo (view h k Y O)) then (3 :Int) else if ((Y++O).map (ar h.Words)).Nodup then 0 else 6)= 0 ↔ _
  cases ai:(Y++O).any (jo (view h k Y O)) with
  | true=>
    rw [if_pos rfl]
    refine ⟨fun e=>(by cases e),fun ⟨e,_⟩=>?_⟩
    obtain ⟨x,af,aq⟩:=List.any_eq_true.1 ai
    rw [e x af] at aq;cases aq
  | false=>
    rw [if_neg (by decide)]
    rw [List.any_eq_false] at ai
    have fi:∀ a ∈ Y++O,jo (view h k Y O) a=false:=fun a a3=>by simpa using ai a a3
    split
    · rename_i aS;exact ⟨fun _=>⟨fi,aS⟩,fun _=>rfl⟩
    · rename_i aS;exact ⟨fun e=>(by cases e),fun e=>absurd e.2 aS⟩
 have aq:jK (view h k Y O)= 0 ↔ (∀ a ∈ Y++O,k6 (view h k Y O) a=false)/\ ∀ x ∈ free h,x= 0 :=by
  unfold jK
  show (if (Y++O).any (k6 (view h k Y O)) then (5 :Int) else if (free h).any (fun x=>!decide (x= 0)) then 1 else 0)= 0 ↔ _
  cases ai:(Y++O).any (k6 (view h k Y O)) with
  | true=>
    rw [if_pos rfl]
    refine ⟨fun e=>(by cases e),fun ⟨e,_⟩=>?_⟩
    obtain ⟨x,af,aq⟩:=List.any_eq_true.1 ai
    rw [e x af] at aq;cases aq
  | false=>
    rw [if_neg (by decide)]
    rw [List.any_eq_false] at ai
    have fi:∀ a ∈ Y++O,k6 (view h k Y O) a=false:=fun a a3=>by simpa using ai a a3
    cases ag:(free h).any (fun x=>!decide (x= 0)) with
    | true=>
      rw [if_pos rfl]
      refine ⟨fun e=>(by cases e),fun ⟨_,e⟩=>?_⟩
      obtain ⟨x,af,aq⟩:=List.any_eq_true.1 ag
      rw [e x af] at aq;cases aq
    | false=>
      rw [if_neg (by decide)]
      rw [List.any_eq_false] at ag
      exact ⟨fun _=>⟨fi,fun x af=>by simpa using ag x af⟩,fun _=>rfl⟩
 have a0:tX (view h k Y O)= 0 ↔ (∀ i,i <h.bg.length->f_ (view h k Y O) i=false)/\ ∀ a ∈ O,l6 (view h k Y O) a=false:=by
  unfold tX
  show (if (List.range h.bg.length).any (f_ (view h k Y O)) || O.any (l6 (view h k Y O)) then (4 :Int) else 0)= 0 ↔ _
  cases ai:(List.range h.bg.length).any (f_ (view h k Y O)) with
  | true=>
    rw [Bool.true_or,if_pos rfl]
    refine ⟨fun e=>(by cases e),fun ⟨e,_⟩=>?_⟩
    obtain ⟨x,af,aq⟩:=List.any_eq_true.1 ai
    rw [e x (by simpa using af)] at aq;cases aq
  | false=>
    rw [Bool.false_or]
    rw [List.any_eq_false] at ai
    have fi:∀ i,i <h.bg.length->f_ (view h k Y O) i=false:=fun i hi=>by simpa using ai i (by simpa using hi)
    cases ag:O.any (l6 (view h k Y O)) with
    | true=>
      rw [if_pos rfl]
      refine ⟨fun e=>(by cases e),fun ⟨_,e⟩=>?_⟩
      obtain ⟨x,af,aq⟩:=List.any_eq_true.1 ag
      rw [e x af] at aq;cases aq
    | false=>
      rw [if_neg (by decide)]
      rw [List.any_eq_false] at ag
      exact ⟨fun _=>⟨fi,fun x af=>by simpa using ag x af⟩,fun _=>rfl⟩
 have ch:ld (view h k Y O)= 0 ↔ ah (view h k Y O)= 0 /\jK (view h k Y O)= 0 /\tX (view h k Y O)= 0 :=by
  unfold ld
  by_cases bx:ah (view h k Y O)= 0
  · rw [if_pos bx]
    by_cases b6:jK (view h k Y O)= 0
    · rw [if_pos b6];exact ⟨fun e=>⟨bx,b6,e⟩,fun e=>e.2.2⟩
    · rw [if_neg b6];exact ⟨fun e=>absurd e b6,fun e=>absurd e.2.1 b6⟩
  · rw [if_neg bx];exact ⟨fun e=>absurd e bx,fun e=>absurd e.1 bx⟩
 rw [ch,ao,aq,a0]
 have o3:∀ x,(n3 (view h k Y O) x=false) ↔ x ∈ O/\refs k h.Words x.toNat≠ []:=fun x=>by
  unfold n3 ic
  show ((!decide (x ∈ Y++O) || (decide (0 <x) && decide (x<=h.aW))) || (refs k h.Words x.toNat).isEmpty)=false ↔ _
  rw [Bool.or_eq_false_iff,Bool.or_eq_false_iff]
  constructor
  · rintro ⟨⟨J,aa⟩,az⟩
    have J:x ∈ Y++O:=by simp only [Bool.not_eq_false'] at J;exact of_decide_eq_true J
    refine ⟨?_,fun e=>by rw [e] at az;cases az⟩
    rcases List.mem_append.1 J with bp | bp
    · have:=hy x bp
      rw [decide_eq_true (by omega),decide_eq_true (by omega)] at aa
      cases aa
    · exact bp
  · rintro ⟨J,aa⟩
    have:=aC x J
    refine ⟨⟨?_,?_⟩,?_⟩
    · rw [decide_eq_true (List.mem_append_right _ J)];rfl
    · rw [decide_eq_false (p:=x<=h.aW) (by omega),Bool.and_false]
    · cases e:refs k h.Words x.toNat with
      | nil=>exact absurd e aa
      | cons _ _=>rfl
 constructor
 · rintro ⟨⟨J,aa⟩,⟨az,bp⟩,dj,gn⟩
   refine ⟨fun a a3=>?_,aa,fun a a3 w hw=>?_,fun i hi hc=>bp _ (UG ⟨by omega,by omega⟩ hi hc),Q1 fun i hi=>?_,fun x af=>?_,fun a a3 aS w hw=>?_⟩
   · have:=J a a3
     unfold jo at this
     rw [Bool.or_eq_false_iff,decide_eq_false_iff_not,decide_eq_false_iff_not] at this
     have t1: ¬ ar h.Words a < 1 :=this.1
     have t2: ¬ h.Next<=ar h.Words a:=this.2
     omega
   · have:=az a a3
     unfold k6 at this
     rw [List.any_eq_false] at this
     have g_:=this w hw
     unfold pH at g_
     by_cases e:wd h.Words w.toNat= 0
     · exact .inl e
     · refine .inr ?_
       by_cases aq:wd h.Words w.toNat ∈ Y++O
       · exact aq
       · refine absurd ?_ g_
         show (!decide (wd h.Words w.toNat= 0) && !decide (wd h.Words w.toNat ∈ Y++O))=true
         rw [decide_eq_false e,decide_eq_false aq];rfl
   · have:=dj (i+ 1) hi
     unfold f_ at this
     simp only [Bool.or_eq_false_iff,Bool.and_eq_false_iff,decide_eq_false_iff_not,Nat.add_sub_cancel] at this
     rcases this.1 with z | z
     · omega
     · have z: ¬ wd h.bg (i+ 1)<=wd h.bg i:=z
       omega
   · obtain ⟨i,hi,e⟩:=Oq af
     have:=dj i hi
     unfold f_ at this
     rw [Bool.or_eq_false_iff] at this
     have g_:n3 (view h k Y O) (wd h.bg i)=false:=this.2
     rw [e] at g_
     exact (o3 x).1 g_
   · rintro ⟨uM,y5⟩
     have:=gn a a3
     unfold l6 at this
     have this:(!decide (a ∈ h.bg) && (refs k h.Words a.toNat).any fun w=>ic (view h k Y O) (wd h.Words w.toNat))=false:=this
     rw [decide_eq_false aS,Bool.not_false,Bool.true_and,List.any_eq_false] at this
     refine this w hw ?_
     show (decide (0 <wd h.Words w.toNat) && decide (wd h.Words w.toNat<=h.aW))=true
     rw [decide_eq_true uM,decide_eq_true y5];rfl
 · intro g
   refine ⟨⟨fun a a3=>?_,g.nodup⟩,⟨fun a a3=>?_,fun x af=>?_⟩,fun i hi=>?_,fun a a3=>?_⟩
   · have:=g.hash a a3
     show (decide (ar h.Words a < 1) || decide (h.Next<=ar h.Words a))=false
     rw [decide_eq_false (by omega),decide_eq_false (by omega)];rfl
   · show ((refs k h.Words a.toNat).any (pH (view h k Y O)))=false
     rw [List.any_eq_false]
     intro w hw
     show ¬ (!decide (wd h.Words w.toNat= 0) && !decide (wd h.Words w.toNat ∈ Y++O))=true
     rcases g.ref a a3 w hw with e | e
     · rw [decide_eq_true e];simp
     · rw [decide_eq_true e];simp
   · obtain ⟨i,hi,hc,e⟩:=Z1 (by omega) af
     rw [e];exact g.bd i hi hc
   · show ((decide (0 <i) && decide (wd h.bg i<=wd h.bg (i - 1))) || n3 (view h k Y O) (wd h.bg i))=false
     rw [(o3 _).2 (g.pt _ (acn hi)),Bool.or_false]
     by_cases aY:0 <i
     · have:=g.avU (i - 1) i (by omega) hi
       rw [decide_eq_false (p:=wd h.bg i<=wd h.bg (i - 1)) (by omega),Bool.and_false]
     · rw [decide_eq_false aY];rfl
   · show (!decide (a ∈ h.bg) && (refs k h.Words a.toNat).any fun w=>ic (view h k Y O) (wd h.Words w.toNat))=false
     by_cases aS:a ∈ h.bg
     · rw [decide_eq_true aS];rfl
     · rw [decide_eq_false aS,Bool.not_false,Bool.true_and,List.any_eq_false]
       intro w hw e
       have e:(decide (0 <wd h.Words w.toNat) && decide (wd h.Words w.toNat<=h.aW))=true:=e
       simp only [Bool.and_eq_true,decide_eq_true_eq] at e
       exact g.must a a3 aS w hw e
theorem e7.apart {W:List Int} {to q:Nat} {L:List Int} (h:e7 k W to q L):∀ a ∈ L,∀ b ∈ L,a≠b->a.toNat+ 3 +(wd W (a.toNat+ 1)).toNat<=b.toNat\/b.toNat+ 3 +(wd W (b.toNat+ 1)).toNat<=a.toNat:=by
 induction h with
 | nil=>intro a a3;cases a3
 | cons J aa az hw bH=>
   intro a a3 b ai cj
   rcases List.mem_cons.1 a3 with rfl | a3
   · rcases List.mem_cons.1 ai with rfl | ai
     · exact absurd rfl cj
     · obtain ⟨n,rfl,bp,_⟩:=hw.mem b ai
       left;simp only [Int.toNat_natCast];exact bp
   · rcases List.mem_cons.1 ai with rfl | ai
     · obtain ⟨n,rfl,bp,_⟩:=hw.mem a a3
       right;simp only [Int.toNat_natCast];exact bp
     · exact bH a a3 b ai cj
theorem g8.apart (ar:hg h) (au:g8 h k Y O):∀ a ∈ Y++O,∀ b ∈ Y++O,a≠b->a.toNat+ 3 +(wd h.Words (a.toNat+ 1)).toNat<=b.toNat\/b.toNat+ 3 +(wd h.Words (b.toNat+ 1)).toNat<=a.toNat:=by
 intro a a3 b ai cj
 have hc:=ar.C.1.2
 rcases List.mem_append.1 a3 with a3 | a3 <;> rcases List.mem_append.1 ai with ai | ai
 · exact au.y.apart a a3 b ai cj
 · have:=au.Fo ar a a3;have:=au.n6 ar b ai;left;omega
 · have:=au.n6 ar a a3;have:=au.Fo ar b ai;right;omega
 · exact au.o.apart a a3 b ai cj
theorem e7.congr {W h5:List Int} {to q:Nat} {L:List Int} (h:e7 k W to q L) (he:∀ a ∈ L,wd h5 a.toNat=wd W a.toNat/\wd h5 (a.toNat+ 1)=wd W (a.toNat+ 1)):e7 k h5 to q L:=by
 induction h with
 | nil=>exact .nil
 | @cons q r J aa az hw bH=>
   obtain ⟨ao,aq⟩:=he _ List.mem_cons_self
   simp only [Int.toNat_natCast] at ao aq
   have:=bH (fun a a3=>he a (List.mem_cons_of_mem _ a3))
   rw [<-aq] at this az aa
   rw [<-ao] at J aa
   exact .cons J aa az this
theorem avf {W h5:List Int} {q:Nat} (J:wd h5 q=wd W q) (aa:wd h5 (q+ 1)=wd W (q+ 1)):refs k h5 q=refs k W q:=by unfold refs;rw [J,aa]
end
end I
namespace I
section
variable {F:Nat} {k:aH}
theorem auC (h:gD k) (t:Int):uW k t=some (gV k t):=by
 have hc:=h.fL
 unfold uW gV
 rw [dx (by omega) (by omega),Option.some.injEq,Bool.eq_iff_iff]
 simp;omega
theorem auw (h:gD k) {t:Int} (aL:gV k t=true) (n:Int):uU k t n=some (isLen k t n):=by
 unfold uU e3 isLen
 simp only [Option.bind_some]
 cases ai:(decide (0 <=n) && decide (n<= 500)) with
 | false=>simp
 | true=>
   by_cases az:t < 3
   · simp [az]
   · rw [I6 h aL az];simp [az]
theorem auA (h:gD k) {t:Int} (aL:gV k t=true) {n:Int} (aS:isLen k t n=true) {j:Nat} (aJ:(j:Int) <n):u2 k t (j:Int)=some (jw k t j):=by
 unfold u2 jw
 obtain ⟨_,au⟩:=vX.1 aS
 by_cases aa:t= 2
 · simp [aa]
 by_cases az:t < 3
 · have: ¬ 3 <=t:=by omega
   simp [aa,this]
 · have au:=au.resolve_left az
   have Mx:3 <=t:=by omega
   have o1:j <(jJ k t).length:=by omega
   rw [I6 h aL az,Option.bind_some,bE (List.getElem?_eq_getElem o1),List.getElem?_eq_getElem o1]
   simp [aa,Mx]
theorem e7.le {W:List Int} {to q:Nat} {L:List Int} (h:e7 k W to q L):q<=to:=by
 cases h with
 | nil=>exact Nat.le_refl _
 | cons J aa az bp=>omega
theorem ajG (h:aU) (ar:gD k) {to:Nat} (fC:to<=h.Words.length) (ht:h.Words.length<= 5000):∀ (f q:Nat) (acc:List Int),to - q <f->q<= 6000 ->acc.length+(to - q)<= 6000 ->
 (∃ L,e7 k h.Words to q L/\pZ h k (to:Int) f acc (q:Int)=some (.go (acc++L,(to:Int)))) \/
 ((∀ L,¬ e7 k h.Words to q L)/\(pZ h k (to:Int) f acc (q:Int)=some (.out ([],false))\/ ∃ x,pZ h k (to:Int) f acc (q:Int)=some (.go x)/\x.2 ≠(to:Int))):=by
 intro f
 induction f with
 | zero=>intro q acc h;omega
 | succ f bH=>
   intro q acc ag a1 qo
   rw [pZ]
   by_cases bL:q <to
   case neg=>
    by_cases e:q=to
    · subst e
      refine .inl ⟨[],.nil,?_⟩
      rw [b2];simp
    · rw [show decide ((q:Int) <(to:Int))=false from decide_eq_false (by omega)]
      exact .inr ⟨fun L dJ=>by have:=dJ.le;omega,.inr ⟨(acc,(q:Int)),rfl,by show (q:Int)≠(to:Int);omega⟩⟩
   rw [b3 bL,cond_true,dx (n:=(q:Int)+ 3) (by omega) (by omega)]
   by_cases az:(to:Int) <(q:Int)+ 3
   · rw [decide_eq_true az]
     refine .inr ⟨fun L dJ=>?_,.inl rfl⟩
     obtain ⟨_,_,_,_,h,_⟩:=dJ.inv bL
     omega
   rw [decide_eq_false az,cond_false,js (by omega),Option.bind_some]
   have ao:uW (⟨k.bJ,k.bB,k.Fields,k.Names,k.bC⟩:aH) (wd h.Words q)=some (gV k (wd h.Words q)):=auC ar _
   rw [ao,Option.bind_some]
   cases aL:gV k (wd h.Words q) with
   | false=>
     refine .inr ⟨fun L dJ=>?_,.inl rfl⟩
     obtain ⟨_,_,h,_⟩:=dJ.inv bL
     rw [aL] at h;cases h
   | true=>
     have aq:uU (⟨k.bJ,k.bB,k.Fields,k.Names,k.bC⟩:aH) (wd h.Words q) (wd h.Words (q+ 1))=some (isLen k (wd h.Words q) (wd h.Words (q+ 1))):=auw ar aL _
     rw [Bool.not_true,cond_false,Option.bind_some,dx (n:=(q:Int)+ 1) (by omega) (by omega),nK (i:=q+ 1) (by omega) (by omega),Option.bind_some,aq,Option.bind_some]
     cases au:isLen k (wd h.Words q) (wd h.Words (q+ 1)) with
     | false=>
       refine .inr ⟨fun L dJ=>?_,.inl rfl⟩
       obtain ⟨_,_,_,h,_⟩:=dJ.inv bL
       rw [au] at h;cases h
     | true=>
       obtain ⟨⟨o9,l1⟩,_⟩:=vX.1 au
       rw [Bool.not_true,cond_false,h7 (by simp;omega),Option.bind_some,Option.bind_some,dx (n:=3 +wd h.Words (q+ 1)) (by omega) (by omega),dx (n:=(q:Int)+(3 +wd h.Words (q+ 1))) (by omega) (by omega)]
       rw [show (q:Int)+(3 +wd h.Words (q+ 1))=((q+ 3 +(wd h.Words (q+ 1)).toNat:Nat):Int) by omega]
       rcases bH (q+ 3 +(wd h.Words (q+ 1)).toNat) (acc++[(q:Int)]) (by omega) (by omega) (by simp;omega) with ⟨L,dJ,e⟩ | ⟨aS,e⟩
       · refine .inl ⟨(q:Int)::L,.cons aL au dJ.le dJ,?_⟩
         rw [e];simp
       · refine .inr ⟨fun L dJ=>?_,e⟩
         obtain ⟨r,_,_,_,_,h⟩:=dJ.inv bL
         exact aS r h
theorem aba (aR:6000 <F) (h:aU) (ar:gD k) {to q:Nat} (a1:q<= 5000) (fC:to<=h.Words.length) (ht:h.Words.length<= 5000) :
 (∃ L,e7 k h.Words to q L/\mg F h k (q:Int) (to:Int)=some (L,true))\/((∀ L,¬ e7 k h.Words to q L)/\ ∃ l,mg F h k (q:Int) (to:Int)=some (l,false)):=by
 unfold mg
 rcases ajG h ar fC ht F q [] (by omega) (by omega) (by simp;omega) with ⟨L,dJ,e⟩ | ⟨aS,e | ⟨x,e,af⟩⟩
 · exact .inl ⟨L,dJ,by rw [e,m1];simp⟩
 · exact .inr ⟨aS,[],by rw [e,abF]⟩
 · exact .inr ⟨aS,x.1,by rw [e,m1];show some (x.1,decide (x.2 =(to:Int)))=_;rw [decide_eq_false af]⟩
theorem UJ {α ρ:Type} {p:α->Bool} {e:ρ}:∀ l:List α,l.findSome? (fun x=>if p x then some e else none)=if l.any p then some e else none
 | []=>rfl
 | x::r=>by
   rw [List.findSome?_cons,List.any_cons]
   cases p x with
   | true=>rfl
   | false=>simp only [Bool.false_or];exact UJ r
theorem Qu {l:List Int} (au:Small F l.length) (n:Int):mf F l n=some (decide (n ∈ l)):=by
 unfold mf
 have l1:sj l n F 0 =some (cB (l.findSome? fun x=>if decide (x=n) then some true else none)):=each _ au.1 (fun f i x af=>by
  rw [sj,b3 (List.getElem?_eq_some_iff.1 af).1,cond_true,bE af,Option.bind_some]
  cases decide (x=n) <;> rfl) (fun f=>by rw [sj,b2];rfl) au.2
 rw [l1,UJ]
 by_cases e:n ∈ l
 · rw [show (l.any fun x=>decide (x=n))=true from List.any_eq_true.2 ⟨n,e,by simp⟩,decide_eq_true e];rfl
 · rw [show (l.any fun x=>decide (x=n))=false from List.any_eq_false.2 fun x af=>by simp;rintro rfl;exact e af,decide_eq_false e];rfl
theorem auB (aR:6000 <F) (h:aU) (ar:gD k) {q:Nat} (a1:q+ 3 +(wd h.Words (q+ 1)).toNat<=h.Words.length) (ht:h.Words.length<= 5000) (aL:gV k (wd h.Words q)=true) (au:isLen k (wd h.Words q) (wd h.Words (q+ 1))=true) :
 ni F h k (q:Int)=some (refs k h.Words q):=by
 obtain ⟨⟨o9,l1⟩,_⟩:=vX.1 au
 unfold ni
 generalize aS:(wd h.Words (q+ 1)).toNat=n at a1
 have CR:wd h.Words (q+ 1)=(n:Int):=by omega
 have lE:=au
 rw [CR] at lE
 have l1:=p3 (l:=List.range n) (fun f acc i=>oC (q:Int) h k f acc (i:Int)) (fun j=>if jw k (wd h.Words q) j then [((q+ 3 +j:Nat):Int)] else []) 1 5000 (fun x _=>by split <;> simp) (fun f i x acc af a3=>by
  have hi:i <n:=by have:=(List.getElem?_eq_some_iff.1 af).1;simpa using this
  rw [List.getElem?_range hi] at af
  simp only [Option.some.injEq] at af
  subst af
  rw [oC,dx (n:=(q:Int)+ 1) (by omega) (by omega),nK (i:=q+ 1) (by omega) (by omega),Option.bind_some,CR,b3 hi,cond_true,js (by omega),Option.bind_some]
  have ao:u2 (⟨k.bJ,k.bB,k.Fields,k.Names,k.bC⟩:aH) (wd h.Words q) (i:Int)=some (jw k (wd h.Words q) i):=auA ar aL lE (by omega)
  rw [ao,Option.bind_some]
  show _=oC (q:Int) h k f _ _
  cases jw k (wd h.Words q) i with
  | true=>
    rw [cond_true,dx (n:=(q:Int)+ 3) (by omega) (by omega),dx (n:=(q:Int)+ 3 +i) (by omega) (by omega),h7 (by simp;omega),Option.bind_some,Option.bind_some,fa hi (by omega),if_pos rfl]
    congr 2
  | false=>
    rw [cond_false,Option.bind_some,fa hi (by omega),if_neg (by decide),List.append_nil]) (fun f acc=>by
  rw [List.length_range,oC,dx (n:=(q:Int)+ 1) (by omega) (by omega),nK (i:=q+ 1) (by omega) (by omega),Option.bind_some,CR,b2];rfl) (F:=F) (by simp;omega) (acc:=[]) (by simp;omega)
 have l1:oC (q:Int) h k F [] 0 =_:=l1
 rw [l1,Option.bind_some,List.nil_append,refs,aS]
theorem auz (aR:6000 <F) {h:aU} (ak:gD k) (ar:hg h):(∃ Y O,g8 h k Y O/\oF F h k=some (Y,O,true))\/((∀ Y O,¬ g8 h k Y O)/\ ∃ Y O,oF F h k=some (Y,O,false)):=by
 have hw:=ar.lf
 obtain ⟨⟨⟨cR,di⟩,dW,eJ⟩,b,⟨cJ,cm⟩,⟨dS,hq⟩,iM⟩:=id ar
 unfold okB at b
 unfold oF
 have t1:=aba (F:=F) aR h ak (q:=1) (to:=h.bq.toNat) (by omega) (by omega) (by omega)
 have t2:=aba (F:=F) aR h ak (q:=(h.aW+ 1).toNat) (to:=h.bm.toNat) (by omega) (by omega) (by omega)
 rw [show ((h.bq.toNat:Nat):Int)=h.bq by omega] at t1
 rw [show ((h.bm.toNat:Nat):Int)=h.bm by omega,show (((h.aW+ 1).toNat:Nat):Int)=h.aW+ 1 by omega] at t2
 rw [dx (n:=h.aW+ 1) (by omega) (by omega)]
 have kj:∀ r,mg F h k 1 h.bq=some r->mg F (⟨h.Words,h.aW,h.a9,h.bq,h.bm,h.bg,h.Next⟩:aU) (⟨k.bJ,k.bB,k.Fields,k.Names,k.bC⟩:aH) 1 h.bq=some r:=fun r e=>e
 have uz:∀ r,mg F h k (h.aW+ 1) h.bm=some r->mg F (⟨h.Words,h.aW,h.a9,h.bq,h.bm,h.bg,h.Next⟩:aU) (⟨k.bJ,k.bB,k.Fields,k.Names,k.bC⟩:aH) (h.aW+ 1) h.bm=some r:=fun r e=>e
 rcases t1 with ⟨Y,GX,ao⟩ | ⟨tC,Y,ao⟩ <;> rcases t2 with ⟨O,j2,aq⟩ | ⟨tF,O,aq⟩ <;> rw [kj _ ao,Option.bind_some,uz _ aq,Option.bind_some]
 · exact .inl ⟨Y,O,⟨GX,j2⟩,rfl⟩
 · exact .inr ⟨fun Y O h=>tF _ h.o,Y,O,rfl⟩
 · exact .inr ⟨fun Y O h=>tC _ h.y,Y,O,rfl⟩
 · exact .inr ⟨fun Y O h=>tC _ h.y,Y,O,rfl⟩
end
end I
namespace I
section
variable {F:Nat} {k:aH} {h:aU} {Y O:List Int}
theorem NM {b:Bool} {e:Int} {K:Option (Way Int Unit)}:fT (if b=true then some e else none) K=cond b (some (.out e)) K:=by cases b <;> rfl
theorem auG (aR:10000 <F) (J:1 <=h.Next) (aS:h.Next<= 9223372036854775807) (aj:lp (view h k Y O)):r1 h (Y++O) F 0 =some (cB (if (Y++O).any (jo (view h k Y O)) then some 3 else none)):=by
 have hc:Y.length+O.length<= 5000 :=aj.qd
 have hw:h.Words.length<= 4900 :=aj.lf
 rw [<-kN]
 exact each _ (by simp;omega) (fun f i a a3=>by
  have hm:=List.mem_of_getElem? a3
  have aL:nl (view h k Y O) a:=aj.od a hm
  have aY:0 <=a:=aL.pos
  have aa:a.toNat+ 3 +(wd h.Words (a.toNat+ 1)).toNat<=h.Words.length:=aL.fit
  rw [r1,b3 (List.getElem?_eq_some_iff.1 a3).1,cond_true,bE a3,Option.bind_some,dx (n:=a+ 2) (by omega) (by omega),nK (i:=a.toNat+ 2) (by omega) (by omega),Option.bind_some]
  unfold e3
  rw [Option.bind_some,dx (n:=h.Next - 1) (by omega) (by omega),NM]
  congr 1
  show _=(decide (wd h.Words (a.toNat+ 2) < 1) || decide (h.Next<=wd h.Words (a.toNat+ 2)))
  rw [Bool.eq_iff_iff];simp;omega) (fun f=>by rw [r1,b2];rfl) (by simp;omega)
theorem ao7 {l:List Int}:(List.range l.length).any (fun i=>(List.range i).any fun j=>decide (wd l i=wd l j))= !decide l.Nodup:=by
 rw [Bool.eq_iff_iff,List.any_eq_true]
 simp only [List.mem_range,List.any_eq_true,decide_eq_true_eq,Bool.not_eq_true',decide_eq_false_iff_not]
 rw [List.Nodup,List.pairwise_iff_getElem]
 constructor
 · rintro ⟨i,hi,j,aJ,e⟩ aP
   have:=aP j i (by omega) hi aJ
   rw [oi (List.getElem?_eq_getElem hi),oi (List.getElem?_eq_getElem (by omega:j <l.length))] at e
   exact this e.symm
 · intro aP
   apply Classical.byContradiction
   intro cj
   refine aP fun j i aJ hi eS e=>cj ⟨i,hi,j,eS,?_⟩
   rw [oi (List.getElem?_eq_getElem hi),oi (List.getElem?_eq_getElem aJ)];exact e.symm
theorem auH (aR:10000 <F) (aj:lp (view h k Y O)):pS F h (Y++O) F 0 =some (cB (if ((Y++O).map (ar h.Words)).Nodup then none else some 6)):=by
 have hc:Y.length+O.length<= 5000 :=aj.qd
 have hw:h.Words.length<= 4900 :=aj.lf
 have au:(Y++O).length<= 5000 :=by simp;omega
 have at_:∀ i,i <(Y++O).length->idx (Y++O) (i:Int)=some (wd (Y++O) i)/\idx h.Words (aX (wd (Y++O) i+ 2))=some (wd ((Y++O).map (ar h.Words)) i):=fun i hi=>by
  have ao:wd (Y++O) i=(Y++O)[i]:=oi (List.getElem?_eq_getElem hi)
  have aL:nl (view h k Y O) (Y++O)[i]:=aj.od _ (List.getElem_mem hi)
  have aY:0 <=(Y++O)[i]:=aL.pos
  have aa:(Y++O)[i].toNat+ 3 +(wd h.Words ((Y++O)[i].toNat+ 1)).toNat<=h.Words.length:=aL.fit
  refine ⟨js hi,?_⟩
  rw [ao,dx (by omega) (by omega),nK (i:=(Y++O)[i].toNat+ 2) (by omega) (by omega)]
  refine congrArg some (oi ?_).symm
  rw [List.getElem?_map,List.getElem?_eq_getElem hi];rfl
 have l1:pS F h (Y++O) F 0 =some (cB ((List.range (Y++O).length).findSome? fun i=>if (List.range i).any (fun j=>decide (wd ((Y++O).map (ar h.Words)) i=wd ((Y++O).map (ar h.Words)) j)) then some 6 else none)):=iz _ (by omega) (fun f i hi=>by
  rw [pS,b3 hi,cond_true]
  have cT:r2 h (Y++O) (i:Int) F 0 =some (cB ((List.range i).findSome? fun j=>if decide (wd ((Y++O).map (ar h.Words)) i=wd ((Y++O).map (ar h.Words)) j) then some 6 else none)):=iz _ (by omega) (fun cZ j aJ=>by
   rw [r2,b3 aJ,cond_true,(at_ i hi).1,Option.bind_some,(at_ i hi).2,Option.bind_some,(at_ j (by omega)).1,Option.bind_some,(at_ j (by omega)).2,Option.bind_some]
   cases decide (wd ((Y++O).map (ar h.Words)) i=wd ((Y++O).map (ar h.Words)) j) <;> rfl) (fun cZ=>by rw [r2,b2];rfl) (by omega)
  rw [cT,kN]
  cases (List.range i).any (fun j=>decide (wd ((Y++O).map (ar h.Words)) i=wd ((Y++O).map (ar h.Words)) j)) <;> rfl) (fun f=>by rw [pS,b2];rfl) (by omega)
 rw [l1,kN]
 have e:=ao7 (l:=(Y++O).map (ar h.Words))
 rw [List.length_map] at e
 rw [e]
 by_cases aO:((Y++O).map (ar h.Words)).Nodup
 · rw [if_pos aO,decide_eq_true aO];rfl
 · rw [if_neg aO,decide_eq_false aO];rfl
theorem Q7 (aR:10000 <F) (aj:lp (view h k Y O)) {a:Int} (a3:a ∈ Y++O):ni F (⟨h.Words,h.aW,h.a9,h.bq,h.bm,h.bg,h.Next⟩:aU) (⟨k.bJ,k.bB,k.Fields,k.Names,k.bC⟩:aH) a=some (refs k h.Words a.toNat):=by
 have aL:nl (view h k Y O) a:=aj.od a a3
 have hw:h.Words.length<= 4900 :=aj.lf
 have:=auB (F:=F) (by omega) h aj.QR (q:=a.toNat) aL.fit (by omega) aL.tag aL.len
 rwa [show ((a.toNat:Nat):Int)=a by have:=aL.pos;omega] at this
theorem auI (aR:10000 <F) (aj:lp (view h k Y O)):r3 F h k (Y++O) F 0 =some (cB (if (Y++O).any (k6 (view h k Y O)) then some 5 else none)):=by
 have hc:Y.length+O.length<= 5000 :=aj.qd
 have hw:h.Words.length<= 4900 :=aj.lf
 rw [<-kN]
 exact each _ (by simp;omega) (fun f i a a3=>by
  have hm:=List.mem_of_getElem? a3
  have aL:nl (view h k Y O) a:=aj.od a hm
  have Np:(refs k h.Words a.toNat).length<= 5000 :=IF aj aL
  rw [r3,b3 (List.getElem?_eq_some_iff.1 a3).1,cond_true,bE a3,Option.bind_some,Q7 aR aj hm,Option.bind_some]
  have cT:pT F h (Y++O) (refs k h.Words a.toNat) F 0 =some (cB ((refs k h.Words a.toNat).findSome? fun w=>if pH (view h k Y O) w then some 5 else none)):=each _ (by omega) (fun cZ dk w ft=>by
   have ea:=List.mem_of_getElem? ft
   have af:idx h.Words w=some (wd h.Words w.toNat):=aL.IE ea
   rw [pT,b3 (List.getElem?_eq_some_iff.1 ft).1,cond_true,bE ft,Option.bind_some,af,Option.bind_some,Option.bind_some,af,Option.bind_some,Qu ⟨by simp;omega,by simp;omega⟩,Option.bind_some]
   show _=fT (if (!decide (wd h.Words w.toNat= 0) && !decide (wd h.Words w.toNat ∈ Y++O))=true then some 5 else none) _
   cases decide (wd h.Words w.toNat= 0) <;> cases decide (wd h.Words w.toNat ∈ Y++O) <;> rfl) (fun cZ=>by rw [pT,b2];rfl) (by omega)
  rw [cT,kN]
  show _=fT (if (refs k h.Words a.toNat).any (pH (view h k Y O)) then some 5 else none) _
  cases (refs k h.Words a.toNat).any (pH (view h k Y O)) <;> rfl) (fun f=>by rw [r3,b2];rfl) (by simp;omega)
theorem auJ (aR:10000 <F) (ct:hg h):ox h F 0 =some (cB (if (free h).any (fun x=>!decide (x= 0)) then some 1 else none)):=by
 have hw:=ct.lf
 obtain ⟨⟨⟨cR,di⟩,dW,eJ⟩,b,⟨cJ,cm⟩,⟨dS,hq⟩,iM⟩:=id ct
 have l1:ox h F 0 =some (cB ((List.range h.Words.length).findSome? fun i=>if (!decide (wd h.Words i= 0) && (decide ((i:Int)= 0) || ((decide (h.bq<=(i:Int)) && decide ((i:Int)<=h.aW)) || decide (h.bm<=(i:Int))))) then some 1 else none)):=iz _ (by omega) (fun f i hi=>by
  rw [ox,b3 hi,cond_true,js hi,Option.bind_some]
  unfold e3
  rw [Option.bind_some]
  cases decide (wd h.Words i= 0) <;> cases decide ((i:Int)= 0) <;> cases ((decide (h.bq<=(i:Int)) && decide ((i:Int)<=h.aW)) || decide (h.bm<=(i:Int))) <;> rfl) (fun f=>by rw [ox,b2];rfl) (by omega)
 rw [l1,kN]
 refine congrArg (fun b:Bool=>some (cB (if b=true then some 1 else none))) ?_
 rw [Bool.eq_iff_iff,List.any_eq_true,List.any_eq_true]
 constructor
 · rintro ⟨i,hi,e⟩
   simp only [Bool.and_eq_true,Bool.or_eq_true,Bool.not_eq_true',decide_eq_false_iff_not,decide_eq_true_eq] at e
   rw [List.mem_range] at hi
   exact ⟨wd h.Words i,UG ⟨by omega,by omega⟩ hi (by rcases e.2 with e | e | e;exact .inl (by omega);exact .inr (.inl e);exact .inr (.inr e)),by simpa using e.1⟩
 · rintro ⟨x,af,e⟩
   obtain ⟨i,hi,hc,rfl⟩:=Z1 (by omega) af
   refine ⟨i,List.mem_range.2 hi,?_⟩
   simp only [Bool.and_eq_true,Bool.or_eq_true,Bool.not_eq_true',decide_eq_false_iff_not,decide_eq_true_eq] at e ⊢
   exact ⟨e,by rcases hc with e | e | e;exact .inl (by omega);exact .inr (.inl e);exact .inr (.inr e)⟩
theorem aav (ct:hg h) (au:g8 h k Y O) {x:Int}:x ∈ O ↔ x ∈ Y++O/\ic (view h k Y O) x=false:=by
 obtain ⟨⟨⟨cR,di⟩,dW,eJ⟩,b,⟨cJ,cm⟩,⟨dS,hq⟩,iM⟩:=id ct
 have e:ic (view h k Y O) x=(decide (0 <x) && decide (x<=h.aW)):=rfl
 rw [e]
 constructor
 · intro af
   have:=au.n6 ct x af
   exact ⟨List.mem_append.2 (.inr af),by simp;omega⟩
 · rintro ⟨af,e⟩
   rcases List.mem_append.1 af with af | af
   · have:=au.Fo ct x af
     simp at e;omega
   · exact af
theorem auN (aR:10000 <F) (ct:hg h) (au:g8 h k Y O) (aj:lp (view h k Y O)) (x:Int) (Z:Option Int) (akj:Z=some x) (K:Option (Way Int Unit)):((mf F O x).bind fun Qp=>
 cond (!Qp) (some (.out 4)) (Z.bind fun Rx=>
 (ni F (⟨h.Words,h.aW,h.a9,h.bq,h.bm,h.bg,h.Next⟩:aU) (⟨k.bJ,k.bB,k.Fields,k.Names,k.bC⟩:aH) Rx).bind fun Qq=>
 cond (decide ((Qq.length:Int)= 0)) (some (.out 4)) K))=fT (if n3 (view h k Y O) x then some 4 else none) K:=by
 have hc:Y.length+O.length<= 5000 :=aj.qd
 subst akj
 rw [Qu ⟨by omega,by omega⟩,Option.bind_some,NM]
 have e:n3 (view h k Y O) x=(!decide (x ∈ Y++O) || ic (view h k Y O) x || (refs k h.Words x.toNat).isEmpty):=rfl
 rw [e]
 by_cases af:x ∈ O
 · obtain ⟨J,aa⟩:=(aav ct au).1 af
   rw [decide_eq_true af,decide_eq_true J,aa,Bool.not_true,cond_false,Option.bind_some,Q7 aR aj J,Option.bind_some]
   cases refs k h.Words x.toNat with
   | nil=>rfl
   | cons a r=>rw [decide_eq_false (by simp;omega)];rfl
 · rw [decide_eq_false af]
   have:(!decide (x ∈ Y++O) || ic (view h k Y O) x)=true:=by
    cases aO:decide (x ∈ Y++O) with
    | false=>rfl
    | true=>
      cases hy:ic (view h k Y O) x with
      | true=>rfl
      | false=>exact absurd ((aav ct au).2 ⟨of_decide_eq_true aO,hy⟩) af
   rw [this];rfl
theorem auK (aR:10000 <F) (ct:hg h) (au:g8 h k Y O) (aj:lp (view h k Y O)) (aS:Small F h.bg.length):mc F h k (Y,O,true) F 0 =some (cB (if (List.range h.bg.length).any (f_ (view h k Y O)) then some 4 else none)):=by
 rw [<-kN]
 exact iz _ aS.1 (fun f i hi=>by
  rw [mc,b3 hi,cond_true]
  have e:f_ (view h k Y O) i=((decide (0 <i) && decide (wd h.bg i<=wd h.bg (i - 1))) || n3 (view h k Y O) (wd h.bg i)):=rfl
  have aN:=auN aR ct au aj (wd h.bg i) (idx h.bg (i:Int)) (js hi) (mc F h k (Y,O,true) f (aX ((i:Int)+ 1)))
  rw [e]
  have VB:=aS.1
  by_cases aY:0 <i
  · rw [show decide ((0 :Int) <(i:Int))=true from decide_eq_true (by omega),cond_true]
    rw [show ∀ K:Int->Option (Way Int Unit),(idx h.bg (i:Int)).bind K=K (wd h.bg i) from fun K=>by rw [js hi];rfl]
    rw [dx (n:=(i:Int) - 1) (by omega) (by omega),nK (i:=i - 1) (by omega) (by omega),Option.bind_some,decide_eq_true aY,Bool.true_and]
    cases decide (wd h.bg i<=wd h.bg (i - 1)) with
    | true=>rfl
    | false=>
      rw [cond_false,Bool.false_or,<-aN]
      rw [js hi];rfl
  · rw [show decide ((0 :Int) <(i:Int))=false from decide_eq_false (by omega),cond_false,decide_eq_false aY,Bool.false_and,Bool.false_or,<-aN]
    rw [js hi];rfl) (fun f=>by rw [mc,b2];rfl) aS.2
theorem auL (aR:10000 <F) (aj:lp (view h k Y O)) (aS:Small F h.bg.length):oy F h k (Y,O,true) F 0 =some (cB (if O.any (l6 (view h k Y O)) then some 4 else none)):=by
 have hc:Y.length+O.length<= 5000 :=aj.qd
 rw [<-kN]
 exact each _ (by omega) (fun f i a a3=>by
  have hm:=List.mem_append.2 (Or.inr (a:=a ∈ Y) (List.mem_of_getElem? a3))
  have aL:nl (view h k Y O) a:=aj.od a hm
  have Np:(refs k h.Words a.toNat).length<= 5000 :=IF aj aL
  rw [oy,b3 (List.getElem?_eq_some_iff.1 a3).1,cond_true,bE a3,Option.bind_some,Q7 aR aj hm,Option.bind_some]
  have cT:nf F h (Y,O,true) (i:Int) (refs k h.Words a.toNat) F 0 =some (cB ((refs k h.Words a.toNat).findSome? fun w=>if (!decide (a ∈ h.bg) && ic (view h k Y O) (wd h.Words w.toNat)) then some 4 else none)):=each _ (by omega) (fun cZ dk w ft=>by
   have ea:=List.mem_of_getElem? ft
   have af:idx h.Words w=some (wd h.Words w.toNat):=aL.IE ea
   rw [nf,b3 (List.getElem?_eq_some_iff.1 ft).1,cond_true,bE ft,Option.bind_some,af,Option.bind_some]
   unfold e3
   rw [Option.bind_some,bE a3,Option.bind_some,Qu aS,Option.bind_some,NM]
   have e:ic (view h k Y O) (wd h.Words w.toNat)=(decide (1 <=wd h.Words w.toNat) && decide (wd h.Words w.toNat<=h.aW)):=rfl
   rw [e]
   cases (decide (1 <=wd h.Words w.toNat) && decide (wd h.Words w.toNat<=h.aW)) <;> cases decide (a ∈ h.bg) <;> rfl) (fun cZ=>by rw [nf,b2];rfl) (by omega)
  rw [cT,kN]
  have e:l6 (view h k Y O) a=((refs k h.Words a.toNat).any fun w=>!decide (a ∈ h.bg) && ic (view h k Y O) (wd h.Words w.toNat)):=by
   show (!decide (a ∈ h.bg) && (refs k h.Words a.toNat).any fun w=>ic (view h k Y O) (wd h.Words w.toNat))=_
   cases decide (a ∈ h.bg) with
   | true=>simp
   | false=>simp
  rw [e]
  cases (refs k h.Words a.toNat).any (fun w=>!decide (a ∈ h.bg) && ic (view h k Y O) (wd h.Words w.toNat)) <;> rfl) (fun f=>by rw [oy,b2];rfl) (by omega)
theorem auM (aR:10000 <F) (ak:gD k) (aS:Small F h.bg.length) (hi:h.Next<= 9223372036854775807):∃ r,uT F h k=some r.2 /\Spec h k r:=by
 unfold uT
 by_cases dT:wE h
 case neg=>
  refine ⟨(none,ki h),?_,.size fun s=>dT s.A⟩
  show _=some (ki h)
  unfold ki e3
  rw [if_neg dT,Option.bind_some,Option.bind_some]
  cases ai:(decide (3 <=h.aW) && decide (h.aW<= 2000)) with
  | false=>rfl
  | true=>
    cases GZ:(decide (3 <=h.a9) && decide (h.a9<= 2000)) with
    | false=>rfl
    | true=>exact absurd ⟨by simpa using ai,by simpa using GZ⟩ dT
 obtain ⟨⟨cR,di⟩,dW,eJ⟩:=id dT
 have cg:e3 h.aW 3 2000 =some true:=by unfold e3;rw [decide_eq_true cR,decide_eq_true di];rfl
 have eH:e3 h.a9 3 2000 =some true:=by unfold e3;rw [decide_eq_true dW,decide_eq_true eJ];rfl
 rw [cg,eH,Option.bind_some,Option.bind_some,Bool.not_true,cond_false,cond_false,dx (n:=1 +h.aW) (by omega) (by omega),dx (n:=1 +h.aW+h.a9) (by omega) (by omega)]
 by_cases bZ:okB h
 case neg=>
  refine ⟨(none,ki h),?_,.size fun s=>bZ s.B⟩
  show _=some (ki h)
  unfold ki
  rw [if_pos dT,if_neg bZ]
  unfold okB at bZ
  rw [decide_eq_false bZ];rfl
 have U7:=bZ
 unfold okB at U7
 rw [decide_eq_true U7,Bool.not_true,cond_false,dx (n:=h.aW+ 1) (by omega) (by omega),dx (n:=h.aW+h.a9) (by omega) (by omega),dx (n:=h.aW+h.a9+ 1) (by omega) (by omega)]
 by_cases gI:Et h
 case neg=>
  refine ⟨(none,ki h),?_,.size fun s=>gI s.C⟩
  show _=some (ki h)
  unfold ki e3
  rw [if_pos dT,if_pos bZ,if_neg gI,Option.bind_some,Option.bind_some]
  cases ai:(decide (1 <=h.bq) && decide (h.bq<=h.aW+ 1)) with
  | false=>rfl
  | true=>
    cases GZ:(decide (h.aW+ 1 <=h.bm) && decide (h.bm<=h.aW+h.a9+ 1)) with
    | false=>rfl
    | true=>
      cases Vd:decide (h.Next < 1) with
      | true=>rfl
      | false=>exact absurd ⟨by simpa using ai,by simpa using GZ,by simp at Vd;omega⟩ gI
 have ct:hg h:=⟨dT,bZ,gI⟩
 obtain ⟨⟨cJ,cm⟩,⟨dS,hq⟩,iM⟩:=id gI
 have h9:e3 h.bq 1 (h.aW+ 1)=some true:=by unfold e3;rw [decide_eq_true cJ,decide_eq_true cm];rfl
 have iw:e3 h.bm (h.aW+ 1) (h.aW+h.a9+ 1)=some true:=by unfold e3;rw [decide_eq_true dS,decide_eq_true hq];rfl
 rw [h9,iw,Option.bind_some,Option.bind_some,Bool.not_true,cond_false,decide_eq_false (show ¬ h.Next < 1 by omega),Bool.or_self,cond_false]
 have kj:∀ r,oF F h k=some r->oF F (⟨h.Words,h.aW,h.a9,h.bq,h.bm,h.bg,h.Next⟩:aU) (⟨k.bJ,k.bB,k.Fields,k.Names,k.bC⟩:aH)=some r:=fun r e=>e
 rcases auz (F:=F) (by omega) ak ct with ⟨Y,O,au,e⟩ | ⟨iT,Y,O,e⟩
 case inr=>
  refine ⟨(none,1),?_,.form ct iT⟩
  rw [kj _ e];rfl
 have aj:=au.uC ak ct
 have hc:Y.length+O.length<= 5000 :=aj.qd
 refine ⟨_,?_,.rest ct au⟩
 show _=some (ld (view h k Y O))
 have dX:cq 8 ([]:List Int) Y=some Y:=by rw [h7 (by simp;omega)];rfl
 have hh:cq 8 Y O=some (Y++O):=h7 (by omega)
 have l1:=auG (k:=k) (Y:=Y) (O:=O) aR iM hi aj
 have cT:=auH (F:=F) aR aj
 have v':=auI (F:=F) aR aj
 have D5:=auJ (F:=F) aR ct
 have N4:=auK aR ct au aj aS
 have N5:=auL aR aj aS
 rw [kj _ e,Option.bind_some]
 show (cq 8 ([]:List Int) Y).bind _=_
 rw [dX,Option.bind_some]
 show (cq 8 Y O).bind _=_
 rw [hh,Option.bind_some,l1,hX]
 unfold ld ah
 show lQ (if (Y++O).any (jo (view h k Y O))=true then some 3 else none) _=some (if (if (Y++O).any (jo (view h k Y O))=true then (3 :Int) else if ((Y++O).map (ar h.Words)).Nodup then 0 else 6)= 0 then _ else (if (Y++O).any (jo (view h k Y O))=true then (3 :Int) else if ((Y++O).map (ar h.Words)).Nodup then 0 else 6))
 cases (Y++O).any (jo (view h k Y O)) with
 | true=>rfl
 | false=>
   rw [if_neg Bool.false_ne_true,if_neg Bool.false_ne_true]
   show cu _ _=_
   rw [cT,hX]
   by_cases aO:((Y++O).map (ar h.Words)).Nodup
   case neg=>rw [if_neg aO,if_neg aO];rfl
   rw [if_pos aO,if_pos aO,if_pos rfl]
   show cu _ _=_
   rw [v',hX]
   unfold jK
   show lQ (if (Y++O).any (k6 (view h k Y O))=true then some 5 else none) _=some (if (if (Y++O).any (k6 (view h k Y O))=true then (5 :Int) else if (free h).any (fun x=>!decide (x= 0))=true then 1 else 0)= 0 then _ else (if (Y++O).any (k6 (view h k Y O))=true then (5 :Int) else if (free h).any (fun x=>!decide (x= 0))=true then 1 else 0))
   cases (Y++O).any (k6 (view h k Y O)) with
   | true=>rfl
   | false=>
     rw [if_neg Bool.false_ne_true,if_neg Bool.false_ne_true]
     show cu _ _=_
     rw [D5,hX]
     cases (free h).any (fun x=>!decide (x= 0)) with
     | true=>rfl
     | false=>
       rw [if_neg Bool.false_ne_true,if_neg Bool.false_ne_true,if_pos rfl]
       show cu _ _=_
       rw [N4,hX]
       unfold tX
       show lQ (if (List.range h.bg.length).any (f_ (view h k Y O))=true then some 4 else none) _=some (if ((List.range h.bg.length).any (f_ (view h k Y O)) || O.any (l6 (view h k Y O)))=true then (4 :Int) else 0)
       cases (List.range h.bg.length).any (f_ (view h k Y O)) with
       | true=>rfl
       | false=>
         rw [if_neg Bool.false_ne_true,Bool.false_or]
         show cu _ _=_
         rw [N5,hX]
         cases O.any (l6 (view h k Y O)) <;> rfl
theorem Spec.Jb {r hV:Option bb × Int} (s:Spec h k r) (s':Spec h k hV):r=hV:=by
 cases s with
 | size aS=>cases s' with
   | size _=>rfl
   | form aC _=>exact absurd aC aS
   | rest aC _=>exact absurd aC aS
 | form aC iT=>cases s' with
   | size aS=>exact absurd aC aS
   | form _ _=>rfl
   | rest _ au=>exact absurd au (iT _ _)
 | rest aC au=>cases s' with
   | size aS=>exact absurd aC aS
   | form _ iT=>exact absurd au (iT _ _)
   | rest _ lE=>
     obtain rfl:=au.y.Jb lE.y
     obtain rfl:=au.o.Jb lE.o
     rfl
end
end I
namespace I
section
variable {k:aH} {h:aU} {Y O:List Int}
theorem g8.fit (ct:hg h) (au:g8 h k Y O):∀ a ∈ Y++O,1 <=a/\a.toNat+ 3 +(wd h.Words (a.toNat+ 1)).toNat<=h.Words.length/\(a.toNat+ 3 +(wd h.Words (a.toNat+ 1)).toNat<=h.bq.toNat\/(h.aW+ 1 <=a/\a.toNat+ 3 +(wd h.Words (a.toNat+ 1)).toNat<=h.bm.toNat)):=by
 intro a a3
 have bZ:(h.Words.length:Int)= 1 +h.aW+h.a9:=ct.B
 obtain ⟨⟨cJ,cm⟩,⟨dS,hq⟩,_⟩:=ct.C
 obtain ⟨⟨cR,_⟩,dW,_⟩:=ct.A
 rcases List.mem_append.1 a3 with a3 | a3
 · obtain ⟨J,aa⟩:=au.Fo ct a a3;exact ⟨J,by omega,.inl aa⟩
 · obtain ⟨J,aa⟩:=au.n6 ct a a3;exact ⟨by omega,by omega,.inr ⟨J,aa⟩⟩
theorem ax.set (ct:hg h) (au:g8 h k Y O) (g:ax h k Y O) {a:Int} (a3:a ∈ Y++O) {n:Nat} (aS:n <(wd h.Words (a.toNat+ 1)).toNat) {value:Int}
 (aj:jw k (wd h.Words a.toNat) n=true->value= 0 \/value ∈ Y++O) {pt:List Int} (J:u4 pt) (aa:∀ x ∈ pt,x ∈ h.bg\/(x=a/\a ∈ O/\jw k (wd h.Words a.toNat) n=true)) (az:∀ x ∈ h.bg,x ∈ pt)
 (bp:jw k (wd h.Words a.toNat) n=true->a ∈ O-> 0 <value->value<=h.aW->a ∈ pt) :
 hg (⟨h.Words.set (a.toNat+ 3 +n) value,h.aW,h.a9,h.bq,h.bm,pt,h.Next⟩:aU)/\g8 (⟨h.Words.set (a.toNat+ 3 +n) value,h.aW,h.a9,h.bq,h.bm,pt,h.Next⟩:aU) k Y O /\
 ax (⟨h.Words.set (a.toNat+ 3 +n) value,h.aW,h.a9,h.bq,h.bm,pt,h.Next⟩:aU) k Y O:=by
 obtain ⟨f1,f2,f3⟩:=au.fit ct a a3
 have aP:a.toNat+ 3 +n <h.Words.length:=by omega
 have hw:∀ j,wd (h.Words.set (a.toNat+ 3 +n) value) j=if j=a.toNat+ 3 +n then value else wd h.Words j:=fun j=>awt aP
 have head:∀ b ∈ Y++O,wd (h.Words.set (a.toNat+ 3 +n) value) b.toNat=wd h.Words b.toNat/\wd (h.Words.set (a.toNat+ 3 +n) value) (b.toNat+ 1)=wd h.Words (b.toNat+ 1)/\wd (h.Words.set (a.toNat+ 3 +n) value) (b.toNat+ 2)=wd h.Words (b.toNat+ 2):=by
  intro b ai
  rw [hw,hw,hw]
  by_cases e:b=a
  · subst e
    rw [if_neg (by omega),if_neg (by omega),if_neg (by omega)];exact ⟨rfl,rfl,rfl⟩
  · have:=au.apart ct b ai a a3 e
    rw [if_neg (by omega),if_neg (by omega),if_neg (by omega)];exact ⟨rfl,rfl,rfl⟩
 have bZ:(h.Words.length:Int)= 1 +h.aW+h.a9:=ct.B
 obtain ⟨⟨cJ,cm⟩,⟨dS,hq⟩,iM⟩:=id ct.C
 have aN:∀ b ∈ Y++O,refs k (h.Words.set (a.toNat+ 3 +n) value) b.toNat=refs k h.Words b.toNat:=fun b ai=>avf (head b ai).1 (head b ai).2.1
 have G8:∀ b ∈ Y++O,ar (h.Words.set (a.toNat+ 3 +n) value) b=ar h.Words b:=fun b ai=>(head b ai).2.2
 have Hd:(Y++O).map (ar (h.Words.set (a.toNat+ 3 +n) value))=(Y++O).map (ar h.Words):=List.map_congr_left G8
 have sY:∀ b ∈ Y++O,∀ w ∈ refs k h.Words b.toNat,w.toNat=a.toNat+ 3 +n->b=a/\jw k (wd h.Words a.toNat) n=true:=by
  intro b ai w ft e
  obtain ⟨j,aJ,Ds,rfl⟩:=Oo.1 ft
  simp only [Int.toNat_natCast] at e
  have Gc:b=a:=by
   by_cases Gc:b=a
   · exact Gc
   · have:=au.apart ct b ai a a3 Gc;omega
  subst Gc
  have:j=n:=by omega
  subst this
  exact ⟨rfl,Ds⟩
 refine ⟨⟨ct.A,?_,ct.C⟩,⟨au.y.congr fun b ai=>?_,au.o.congr fun b ai=>?_⟩,⟨fun b ai=>?_,?_,fun b ai w ft=>?_,fun i hi hc=>?_,J,fun x af=>?_,fun b ai VD w ft=>?_⟩⟩
 · show ((h.Words.set (a.toNat+ 3 +n) value).length:Int)=_;rw [List.length_set];exact bZ
 · obtain ⟨h0,w3,_⟩:=head b (List.mem_append_left _ ai);exact ⟨h0,w3⟩
 · obtain ⟨h0,w3,_⟩:=head b (List.mem_append_right _ ai);exact ⟨h0,w3⟩
 · show 1 <=ar (h.Words.set (a.toNat+ 3 +n) value) b/\ar (h.Words.set (a.toNat+ 3 +n) value) b <h.Next
   rw [G8 b ai];exact g.hash b ai
 · show ((Y++O).map (ar (h.Words.set (a.toNat+ 3 +n) value))).Nodup
   rw [Hd];exact g.nodup
 · have ft:w ∈ refs k (h.Words.set (a.toNat+ 3 +n) value) b.toNat:=ft
   rw [aN b ai] at ft
   show wd (h.Words.set (a.toNat+ 3 +n) value) w.toNat= 0 \/wd (h.Words.set (a.toNat+ 3 +n) value) w.toNat ∈ Y++O
   rw [hw]
   by_cases e:w.toNat=a.toNat+ 3 +n
   · rw [if_pos e];exact aj (sY b ai w ft e).2
   · rw [if_neg e];exact g.ref b ai w ft
 · have hi:i <(h.Words.set (a.toNat+ 3 +n) value).length:=hi
   rw [List.length_set] at hi
   have hc:i= 0 \/(h.bq<=i/\(i:Int)<=h.aW)\/h.bm<=i:=hc
   show wd (h.Words.set (a.toNat+ 3 +n) value) i= 0
   rw [hw,if_neg (by omega)]
   exact g.bd i hi hc
 · show x ∈ O/\refs k (h.Words.set (a.toNat+ 3 +n) value) x.toNat≠ []
   rcases aa x af with af | ⟨rfl,j2,aJ⟩
   · obtain ⟨h0,w3⟩:=g.pt x af
     rw [aN x (List.mem_append_right _ h0)];exact ⟨h0,w3⟩
   · refine ⟨j2,?_⟩
     rw [aN x a3]
     intro e
     have:((x.toNat+ 3 +n:Nat):Int) ∈ refs k h.Words x.toNat:=Oo.2 ⟨n,aS,aJ,rfl⟩
     rw [e] at this;cases this
 · have fi:b ∈ Y++O:=List.mem_append_right _ ai
   have ft:w ∈ refs k (h.Words.set (a.toNat+ 3 +n) value) b.toNat:=ft
   rw [aN b fi] at ft
   show ¬ (0 <wd (h.Words.set (a.toNat+ 3 +n) value) w.toNat/\wd (h.Words.set (a.toNat+ 3 +n) value) w.toNat<=h.aW)
   rw [hw]
   by_cases e:w.toNat=a.toNat+ 3 +n
   · rw [if_pos e]
     obtain ⟨rfl,aJ⟩:=sY b fi w ft e
     rintro ⟨uM,y5⟩
     exact VD (bp aJ ai uM y5)
   · rw [if_neg e]
     exact g.must b ai (fun hm=>VD (az b hm)) w ft
end
end I
namespace I
structure Good (F:Nat) (h:aU) (k:aH) (Y O:List Int):Prop where
 qb:mH F k=some 0
 QR:gD k
 s:hg h
 l:g8 h k Y O
 ok:ax h k Y O
section
variable {F:Nat} {k:aH} {h:aU} {Y O:List Int}
theorem asD (aR:10000 <F) (Dg:∃ e,mH F k=some e/\(e≠ 0 \/(e= 0 /\gD k))) (aS:Small F h.bg.length) :
 ∃ r,my F h k=some r/\((r.2 ≠ 0 /\r.1 =none)\/ ∃ Y O,Good F h k Y O/\r=(some (view h k Y O),0)):=by
 obtain ⟨e,ao,he⟩:=Dg
 unfold my
 have aeA:mH F (⟨k.bJ,k.bB,k.Fields,k.Names,k.bC⟩:aH)=some e:=ao
 rw [aeA,Option.bind_some]
 rcases he with he | ⟨rfl,ak⟩
 · rw [n4 he];exact ⟨_,rfl,.inl ⟨he,rfl⟩⟩
 obtain ⟨r,aq,gR⟩:=aax aR ak aS
 have aq:o0 F (⟨h.Words,h.aW,h.a9,h.bq,h.bm,h.bg,h.Next⟩:aU) (⟨k.bJ,k.bB,k.Fields,k.Names,k.bC⟩:aH)=some r:=aq
 rw [oL,aq,Option.bind_some]
 refine ⟨_,rfl,?_⟩
 cases gR with
 | size ar=>exact .inl ⟨fun e=>ar (QT.1 e),rfl⟩
 | form _ ag=>exact .inl ⟨by decide,rfl⟩
 | @rest Kg FI ar au=>
   by_cases q:ld (view h k Kg FI)= 0
   · exact .inr ⟨Kg,FI,⟨ao,ak,ar,au,(awm ak ar au).1 q⟩,by rw [q];rfl⟩
   · exact .inl ⟨q,by rw [if_neg q]⟩
theorem Good.dK (_:Good F h k Y O) (a:Int):x2 (view h k Y O) a=some (decide (a ∈ Y++O)):=by
 unfold x2
 show some ((dL ((Y++O).map fun a=>(a,true)) a).getD false)=_
 rw [Ot]
end
end I
namespace I
open Go Go.Proofs.YteeliipnilghaaaGreat
theorem rz {n:Nat} (h:n<=reachBytes):Small 140737488356000 n:=by
 have:reachBytes= 140737488351232 :=rfl
 unfold Small
 omega
theorem lZ {n:Nat} (k:Nat) (h:n*(k+ 1)<=reachBytes):Small 140737488356000 n:=
 rz (Nat.le_trans (Nat.le_mul_of_pos_right n (Nat.succ_pos k)) h)
theorem ajv {m:Method} (h:FK reachBytes m):m.Fits 140737488356000 :=
 ⟨rz h.1,lZ 23 h.2.2.1.1,fun k ak=>rz (h.2.2.1.2 k ak).2,rz h.2.2.2.1.2,lZ 39 h.2.2.2.2.2.2.2.1,fun x af=>rz (h.2.2.2.2.2.2.2.2 x af).2.2.2⟩
theorem aju {c:ap} (h:Cw reachBytes c):c.Fits 140737488356000 :=
 ⟨rz h.1,rz h.2.1,lZ 39 h.2.2.1.1,fun f ag=>⟨rz (h.2.2.1.2 f ag).1,rz (h.2.2.1.2 f ag).2.2⟩,lZ 127 h.2.2.2.1,fun m hm=>ajv (h.2.2.2.2 m hm)⟩
theorem ajw {l:List ap} (h:l.length* 80 <=reachBytes/\ ∀ x ∈ l,Cw reachBytes x):Fits 140737488356000 l:=
 ⟨lZ 79 h.1,fun c hc=>aju (h.2 c hc)⟩
theorem an0 {k:aH} (h:FJ reachBytes k):FG 140737488356000 k:=
 ⟨lZ 7 h.2.1.1,lZ 23 h.2.2.1.1,fun x af=>lZ 39 (h.2.2.1.2 x af).1,lZ 23 h.2.2.2.1.1,fun x af=>lZ 15 (h.2.2.2.1.2 x af).1,lZ 23 h.2.2.2.2.1,fun x af=>lZ 15 (h.2.2.2.2.2 x af).1⟩
end I
namespace I
theorem avQ {k:aH} (iP:gC k.bJ) (e:k=linked k.bJ):gD k:=by
 have:=iP.right.len
 exact ⟨by omega,by rw [e];exact avn⟩
theorem ad4 {k:aH} (J:Go.Proofs.YteeliipnilghaaaGreat.FJ Go.reachBytes k):∃ e,mH 140737488356000 k=some e/\pX 140737488356000 k=some e/\(e≠ 0 \/(e= 0 /\gD k)):=by
 obtain ⟨e,cJ,cm,dS⟩:=ad3 (F:=140737488356000) (by omega) (ajw J.1) (an0 J)
 refine ⟨e,cJ,cm,?_⟩
 rcases dS with rfl | ⟨rfl,iP,ak⟩
 · exact .inl (by decide)
 · exact .inr ⟨rfl,avQ iP ak⟩
theorem asC {F:Nat} {h:aU} {k:aH} (aR:10000 <F) (Dg:∃ e,mH F k=some e/\pX F k=some e/\(e≠ 0 \/(e= 0 /\gD k))) (aS:Small F h.bg.length) (hi:h.Next<= 9223372036854775807) :
 ∃ r,my F h k=some r/\uY F h k=some r.2 /\((r.2 ≠ 0 /\r.1 =none)\/ ∃ Y O,Good F h k Y O/\r=(some (view h k Y O),0)):=by
 obtain ⟨e,cJ,cm,dS⟩:=Dg
 obtain ⟨r,ao,aN⟩:=asD aR ⟨e,cJ,dS⟩ aS
 refine ⟨r,ao,?_,aN⟩
 have adQ:mH F (⟨k.bJ,k.bB,k.Fields,k.Names,k.bC⟩:aH)=some e:=cJ
 have adR:pX F (⟨k.bJ,k.bB,k.Fields,k.Names,k.bC⟩:aH)=some e:=cm
 unfold uY
 unfold my at ao
 rw [adQ,Option.bind_some] at ao
 rw [adR,Option.bind_some]
 rcases dS with dS | ⟨rfl,ak⟩
 · rw [n4 dS] at ao
   obtain rfl:=Option.some.inj ao
   rw [decide_eq_false dS];rfl
 · rw [oL] at ao
   obtain ⟨cN,hf,s1⟩:=aax aR ak aS
   obtain ⟨ec,du,s2⟩:=auM aR ak aS hi
   have hf:o0 F (⟨h.Words,h.aW,h.a9,h.bq,h.bm,h.bg,h.Next⟩:aU) (⟨k.bJ,k.bB,k.Fields,k.Names,k.bC⟩:aH)=some cN:=hf
   have du:uT F (⟨h.Words,h.aW,h.a9,h.bq,h.bm,h.bg,h.Next⟩:aU) (⟨k.bJ,k.bB,k.Fields,k.Names,k.bC⟩:aH)=some ec.2 :=du
   obtain rfl:=s1.Jb s2
   rw [hf,Option.bind_some] at ao
   obtain rfl:=Option.some.inj ao
   rw [show decide ((0 :Int)= 0)=true from rfl,cond_true,du];rfl
end I
namespace I
theorem anV {h:aU}:w7 h=uX h:=by
 unfold w7 uX
 congr 1
 unfold aX
 omega
theorem asL (h:aU) (aY:Go.Proofs.YteeliipnilghaaaGreat.R5 Go.reachBytes h) (k:aH) (J:Go.Proofs.YteeliipnilghaaaGreat.FJ Go.reachBytes k):∃ F,xf F h k=some true:=by
 refine ⟨140737488355940 + 60,?_⟩
 have aR:10000 < 140737488355940 + 60 :=by omega
 have Dg:=ad4 J
 have aS:Small (140737488355940 + 60) h.bg.length:=lZ 7 aY.2.2.2.2.2.1.1
 obtain ⟨r,ao,aq,hc⟩:=asC aR Dg aS aY.2.2.2.2.2.2.2
 unfold xf Fp
 have ao:my (140737488355940 + 60) (⟨h.Words,h.aW,h.a9,h.bq,h.bm,h.bg,h.Next⟩:aU) (⟨k.bJ,k.bB,k.Fields,k.Names,k.bC⟩:aH)=some r:=ao
 rw [ao,aq,Option.bind_some]
 rcases hc with ⟨aa,_⟩ | ⟨Y,O,g,rfl⟩
 · rw [decide_eq_false aa]
   simp only [Bool.not_false,cond_true,cond_false,Option.bind_some,decide_true,Bool.and_true]
   rw [decide_eq_false aa,cond_false]
 · obtain ⟨n,tF⟩:∃ n,uX h=some n:=⟨_,rfl⟩
   have tC:w7 (⟨h.Words,h.aW,h.a9,h.bq,h.bm,h.bg,h.Next⟩:aU)=some n:=anV.trans tF
   rw [tC,tF]
   simp
end I
namespace Go.Proofs.YteeliipnilghaaaGreat.youngRooms
open Go Go.ChangeShapes Go.WideShapes Go.ChangeAt Go.RowKit
theorem own:ownKnob Tryz.prog.godebug=none:=by kernel_rfl
set_option maxRecDepth 100000 in
theorem ad_ (H:Type) (enc:TypeId × Value->H) (W:World) (base:Nat) (args:Array Value) (ds gs:List (DataW H)) (before:List MemPlace)
 (qG:∀ (j:Nat) t v,Tryz.f4.params[j]? =some t->args[j]? =some v->Value.okWide Tryz.prog W .any base t v)
 (ht:DataW.Whole enc Tryz.prog Tryz.f4.params.toList Rows.youngRoomsSpec.vars false W args.toList ds gs before) (Hh:∀ n ∈ DataW.weightsEach Tryz.prog Tryz.f4.params.toList ds,n<=reachBytes) :
 Calls Tryz.prog 4 args W fun e h5=>∃ v,e= .returned v/\Rows.youngRoomsSpec.post enc Tryz.prog Tryz.f4 false true false false W args v h5:=by
 have akf:=ht
 have bL:=ht.lt
 obtain ⟨p,q,ajU,oQ,DM,mz,vK⟩:=ht
 have dT:DataW.TrodAll enc Tryz.prog W 0 (fun _=>true) true Tryz.f4.params.toList args.toList ds p:=ajU
 have ej:=Hh
 rw [Tryz.params4] at dT qG ej
 obtain ⟨aw,azU,d0,azl,gw,azP,MD,rfl,rfl,aY,av_⟩:=trodAll_cons dT
 obtain ⟨v1,azV,d1,azm,dX,bx,rfl,rfl,rfl,J,av'⟩:=trodAll_cons av_
 obtain ⟨rfl,rfl,rfl⟩:=trodAll_nil av'
 obtain rfl:args= #[aw,v1]:=by cases args;simp_all
 obtain ⟨rfl,rfl⟩:=trodVars_none oQ
 have avr:=au1 (enc:=enc) (N:=reachBytes)
 have avo:=ay.Sh avr aY (fun x af=>bL x (by subst DM;simp [af]))
 have avt:=avo (fun m hm=>ej m (by simp only [DataW.weightsEach,List.mem_append];simp [hm]))
 obtain ⟨d0,fE,gX⟩:=avt
 obtain ⟨aw,rfl,_⟩:=okWide_struct Tryz.underlying24 (qG 0 24 aw rfl rfl)
 obtain ⟨ayY,azc,ayZ,azd,dn,asT,asU⟩:=fE
 obtain rfl:=ay.R_ dn
 have avs:=au2 (enc:=enc) (N:=reachBytes)
 have avp:=ay.Sh avs J (fun x af=>bL x (by subst DM;simp [af]))
 have avu:=avp (fun m hm=>ej m (by simp only [DataW.weightsEach,List.mem_append];simp [hm]))
 obtain ⟨d1,cN,bt⟩:=avu
 obtain ⟨v1,rfl,_⟩:=okWide_struct Tryz.underlying30 (qG 1 30 v1 rfl rfl)
 obtain ⟨ay0,aze,ay1,azf,ay2,azg,ay3,azh,ay4,azi,ao,asZ,as0,as1,as2,as3⟩:=cN
 obtain rfl:=ay.R_ ao
 obtain ⟨F,aR⟩:=I.asL d0 gX d1 bt
 have vm:∀ k,ay.gS [] W k->k <W.heap.size/\W.heap[k]? =W.heap[k]? :=fun k ak=>⟨ak.2,rfl⟩
 have gp:((Hx F).run ad [.a [.s 3 d0.Words,.p (.int .i64 d0.aW),.p (.int .i64 d0.a9),.p (.int .i64 d0.bq),.p (.int .i64 d0.bm),.s 3 d0.bg,.p (.int .i64 d0.Next)],.a [.s 134 d1.bJ,.s 3 d1.bB,.s 124 d1.Fields,.s 120 d1.Names,.s 121 d1.bC]] [])= .op (I.xf F d0 d1) fun r=>.ok ⟨.ret (.p (.bool r)),[],[]⟩:=by kernel_rfl
 refine (bK.anT (E:=ad) rfl (adU F) (ys:=[.a [.s 3 d0.Words,.p (.int .i64 d0.aW),.p (.int .i64 d0.a9),.p (.int .i64 d0.bq),.p (.int .i64 d0.bm),.s 3 d0.bg,.p (.int .i64 d0.Next)],.a [.s 134 d1.bJ,.s 3 d1.bB,.s 124 d1.Fields,.s 120 d1.Names,.s 121 d1.bC]]) (W:=W) (by rw [gp];exact ⟨true,aR,rfl⟩) ⟨_,_,rfl,⟨_,rfl,_,_,rfl,bK.hW (fun _ _=>Qw) ((ay.ca _).law vm asT),_,_,rfl,rfl,_,_,rfl,rfl,_,_,rfl,rfl,_,_,rfl,rfl,_,_,rfl,bK.hW (fun _ _=>Qw) ((ay.ca _).law vm asU),_,_,rfl,rfl,rfl⟩,_,_,rfl,⟨_,rfl,_,_,rfl,bK.hW (fun _ _=>auU) ((ay.ca _).law vm asZ),_,_,rfl,bK.hW (fun _ _=>Qw) ((ay.ca _).law vm as0),_,_,rfl,bK.hW (fun _ _=>auR) ((ay.ca _).law vm as1),_,_,rfl,bK.hW (fun _ _=>auP) ((ay.ca _).law vm as2),_,_,rfl,bK.hW (fun _ _=>auQ) ((ay.ca _).law vm as3),rfl⟩,rfl⟩).mono fun e h5 ⟨he,aj⟩=>?_
 exact ⟨_,he,ay.asN akf (by kernel_rfl) (by kernel_rfl) rfl rfl Tryz.underlying4 rfl aj⟩
theorem anR (os:Os):laidMet Tryz.prog Rows.youngRoomsRow.laid ((World.holding Tryz.prog os ⟨#[],#[],[]⟩).forCall (fun _ _=>0) ⟨#[],#[.agg #[.slice none 0 0,.int .i64 0,.int .i64 0,.int .i64 0,.int .i64 0,.slice none 0 0,.int .i64 0],.agg #[.slice none 0 0,.slice none 0 0,.slice none 0 0,.slice none 0 0,.slice none 0 0]],[]⟩).memory:=
 laidMet_of_run' 8 (by kernel_rfl) (by kernel_rfl)
theorem reads (os:Os) {H:Type} (enc:TypeId × Value->H):∃ places,DataW.whole enc Tryz.prog ((World.holding Tryz.prog os ⟨#[],#[],[]⟩).forCall (fun _ _=>0) ⟨#[],#[.agg #[.slice none 0 0,.int .i64 0,.int .i64 0,.int .i64 0,.int .i64 0,.slice none 0 0,.int .i64 0],.agg #[.slice none 0 0,.slice none 0 0,.slice none 0 0,.slice none 0 0,.slice none 0 0]],[]⟩).memory Tryz.f4.params.toList Rows.youngRoomsSpec.vars false (#[.agg #[.slice none 0 0,.int .i64 0,.int .i64 0,.int .i64 0,.int .i64 0,.slice none 0 0,.int .i64 0],.agg #[.slice none 0 0,.slice none 0 0,.slice none 0 0,.slice none 0 0,.slice none 0 0]]:Array Value).toList 8 =some ([.agg [.nil,.lit (.int .i64 0),.lit (.int .i64 0),.lit (.int .i64 0),.lit (.int .i64 0),.nil,.lit (.int .i64 0)],.agg [.nil,.nil,.nil,.nil,.nil]],[],places):=
 ⟨[],by kernel_rfl⟩
set_option maxRecDepth 100000 in
theorem lifted (os:Os) (started:os.Started) (H:Type) (enc:TypeId × Value->H) (F:Stop.Interp) :
 ReturnsInHanded {} Tryz.checked os 4 .any ((OpenSpec.ofChange Rows.youngRoomsSpec).preRow enc Tryz.prog Tryz.f4 Rows.youngRoomsRow.domain false Rows.youngRoomsRow.laid) (((OpenSpec.ofChange Rows.youngRoomsSpec).at F).post enc Tryz.prog Tryz.f4 false true false false):=by
 obtain ⟨places,af⟩:=reads os enc
 refine returnsInHanded_of_row (C:=Tryz.checked) (s:=OpenSpec.ofChange Rows.youngRoomsSpec) own started (by kernel_rfl) Tryz.func4
  (witness_row_at (enc:=enc) (C:=Tryz.checked) false (World.holding Tryz.prog os ⟨#[],#[],[]⟩) #[.agg #[.slice none 0 0,.int .i64 0,.int .i64 0,.int .i64 0,.int .i64 0,.slice none 0 0,.int .i64 0],.agg #[.slice none 0 0,.slice none 0 0,.slice none 0 0,.slice none 0 0,.slice none 0 0]] rfl (by kernel_rfl) (by kernel_rfl) (by kernel_rfl)
   (OpenSpec.preRow_of_cond 8 af (by kernel_rfl) (fun k ak=>by cases ak) (by kernel_rfl) (anR os))) ?_
 intro W base args ds gs before qG ht _ azu al4 _ _ _
 exact ad_ H enc W base args ds gs before qG ht (fun n aS=>by obtain ⟨_,_,_,oQ,_,_,_⟩:=ht;obtain ⟨rfl,_⟩:=trodVars_none oQ;have VS:(DataW.weightsEach Tryz.prog (Tryz.f4.params.toList++[]) (ds++[])).all (· <=reachBytes)=true:=al4;rw [List.append_nil,List.append_nil] at VS;exact of_decide_eq_true (List.all_eq_true.1 VS n aS))
theorem said:Rows.YoungRoomsSaid:=
 OpenClaim.holds_of_cond 4 Tryz.f4 rfl rfl rfl rfl rfl rfl rfl ⟨rfl,rfl,rfl,rfl,rfl⟩ rfl rfl rfl rfl rfl (by kernel_rfl) Tryz.func4 (by kernel_rfl)
  (of_decide_eq_true (by kernel_rfl)) (by unfold Func.isWrapper;first | (rw [if_pos (by decide +kernel)];kernel_rfl) | (rw [if_neg (by decide +kernel)];exact ⟨rfl,rfl⟩))
  (fun os started H enc _ F=>by rw [OpenClaim.pre_eq_preRow];exact lifted os started H enc F)
end Go.Proofs.YteeliipnilghaaaGreat.youngRooms
