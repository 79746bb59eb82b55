/- LAW: THE WALK AND THE PLAIN LAW, JOINED TO THE GIVEN STATEMENT: for every input that the row speaks of, the call returns true and what came in reads as it did. Made by program (liftgen2.py). -/
import Derived.Test.YteeliipnilghaaaGreatFl6
import Derived.Test.YteeliipnilghaaaGreatRows
import Derived.WalkKit
import Derived.ProofKit
import Derived.OpenShut
import Derived.Deep.DeepHandedRow
namespace J
def Ay (h:aY):Prop:=(3 <=h.aL/\h.aL<= 2000)/\(3 <=h.aW/\h.aW<= 2000)
def okB (h:aY):Prop:=(h.Words.length:Int)= 1 +h.aL+h.aW
def GA (h:aY):Prop:=(1 <=h.a5/\h.a5<=h.aL+ 1)/\(h.aL+ 1 <=h.a2/\h.a2<=h.aL+h.aW+ 1)/\ 1 <=h.Next
instance (h:aY):Decidable (Ay h):=inferInstanceAs (Decidable ((3 <=h.aL/\h.aL<= 2000)/\(3 <=h.aW/\h.aW<= 2000)))
instance (h:aY):Decidable (okB h):=inferInstanceAs (Decidable ((h.Words.length:Int)= 1 +h.aL+h.aW))
instance (h:aY):Decidable (GA h):=inferInstanceAs (Decidable ((1 <=h.a5/\h.a5<=h.aL+ 1)/\(h.aL+ 1 <=h.a2/\h.a2<=h.aL+h.aW+ 1)/\ 1 <=h.Next))
def lU (h:aY):Int:=if Ay h then (if okB h then (if GA h then 0 else 3) else 1) else 3
theorem aBI (h:aY):Cw h=some (lU h):=by
 unfold Cw np lU
 simp only [Option.bind_some]
 by_cases dl:Ay h
 case neg=>
  rw [if_neg dl]
  unfold Ay at dl
  by_cases a:3 <=h.aL/\h.aL<= 2000
  · have b: ¬ (3 <=h.aW/\h.aW<= 2000):=fun b=>dl ⟨a,b⟩
    rw [show (decide (3 <=h.aL) && decide (h.aL<= 2000))=true by simpa using a,show (decide (3 <=h.aW) && decide (h.aW<= 2000))=false by rw [Bool.eq_false_iff];simpa using b]
    rfl
  · rw [show (decide (3 <=h.aL) && decide (h.aL<= 2000))=false by rw [Bool.eq_false_iff];simpa using a]
    rfl
 rw [if_pos dl]
 unfold Ay at dl
 obtain ⟨⟨cC,cQ⟩,dX,fb⟩:=dl
 rw [show (decide (3 <=h.aL) && decide (h.aL<= 2000))=true by simp;omega,show (decide (3 <=h.aW) && decide (h.aW<= 2000))=true by simp;omega,
  dt (n:=1 +h.aL) (by omega) (by omega),dt (n:=1 +h.aL+h.aW) (by omega) (by omega),dt (n:=h.aL+ 1) (by omega) (by omega),dt (n:=h.aL+h.aW) (by omega) (by omega),dt (n:=h.aL+h.aW+ 1) (by omega) (by omega)]
 simp only [Bool.not_true,cond_false]
 by_cases bO:okB h
 case neg=>
  rw [if_neg bO,show decide ((h.Words.length:Int)= 1 +h.aL+h.aW)=false from decide_eq_false bO];rfl
 rw [if_pos bO,show decide ((h.Words.length:Int)= 1 +h.aL+h.aW)=true from decide_eq_true bO]
 simp only [Bool.not_true,cond_false]
 by_cases hA:GA h
 · rw [if_pos hA]
   obtain ⟨c1,c2,c3⟩:=hA
   rw [show (decide (1 <=h.a5) && decide (h.a5<=h.aL+ 1))=true by simpa using c1,show (decide (h.aL+ 1 <=h.a2) && decide (h.a2<=h.aL+h.aW+ 1))=true by simpa using c2,show decide (h.Next < 1)=false from decide_eq_false (by omega)]
   rfl
 · rw [if_neg hA]
   by_cases c1:1 <=h.a5/\h.a5<=h.aL+ 1
   · rw [show (decide (1 <=h.a5) && decide (h.a5<=h.aL+ 1))=true by simpa using c1]
     by_cases c2:h.aL+ 1 <=h.a2/\h.a2<=h.aL+h.aW+ 1
     · have c3:h.Next < 1 :=by
        rcases Int.lt_or_le h.Next 1 with c | c
        · exact c
        · exact absurd ⟨c1,c2,c⟩ hA
       rw [decide_eq_true c3,Bool.or_true];rfl
     · rw [show (decide (h.aL+ 1 <=h.a2) && decide (h.a2<=h.aL+h.aW+ 1))=false by rw [Bool.eq_false_iff];simpa using c2]
       rfl
   · rw [show (decide (1 <=h.a5) && decide (h.a5<=h.aL+ 1))=false by rw [Bool.eq_false_iff];simpa using c1]
     rfl
structure h6 (h:aY):Prop where
 A:Ay h
 B:okB h
 C:GA h
theorem Vy {h:aY}:lU h= 0 ↔ h6 h:=by
 unfold lU
 constructor
 · intro e
   split at e
   · split at e
     · split at e
       · exact ⟨‹_›,‹_›,‹_›⟩
       · cases e
     · cases e
   · cases e
 · rintro ⟨a,b,c⟩
   rw [if_pos a,if_pos b,if_pos c]
section
variable {F:Nat} {k:aU} {W:List Int}
theorem fw.mem {to q:Nat} {L:List Int} (h:fw k W to q L):∀ a ∈ L,∃ n:Nat,a=(n:Int)/\q<=n/\n+ 3 +(wd W (n+ 1)).toNat<=to/\hC k (wd W n)=true/\isLen k (wd W n) (wd W (n+ 1))=true:=by
 induction h with
 | nil=>intro a aK;cases aK
 | cons I aa aw _ bq=>
   intro a aK
   rcases List.mem_cons.1 aK with rfl | aK
   · exact ⟨_,rfl,Nat.le_refl _,aw,I,aa⟩
   · obtain ⟨n,e,bi,dA⟩:=bq a aK
     exact ⟨n,e,by omega,dA⟩
theorem fw.xB {to q:Nat} {L L':List Int} (h:fw k W to q L) (h':fw k W to q L'):L=L':=by
 induction h generalizing L' with
 | nil=>
   cases h' with
   | nil=>rfl
   | cons _ _ _ _=>omega
 | cons _ _ aw _ bq=>
   cases h' with
   | nil=>omega
   | cons _ _ _ bi=>rw [bq bi]
theorem fw.len {to q:Nat} {L:List Int} (h:fw k W to q L):3 *L.length+q<=to:=by
 induction h with
 | nil=>simp
 | cons _ _ aw _ bq=>simp only [List.length_cons];omega
theorem afW {l:List Int} {N:Nat} (h:zd l) (aQ:∀ i,i <l.length-> 0 <=wd l i/\wd l i <N):l.length<=N:=by
 have key:∀ i,i <l.length->(i:Int)<=wd l i:=by
  intro i
  induction i with
  | zero=>intro hi;exact (aQ 0 hi).1
  | succ i bq=>
    intro hi
    have:=h i (i+ 1) (by omega) hi
    have:=bq (by omega)
    omega
 rcases Nat.eq_zero_or_pos l.length with e | e
 · omega
 · have:=key (l.length - 1) (by omega)
   have:=(aQ (l.length - 1) (by omega)).2
   omega
theorem K9 (x:Int):∀ A:List Int,(dI (A.map fun a=>(a,true)) x).getD false=decide (x ∈ A)
 | []=>by simp [dI]
 | a::r=>by
   rw [List.map_cons,dI]
   by_cases e:a=x
   · simp [e]
   · rw [if_neg e,K9 x r]
     have: ¬ x=a:=fun h=>e h.symm
     simp [this]
def view (h:aY) (k:aU) (Y O:List Int):bd:=⟨h,⟨k⟩,Y,O,(Y++O).map fun a=>(a,true)⟩
structure hv (h:aY) (k:aU) (Y O:List Int):Prop where
 y:fw k h.Words h.a5.toNat 1 Y
 o:fw k h.Words h.a2.toNat (h.aL+ 1).toNat O
theorem h6.gk {h:aY} (ao:h6 h):h.Words.length<= 4001 :=by
 obtain ⟨⟨⟨a,b⟩,c,d⟩,e,_⟩:=ao
 unfold okB at e;omega
theorem hv.qv {h:aY} {Y O:List Int} (aj:g7 k) (ao:h6 h) (aq:hv h k Y O):nb (view h k Y O):=by
 have hw:=ao.gk
 obtain ⟨⟨⟨cC,cQ⟩,dX,fb⟩,b,⟨c1,c2⟩,⟨c3,c4⟩,c5⟩:=ao
 unfold okB at b
 refine ⟨aj,by show h.Words.length<= 4900;omega,?_,fun a aK=>?_,fun x=>K9 x _⟩
 · have:=aq.y.len;have:=aq.o.len
   show Y.length+O.length<= 5000
   omega
 · have aK:a ∈ Y++O:=aK
   rcases List.mem_append.1 aK with aK | aK
   · obtain ⟨n,rfl,I,aa,aw,bi⟩:=aq.y.mem a aK
     exact ⟨by omega,by show ((n:Int).toNat)+ 3 +(wd h.Words ((n:Int).toNat+ 1)).toNat<=h.Words.length;rw [Int.toNat_natCast];omega,by rw [Int.toNat_natCast];exact aw,by rw [Int.toNat_natCast];exact bi⟩
   · obtain ⟨n,rfl,I,aa,aw,bi⟩:=aq.o.mem a aK
     exact ⟨by omega,by show ((n:Int).toNat)+ 3 +(wd h.Words ((n:Int).toNat+ 1)).toNat<=h.Words.length;rw [Int.toNat_natCast];omega,by rw [Int.toNat_natCast];exact aw,by rw [Int.toNat_natCast];exact bi⟩
def a3 (v:bd):Int:=if (v.aL++v.aW).any (kS v) then 3 else if ((v.aL++v.aW).map (ao v.H.Words)).Nodup then 0 else 6
def jZ (v:bd):Int:=if (v.aL++v.aW).any (mQ v) then 5 else if (free v.H).any (fun x=>!decide (x= 0)) then 1 else 0
def w7 (v:bd):Int:=if (List.range v.H.aZ.length).any (gW v) || v.aW.any (n2 v) then 4 else 0
def mZ (v:bd):Int:=if a3 v= 0 then (if jZ v= 0 then w7 v else jZ v) else a3 v
inductive Spec (h:aY) (k:aU):Option bd × Int->Prop
 | size: ¬ h6 h->Spec h k (none,lU h)
 | form:h6 h->(∀ Y O,¬ hv h k Y O)->Spec h k (none,1)
 | rest {Y O:List Int}:h6 h->hv h k Y O->Spec h k (if mZ (view h k Y O)= 0 then some (view h k Y O) else none,mZ (view h k Y O))
theorem TI (aD:10000 <F) {h:aY} (aj:g7 k) (aJ:Small F h.aZ.length):∃ r,rj F h k=some r/\Spec h k r:=by
 unfold rj
 have dg:Cw (⟨h.Words,h.aL,h.aW,h.a5,h.a2,h.aZ,h.Next⟩:aY)=some (lU h):=aBI h
 rw [dg,Option.bind_some]
 by_cases ao:h6 h
 case neg=>
  rw [qb (fun e=>ao (Vy.1 e))]
  exact ⟨_,rfl,.size ao⟩
 rw [Vy.2 ao,pC]
 have hw:=ao.gk
 have cb:=ao
 obtain ⟨⟨⟨cC,cQ⟩,dX,fb⟩,b,⟨c1,c2⟩,⟨c3,c4⟩,c5⟩:=ao
 unfold okB at b
 have t1:=af7 (F:=F) (by omega) (⟨h,⟨k⟩,[],[],[]⟩:bd) aj (q:=1) (to:=h.a5.toNat) (by omega) (by show _<=h.Words.length;omega) (by show h.Words.length<= 5000;omega) (fun p aN=>by cases aN)
 rw [show ((h.a5.toNat:Nat):Int)=h.a5 by omega] at t1
 rw [dt (n:=h.aL+ 1) (by omega) (by omega)]
 rcases t1 with ⟨Y,Kf,ak⟩ | ⟨iV,eU,ak⟩
 case inr=>
  have ak:lG F (⟨(⟨h.Words,h.aL,h.aW,h.a5,h.a2,h.aZ,h.Next⟩:aY),(⟨(⟨k.ba,k.a8,k.Fields,k.Names,k.a9⟩:aU)⟩:b'),[],[],[]⟩:bd) 1 h.a5=some ([],false,(⟨h,⟨k⟩,[],[],eU⟩:bd)):=ak
  rw [ak,Option.bind_some]
  have t2:∃ r,lG F (⟨(⟨h.Words,h.aL,h.aW,h.a5,h.a2,h.aZ,h.Next⟩:aY),(⟨(⟨k.ba,k.a8,k.Fields,k.Names,k.a9⟩:aU)⟩:b'),[],[],eU⟩:bd) (h.aL+ 1) h.a2=some r:=by
   unfold lG
   have key:∀ (f q:Nat) (acc:List Int) (m:List (Int × Bool)),q<=h.a2.toNat->h.a2.toNat - q <f->acc.length+(h.a2.toNat - q)<= 5000 -> ∃ r,nn h.a2 (⟨h,⟨k⟩,[],[],eU⟩:bd) f acc m (q:Int)=some r:=by
    intro f
    induction f with
    | zero=>intro q acc m _ aT;omega
    | succ f bq=>
      intro q acc m aT af s7
      rw [nn]
      by_cases bE:(q:Int) <h.a2
      case neg=>rw [decide_eq_false bE];exact ⟨_,rfl⟩
      rw [decide_eq_true bE,cond_true,dt (n:=(q:Int)+ 3) (by omega) (by omega)]
      by_cases aw:h.a2 <(q:Int)+ 3
      · rw [decide_eq_true aw];exact ⟨_,rfl⟩
      rw [decide_eq_false aw,cond_false]
      show ∃ r,(idx h.Words (q:Int)).bind _=some r
      rw [jv (by omega),Option.bind_some]
      show ∃ r,(idx h.Words (aA ((q:Int)+ 1))).bind _=some r
      rw [dt (n:=(q:Int)+ 1) (by omega) (by omega),nv (i:=q+ 1) (by omega) (by omega),Option.bind_some]
      have ak:tg (⟨(⟨k.ba,k.a8,k.Fields,k.Names,k.a9⟩:aU)⟩:b') (wd h.Words q)=some (hC k (wd h.Words q)):=afL aj _
      show ∃ r,(tg (⟨(⟨k.ba,k.a8,k.Fields,k.Names,k.a9⟩:aU)⟩:b') (wd h.Words q)).bind _=some r
      rw [ak,Option.bind_some]
      cases aO:hC k (wd h.Words q) with
      | false=>exact ⟨_,rfl⟩
      | true=>
        have al:th (⟨(⟨k.ba,k.a8,k.Fields,k.Names,k.a9⟩:aU)⟩:b') (wd h.Words q) (wd h.Words (q+ 1))=some (isLen k (wd h.Words q) (wd h.Words (q+ 1))):=afM aj aO _
        rw [Bool.not_true,cond_false]
        show ∃ r,(th (⟨(⟨k.ba,k.a8,k.Fields,k.Names,k.a9⟩:aU)⟩:b') (wd h.Words q) (wd h.Words (q+ 1))).bind _=some r
        rw [al,Option.bind_some]
        cases aq:isLen k (wd h.Words q) (wd h.Words (q+ 1)) with
        | false=>exact ⟨_,rfl⟩
        | true=>
          obtain ⟨⟨pV,l1⟩,_⟩:=tF.1 aq
          rw [Bool.not_true,Bool.false_or,dt (n:=(q:Int)+ 3 +wd h.Words (q+ 1)) (by omega) (by omega)]
          by_cases zE:h.a2 <(q:Int)+ 3 +wd h.Words (q+ 1)
          · rw [decide_eq_true zE];exact ⟨_,rfl⟩
          rw [decide_eq_false zE,cond_false,jq (by simp;omega),Option.bind_some,dt (n:=3 +wd h.Words (q+ 1)) (by omega) (by omega),dt (n:=(q:Int)+(3 +wd h.Words (q+ 1))) (by omega) (by omega),
           show (q:Int)+(3 +wd h.Words (q+ 1))=((q+ 3 +(wd h.Words (q+ 1)).toNat:Nat):Int) by omega]
          exact bq _ _ _ (by omega) (by omega) (by simp;omega)
   obtain ⟨r,aE⟩:=key F (h.aL+ 1).toNat [] eU (by omega) (by omega) (by simp;omega)
   rw [show (((h.aL+ 1).toNat:Nat):Int)=h.aL+ 1 by omega] at aE
   have aE:nn h.a2 (⟨(⟨h.Words,h.aL,h.aW,h.a5,h.a2,h.aZ,h.Next⟩:aY),(⟨(⟨k.ba,k.a8,k.Fields,k.Names,k.a9⟩:aU)⟩:b'),[],[],eU⟩:bd) F [] eU (h.aL+ 1)=some r:=aE
   rw [aE]
   cases r <;> exact ⟨_,rfl⟩
  obtain ⟨r,al⟩:=t2
  rw [al,Option.bind_some]
  exact ⟨_,rfl,.form cb (fun Y O aq=>iV Y aq.y)⟩
 have ak:lG F (⟨(⟨h.Words,h.aL,h.aW,h.a5,h.a2,h.aZ,h.Next⟩:aY),(⟨(⟨k.ba,k.a8,k.Fields,k.Names,k.a9⟩:aU)⟩:b'),[],[],[]⟩:bd) 1 h.a5=some (Y,true,(⟨h,⟨k⟩,[],[],Y.map fun a=>(a,true)⟩:bd)):=ak
 rw [ak,Option.bind_some]
 have t2:=af7 (F:=F) (by omega) (⟨h,⟨k⟩,[],[],Y.map fun a=>(a,true)⟩:bd) aj (q:=(h.aL+ 1).toNat) (to:=h.a2.toNat) (by omega) (by show _<=h.Words.length;omega) (by show h.Words.length<= 5000;omega) (fun p aN=>by
  obtain ⟨a,aK,rfl⟩:=List.mem_map.1 aN
  have asr:fw k h.Words h.a5.toNat 1 Y:=Kf
  obtain ⟨n,rfl,I,aa,_⟩:=asr.mem a aK
  show (n:Int) <_
  omega)
 rw [show ((h.a2.toNat:Nat):Int)=h.a2 by omega,show (((h.aL+ 1).toNat:Nat):Int)=h.aL+ 1 by omega] at t2
 rcases t2 with ⟨O,lE,al⟩ | ⟨iV,eU,al⟩
 case inr=>
  have al:lG F (⟨(⟨h.Words,h.aL,h.aW,h.a5,h.a2,h.aZ,h.Next⟩:aY),(⟨(⟨k.ba,k.a8,k.Fields,k.Names,k.a9⟩:aU)⟩:b'),[],[],Y.map fun a=>(a,true)⟩:bd) (h.aL+ 1) h.a2=_:=al
  show ∃ r,(lG F (⟨(⟨h.Words,h.aL,h.aW,h.a5,h.a2,h.aZ,h.Next⟩:aY),(⟨(⟨k.ba,k.a8,k.Fields,k.Names,k.a9⟩:aU)⟩:b'),[],[],Y.map fun a=>(a,true)⟩:bd) (h.aL+ 1) h.a2).bind _=some r/\_
  rw [al,Option.bind_some]
  exact ⟨_,rfl,.form cb (fun EF BD aq=>iV BD aq.o)⟩
 have al:lG F (⟨(⟨h.Words,h.aL,h.aW,h.a5,h.a2,h.aZ,h.Next⟩:aY),(⟨(⟨k.ba,k.a8,k.Fields,k.Names,k.a9⟩:aU)⟩:b'),[],[],Y.map fun a=>(a,true)⟩:bd) (h.aL+ 1) h.a2=some (O,true,(⟨h,⟨k⟩,[],[],(Y.map fun a=>(a,true))++O.map fun a=>(a,true)⟩:bd)):=al
 show ∃ r,(lG F (⟨(⟨h.Words,h.aL,h.aW,h.a5,h.a2,h.aZ,h.Next⟩:aY),(⟨(⟨k.ba,k.a8,k.Fields,k.Names,k.a9⟩:aU)⟩:b'),[],[],Y.map fun a=>(a,true)⟩:bd) (h.aL+ 1) h.a2).bind _=some r/\_
 rw [al,Option.bind_some,<-List.map_append]
 have aq:hv h k Y O:=⟨Kf,lE⟩
 have ah:=aq.qv aj cb
 have et:Ct F (⟨(⟨h.Words,h.aL,h.aW,h.a5,h.a2,h.aZ,h.Next⟩:aY),(⟨(⟨k.ba,k.a8,k.Fields,k.Names,k.a9⟩:aU)⟩:b'),Y,O,(Y++O).map fun a=>(a,true)⟩:bd)=some (a3 (view h k Y O)):=
  asy aD (view h k Y O) ah.py (fun a aK=>⟨(ah.qp a aK).pos,by have:=(ah.qp a aK).fit;omega⟩) (by have:=ah.gk;omega) (by simp [view])
 have hr:Cv F (⟨(⟨h.Words,h.aL,h.aW,h.a5,h.a2,h.aZ,h.Next⟩:aY),(⟨(⟨k.ba,k.a8,k.Fields,k.Names,k.a9⟩:aU)⟩:b'),Y,O,(Y++O).map fun a=>(a,true)⟩:bd)=some (jZ (view h k Y O)):=
  aCy aD ah (by show 0 <=h.aL;omega) ⟨by show 0 <=h.a5;omega,by show h.a5<=h.aL+ 1;omega,by show h.aL+ 1 <=h.Words.length;omega⟩ ⟨by show 0 <=h.a2;omega,by show h.a2<=h.Words.length;omega⟩
 have j1:Cu F (⟨(⟨h.Words,h.aL,h.aW,h.a5,h.a2,h.aZ,h.Next⟩:aY),(⟨(⟨k.ba,k.a8,k.Fields,k.Names,k.a9⟩:aU)⟩:b'),Y,O,(Y++O).map fun a=>(a,true)⟩:bd)=some (w7 (view h k Y O)):=
  axX aD ah aJ.1 aJ.2 (fun iU=>by
   refine Nat.le_trans (afW (N:=5000) (VG fun i hi=>?_) (fun i hi=>?_)) (by omega)
   · have:=iU (i+ 1) hi
     unfold gW at this
     simp only [Bool.or_eq_false_iff,Bool.and_eq_false_iff,decide_eq_false_iff_not,Nat.add_sub_cancel] at this
     rcases this.1 with z | z
     · omega
     · have z: ¬ wd h.aZ (i+ 1)<=wd h.aZ i:=z
       show wd h.aZ i <wd h.aZ (i+ 1);omega
   · have:=iU i hi
     unfold gW qa at this
     simp only [Bool.or_eq_false_iff] at this
     have hm:wd (view h k Y O).H.aZ i ∈ (view h k Y O).aL++(view h k Y O).aW:=by
      have:=this.2.1.1
      simp only [Bool.not_eq_false'] at this
      exact of_decide_eq_true this
     have aO:=ah.qp _ hm
     have I:0 <=wd h.aZ i:=aO.pos
     have aa:(wd h.aZ i).toNat+ 3 +(wd h.Words ((wd h.aZ i).toNat+ 1)).toNat<=h.Words.length:=aO.fit
     exact ⟨I,by show wd h.aZ i <((5000 :Nat):Int);omega⟩)
 simp only [Bool.not_true,Bool.or_self,cond_false]
 rw [et,Option.bind_some]
 by_cases bk:a3 (view h k Y O)= 0
 case neg=>
  rw [qb bk]
  have bV:mZ (view h k Y O)=a3 (view h k Y O):=by unfold mZ;rw [if_neg bk]
  have:=Spec.rest cb aq
  rw [bV,if_neg bk] at this
  exact ⟨_,rfl,this⟩
 rw [bk,pC,hr,Option.bind_some]
 by_cases bF:jZ (view h k Y O)= 0
 case neg=>
  rw [qb bF]
  have bV:mZ (view h k Y O)=jZ (view h k Y O):=by unfold mZ;rw [if_pos bk,if_neg bF]
  have:=Spec.rest cb aq
  rw [bV,if_neg bF] at this
  exact ⟨_,rfl,this⟩
 rw [bF,pC,j1,Option.bind_some]
 have bV:mZ (view h k Y O)=w7 (view h k Y O):=by unfold mZ;rw [if_pos bk,if_pos bF]
 have zM:=Spec.rest cb aq
 rw [bV] at zM
 by_cases b1:w7 (view h k Y O)= 0
 · rw [b1] at zM ⊢
   rw [pC]
   exact ⟨_,rfl,zM⟩
 · rw [qb b1]
   rw [if_neg b1] at zM
   exact ⟨_,rfl,zM⟩
end
end J
namespace J
theorem aCv {W:List Int} {p j:Nat} {x:Int} (aN:p <W.length):wd (W.set p x) j=if j=p then x else wd W j:=by
 unfold wd
 rw [List.getElem?_set]
 by_cases e:j=p
 · subst e;simp [aN]
 · have: ¬ p=j:=fun h=>e h.symm
   simp [e,this]
theorem adw {h:aY} {x:Int} (hy:0 <=h.aL) (ad:x ∈ free h):∃ i:Nat,i <h.Words.length/\(i= 0 \/(h.a5<=i/\(i:Int)<=h.aL)\/h.a2<=i)/\x=wd h.Words i:=by
 unfold free at ad
 rw [List.mem_append,List.mem_append] at ad
 rcases ad with ad | ad | ad
 · obtain ⟨i,hi,e⟩:=List.getElem_of_mem ad
   have cR:i < 1 /\i <h.Words.length:=by rw [List.length_take] at hi;omega
   refine ⟨i,cR.2,.inl (by omega),?_⟩
   rw [<-e,List.getElem_take];exact (qy (List.getElem?_eq_getElem cR.2)).symm
 · obtain ⟨i,hi,e⟩:=List.getElem_of_mem ad
   have cR:i <min (h.aL+ 1).toNat h.Words.length - h.a5.toNat:=by simpa using hi
   have aa:h.a5.toNat+i <h.Words.length:=by omega
   refine ⟨h.a5.toNat+i,aa,.inr (.inl ⟨by omega,by omega⟩),?_⟩
   rw [<-e,List.getElem_drop,List.getElem_take];exact (qy (List.getElem?_eq_getElem aa)).symm
 · obtain ⟨i,hi,e⟩:=List.getElem_of_mem ad
   have cR:i <h.Words.length - h.a2.toNat:=by simpa using hi
   have aa:h.a2.toNat+i <h.Words.length:=by omega
   refine ⟨h.a2.toNat+i,aa,.inr (.inr (by omega)),?_⟩
   rw [<-e,List.getElem_drop];exact (qy (List.getElem?_eq_getElem aa)).symm
theorem aaV {h:aY} (aQ:0 <=h.a5/\ 0 <=h.a2) {i:Nat} (hi:i <h.Words.length) (hc:i= 0 \/(h.a5<=i/\(i:Int)<=h.aL)\/h.a2<=i):wd h.Words i ∈ free h:=by
 have key:wd h.Words i=h.Words[i]:=qy (List.getElem?_eq_getElem hi)
 unfold free
 rw [List.mem_append,List.mem_append,key]
 rcases hc with rfl | ⟨I,aa⟩ | I
 · left
   rw [List.mem_iff_getElem?]
   exact ⟨0,by rw [List.getElem?_take,if_pos (by omega)];exact List.getElem?_eq_getElem hi⟩
 · right;left
   rw [List.mem_iff_getElem?]
   refine ⟨i - h.a5.toNat,?_⟩
   rw [List.getElem?_drop,List.getElem?_take,if_pos (by omega),show h.a5.toNat+(i - h.a5.toNat)=i by omega]
   exact List.getElem?_eq_getElem hi
 · right;right
   rw [List.mem_iff_getElem?]
   refine ⟨i - h.a2.toNat,?_⟩
   rw [List.getElem?_drop,show h.a2.toNat+(i - h.a2.toNat)=i by omega]
   exact List.getElem?_eq_getElem hi
structure cM (h:aY) (k:aU) (Y O:List Int):Prop where
 hash:∀ a ∈ Y++O,1 <=ao h.Words a/\ao h.Words a <h.Next
 nodup:((Y++O).map (ao h.Words)).Nodup
 ref:∀ a ∈ Y++O,∀ w ∈ refs k h.Words a.toNat,wd h.Words w.toNat= 0 \/wd h.Words w.toNat ∈ Y++O
 fr:∀ i:Nat,i <h.Words.length->(i= 0 \/(h.a5<=i/\(i:Int)<=h.aL)\/h.a2<=i)->wd h.Words i= 0
 afV:zd h.aZ
 nt:∀ x ∈ h.aZ,x ∈ O/\refs k h.Words x.toNat≠ []
 must:∀ a ∈ O,¬ a ∈ h.aZ-> ∀ w ∈ refs k h.Words a.toNat,¬ (0 <wd h.Words w.toNat/\wd h.Words w.toNat<=h.aL)
section
variable {F:Nat} {k:aU} {h:aY} {Y O:List Int}
theorem hv.Iy (ao:h6 h) (aq:hv h k Y O):∀ a ∈ Y,1 <=a/\a.toNat+ 3 +(wd h.Words (a.toNat+ 1)).toNat<=h.a5.toNat:=fun a aK=>by
 obtain ⟨n,rfl,I,aa,_⟩:=aq.y.mem a aK
 exact ⟨by omega,by rw [Int.toNat_natCast];exact aa⟩
theorem hv.qd (ao:h6 h) (aq:hv h k Y O):∀ a ∈ O,h.aL+ 1 <=a/\a.toNat+ 3 +(wd h.Words (a.toNat+ 1)).toNat<=h.a2.toNat:=fun a aK=>by
 obtain ⟨n,rfl,I,aa,_⟩:=aq.o.mem a aK
 have:=ao.A.1.1
 exact ⟨by omega,by rw [Int.toNat_natCast];exact aa⟩
theorem agw (aj:g7 k) (cb:h6 h) (aq:hv h k Y O):mZ (view h k Y O)= 0 ↔ cM h k Y O:=by
 have ah:=aq.qv aj cb
 obtain ⟨⟨⟨cC,cQ⟩,dX,fb⟩,b,⟨c1,c2⟩,⟨c3,c4⟩,c5⟩:=id cb
 have hy:=aq.Iy cb;have av:=aq.qd cb
 have ak:a3 (view h k Y O)= 0 ↔ (∀ a ∈ Y++O,kS (view h k Y O) a=false)/\((Y++O).map (ao h.Words)).Nodup:=by
  unfold a3
  show (if (Y++O).any (kS (view h k Y O)) then (3 :Int) else if ((Y++O).map (ao h.Words)).Nodup then 0 else 6)= 0 ↔ _
  cases ag:(Y++O).any (kS (view h k Y O)) with
  | true=>
    rw [if_pos rfl]
    refine ⟨fun e=>(by cases e),fun ⟨e,_⟩=>?_⟩
    obtain ⟨x,ad,al⟩:=List.any_eq_true.1 ag
    rw [e x ad] at al;cases al
  | false=>
    rw [if_neg (by decide)]
    rw [List.any_eq_false] at ag
    have fL:∀ a ∈ Y++O,kS (view h k Y O) a=false:=fun a aK=>by simpa using ag a aK
    split
    · rename_i aJ;exact ⟨fun _=>⟨fL,aJ⟩,fun _=>rfl⟩
    · rename_i aJ;exact ⟨fun e=>(by cases e),fun e=>absurd e.2 aJ⟩
 have al:jZ (view h k Y O)= 0 ↔ (∀ a ∈ Y++O,mQ (view h k Y O) a=false)/\ ∀ x ∈ free h,x= 0 :=by
  unfold jZ
  show (if (Y++O).any (mQ (view h k Y O)) then (5 :Int) else if (free h).any (fun x=>!decide (x= 0)) then 1 else 0)= 0 ↔ _
  cases ag:(Y++O).any (mQ (view h k Y O)) with
  | true=>
    rw [if_pos rfl]
    refine ⟨fun e=>(by cases e),fun ⟨e,_⟩=>?_⟩
    obtain ⟨x,ad,al⟩:=List.any_eq_true.1 ag
    rw [e x ad] at al;cases al
  | false=>
    rw [if_neg (by decide)]
    rw [List.any_eq_false] at ag
    have fL:∀ a ∈ Y++O,mQ (view h k Y O) a=false:=fun a aK=>by simpa using ag a aK
    cases af:(free h).any (fun x=>!decide (x= 0)) with
    | true=>
      rw [if_pos rfl]
      refine ⟨fun e=>(by cases e),fun ⟨_,e⟩=>?_⟩
      obtain ⟨x,ad,al⟩:=List.any_eq_true.1 af
      rw [e x ad] at al;cases al
    | false=>
      rw [if_neg (by decide)]
      rw [List.any_eq_false] at af
      exact ⟨fun _=>⟨fL,fun x ad=>by simpa using af x ad⟩,fun _=>rfl⟩
 have aV:w7 (view h k Y O)= 0 ↔ (∀ i,i <h.aZ.length->gW (view h k Y O) i=false)/\ ∀ a ∈ O,n2 (view h k Y O) a=false:=by
  unfold w7
  show (if (List.range h.aZ.length).any (gW (view h k Y O)) || O.any (n2 (view h k Y O)) then (4 :Int) else 0)= 0 ↔ _
  cases ag:(List.range h.aZ.length).any (gW (view h k Y O)) with
  | true=>
    rw [Bool.true_or,if_pos rfl]
    refine ⟨fun e=>(by cases e),fun ⟨e,_⟩=>?_⟩
    obtain ⟨x,ad,al⟩:=List.any_eq_true.1 ag
    rw [e x (by simpa using ad)] at al;cases al
  | false=>
    rw [Bool.false_or]
    rw [List.any_eq_false] at ag
    have fL:∀ i,i <h.aZ.length->gW (view h k Y O) i=false:=fun i hi=>by simpa using ag i (by simpa using hi)
    cases af:O.any (n2 (view h k Y O)) with
    | true=>
      rw [if_pos rfl]
      refine ⟨fun e=>(by cases e),fun ⟨_,e⟩=>?_⟩
      obtain ⟨x,ad,al⟩:=List.any_eq_true.1 af
      rw [e x ad] at al;cases al
    | false=>
      rw [if_neg (by decide)]
      rw [List.any_eq_false] at af
      exact ⟨fun _=>⟨fL,fun x ad=>by simpa using af x ad⟩,fun _=>rfl⟩
 have bS:mZ (view h k Y O)= 0 ↔ a3 (view h k Y O)= 0 /\jZ (view h k Y O)= 0 /\w7 (view h k Y O)= 0 :=by
  unfold mZ
  by_cases bk:a3 (view h k Y O)= 0
  · rw [if_pos bk]
    by_cases bF:jZ (view h k Y O)= 0
    · rw [if_pos bF];exact ⟨fun e=>⟨bk,bF,e⟩,fun e=>e.2.2⟩
    · rw [if_neg bF];exact ⟨fun e=>absurd e bF,fun e=>absurd e.2.1 bF⟩
  · rw [if_neg bk];exact ⟨fun e=>absurd e bk,fun e=>absurd e.1 bk⟩
 rw [bS,ak,al,aV]
 have rn:∀ x,(qa (view h k Y O) x=false) ↔ x ∈ O/\refs k h.Words x.toNat≠ []:=fun x=>by
  unfold qa jw
  show ((!decide (x ∈ Y++O) || (decide (0 <x) && decide (x<=h.aL))) || (refs k h.Words x.toNat).isEmpty)=false ↔ _
  rw [Bool.or_eq_false_iff,Bool.or_eq_false_iff]
  constructor
  · rintro ⟨⟨I,aa⟩,aw⟩
    have I:x ∈ Y++O:=by simp only [Bool.not_eq_false'] at I;exact of_decide_eq_true I
    refine ⟨?_,fun e=>by rw [e] at aw;cases aw⟩
    rcases List.mem_append.1 I with bi | bi
    · have:=hy x bi
      rw [decide_eq_true (by omega),decide_eq_true (by omega)] at aa
      cases aa
    · exact bi
  · rintro ⟨I,aa⟩
    have:=av x I
    refine ⟨⟨?_,?_⟩,?_⟩
    · rw [decide_eq_true (List.mem_append_right _ I)];rfl
    · rw [decide_eq_false (p:=x<=h.aL) (by omega),Bool.and_false]
    · cases e:refs k h.Words x.toNat with
      | nil=>exact absurd e aa
      | cons _ _=>rfl
 constructor
 · rintro ⟨⟨I,aa⟩,⟨aw,bi⟩,dA,hd⟩
   refine ⟨fun a aK=>?_,aa,fun a aK w hw=>?_,fun i hi hc=>bi _ (aaV ⟨by omega,by omega⟩ hi hc),VG fun i hi=>?_,fun x ad=>?_,fun a aK aJ w hw=>?_⟩
   · have:=I a aK
     unfold kS at this
     rw [Bool.or_eq_false_iff,decide_eq_false_iff_not,decide_eq_false_iff_not] at this
     have t1: ¬ ao h.Words a < 1 :=this.1
     have t2: ¬ h.Next<=ao h.Words a:=this.2
     omega
   · have:=aw a aK
     unfold mQ at this
     rw [List.any_eq_false] at this
     have h2:=this w hw
     unfold r' at h2
     by_cases e:wd h.Words w.toNat= 0
     · exact .inl e
     · refine .inr ?_
       by_cases al:wd h.Words w.toNat ∈ Y++O
       · exact al
       · refine absurd ?_ h2
         show (!decide (wd h.Words w.toNat= 0) && !decide (wd h.Words w.toNat ∈ Y++O))=true
         rw [decide_eq_false e,decide_eq_false al];rfl
   · have:=dA (i+ 1) hi
     unfold gW at this
     simp only [Bool.or_eq_false_iff,Bool.and_eq_false_iff,decide_eq_false_iff_not,Nat.add_sub_cancel] at this
     rcases this.1 with z | z
     · omega
     · have z: ¬ wd h.aZ (i+ 1)<=wd h.aZ i:=z
       omega
   · obtain ⟨i,hi,e⟩:=S8 ad
     have:=dA i hi
     unfold gW at this
     rw [Bool.or_eq_false_iff] at this
     have h2:qa (view h k Y O) (wd h.aZ i)=false:=this.2
     rw [e] at h2
     exact (rn x).1 h2
   · rintro ⟨yn,Eb⟩
     have:=hd a aK
     unfold n2 at this
     have this:(!decide (a ∈ h.aZ) && (refs k h.Words a.toNat).any fun w=>jw (view h k Y O) (wd h.Words w.toNat))=false:=this
     rw [decide_eq_false aJ,Bool.not_false,Bool.true_and,List.any_eq_false] at this
     refine this w hw ?_
     show (decide (0 <wd h.Words w.toNat) && decide (wd h.Words w.toNat<=h.aL))=true
     rw [decide_eq_true yn,decide_eq_true Eb];rfl
 · intro g
   refine ⟨⟨fun a aK=>?_,g.nodup⟩,⟨fun a aK=>?_,fun x ad=>?_⟩,fun i hi=>?_,fun a aK=>?_⟩
   · have:=g.hash a aK
     show (decide (ao h.Words a < 1) || decide (h.Next<=ao h.Words a))=false
     rw [decide_eq_false (by omega),decide_eq_false (by omega)];rfl
   · show ((refs k h.Words a.toNat).any (r' (view h k Y O)))=false
     rw [List.any_eq_false]
     intro w hw
     show ¬ (!decide (wd h.Words w.toNat= 0) && !decide (wd h.Words w.toNat ∈ Y++O))=true
     rcases g.ref a aK w hw with e | e
     · rw [decide_eq_true e];simp
     · rw [decide_eq_true e];simp
   · obtain ⟨i,hi,hc,e⟩:=adw (by omega) ad
     rw [e];exact g.fr i hi hc
   · show ((decide (0 <i) && decide (wd h.aZ i<=wd h.aZ (i - 1))) || qa (view h k Y O) (wd h.aZ i))=false
     rw [(rn _).2 (g.nt _ (VZ hi)),Bool.or_false]
     by_cases aQ:0 <i
     · have:=g.afV (i - 1) i (by omega) hi
       rw [decide_eq_false (p:=wd h.aZ i<=wd h.aZ (i - 1)) (by omega),Bool.and_false]
     · rw [decide_eq_false aQ];rfl
   · show (!decide (a ∈ h.aZ) && (refs k h.Words a.toNat).any fun w=>jw (view h k Y O) (wd h.Words w.toNat))=false
     by_cases aJ:a ∈ h.aZ
     · rw [decide_eq_true aJ];rfl
     · rw [decide_eq_false aJ,Bool.not_false,Bool.true_and,List.any_eq_false]
       intro w hw e
       have e:(decide (0 <wd h.Words w.toNat) && decide (wd h.Words w.toNat<=h.aL))=true:=e
       simp only [Bool.and_eq_true,decide_eq_true_eq] at e
       exact g.must a aK aJ w hw e
theorem fw.apart {W:List Int} {to q:Nat} {L:List Int} (h:fw k W to q L):∀ a ∈ L,∀ b ∈ L,a≠b->a.toNat+ 3 +(wd W (a.toNat+ 1)).toNat<=b.toNat\/b.toNat+ 3 +(wd W (b.toNat+ 1)).toNat<=a.toNat:=by
 induction h with
 | nil=>intro a aK;cases aK
 | cons I aa aw hw bq=>
   intro a aK b ag b3
   rcases List.mem_cons.1 aK with rfl | aK
   · rcases List.mem_cons.1 ag with rfl | ag
     · exact absurd rfl b3
     · obtain ⟨n,rfl,bi,_⟩:=hw.mem b ag
       left;simp only [Int.toNat_natCast];exact bi
   · rcases List.mem_cons.1 ag with rfl | ag
     · obtain ⟨n,rfl,bi,_⟩:=hw.mem a aK
       right;simp only [Int.toNat_natCast];exact bi
     · exact bq a aK b ag b3
theorem hv.apart (ao:h6 h) (aq:hv h k Y O):∀ a ∈ Y++O,∀ b ∈ Y++O,a≠b->a.toNat+ 3 +(wd h.Words (a.toNat+ 1)).toNat<=b.toNat\/b.toNat+ 3 +(wd h.Words (b.toNat+ 1)).toNat<=a.toNat:=by
 intro a aK b ag b3
 have hc:=ao.C.1.2
 rcases List.mem_append.1 aK with aK | aK <;> rcases List.mem_append.1 ag with ag | ag
 · exact aq.y.apart a aK b ag b3
 · have:=aq.Iy ao a aK;have:=aq.qd ao b ag;left;omega
 · have:=aq.qd ao a aK;have:=aq.Iy ao b ag;right;omega
 · exact aq.o.apart a aK b ag b3
theorem fw.congr {W jn:List Int} {to q:Nat} {L:List Int} (h:fw k W to q L) (he:∀ a ∈ L,wd jn a.toNat=wd W a.toNat/\wd jn (a.toNat+ 1)=wd W (a.toNat+ 1)):fw k jn to q L:=by
 induction h with
 | nil=>exact .nil
 | @cons q r I aa aw hw bq=>
   obtain ⟨ak,al⟩:=he _ List.mem_cons_self
   simp only [Int.toNat_natCast] at ak al
   have:=bq (fun a aK=>he a (List.mem_cons_of_mem _ aK))
   rw [<-al] at this aw aa
   rw [<-ak] at I aa
   exact .cons I aa aw this
theorem aA0 {W jn:List Int} {q:Nat} (I:wd jn q=wd W q) (aa:wd jn (q+ 1)=wd W (q+ 1)):refs k jn q=refs k W q:=by unfold refs;rw [I,aa]
end
end J
namespace J
section
variable {F:Nat} {k:aU}
theorem aAi (h:g7 k) (t:Int):BK k t=some (hC k t):=by
 have hc:=h.fB
 unfold BK hC
 rw [dt (by omega) (by omega),Option.some.injEq,Bool.eq_iff_iff]
 simp;omega
theorem aAe (h:g7 k) {t:Int} (aO:hC k t=true) (n:Int):BJ k t n=some (isLen k t n):=by
 unfold BJ fv isLen
 simp only [Option.bind_some]
 cases ag:(decide (0 <=n) && decide (n<= 500)) with
 | false=>simp
 | true=>
   by_cases aw:t < 3
   · simp [aw]
   · rw [My h aO aw];simp [aw]
theorem aAg (h:g7 k) {t:Int} (aO:hC k t=true) {n:Int} (aJ:isLen k t n=true) {j:Nat} (aI:(j:Int) <n):sG k t (j:Int)=some (h4 k t j):=by
 unfold sG h4
 obtain ⟨_,aq⟩:=tF.1 aJ
 by_cases aa:t= 2
 · simp [aa]
 by_cases aw:t < 3
 · have: ¬ 3 <=t:=by omega
   simp [aa,this]
 · have aq:=aq.resolve_left aw
   have Rc:3 <=t:=by omega
   have rl:j <(jf k t).length:=by omega
   rw [My h aO aw,Option.bind_some,bw (List.getElem?_eq_getElem rl),List.getElem?_eq_getElem rl]
   simp [aa,Rc]
theorem fw.le {W:List Int} {to q:Nat} {L:List Int} (h:fw k W to q L):q<=to:=by
 cases h with
 | nil=>exact Nat.le_refl _
 | cons I aa aw bi=>omega
theorem arA (h:aY) (ao:g7 k) {to:Nat} (gv:to<=h.Words.length) (h3:h.Words.length<= 5000):∀ (f q:Nat) (acc:List Int),to - q <f->q<= 6000 ->acc.length+(to - q)<= 6000 ->
 (∃ L,fw k h.Words to q L/\vq h k (to:Int) f acc (q:Int)=some (.go (acc++L,(to:Int)))) \/
 ((∀ L,¬ fw k h.Words to q L)/\(vq h k (to:Int) f acc (q:Int)=some (.out ([],false))\/ ∃ x,vq h k (to:Int) f acc (q:Int)=some (.go x)/\x.2 ≠(to:Int))):=by
 intro f
 induction f with
 | zero=>intro q acc h;omega
 | succ f bq=>
   intro q acc af aT s7
   rw [vq]
   by_cases bE:q <to
   case neg=>
    by_cases e:q=to
    · subst e
      refine .inl ⟨[],.nil,?_⟩
      rw [bM];simp
    · rw [show decide ((q:Int) <(to:Int))=false from decide_eq_false (by omega)]
      exact .inr ⟨fun L c0=>by have:=c0.le;omega,.inr ⟨(acc,(q:Int)),rfl,by show (q:Int)≠(to:Int);omega⟩⟩
   rw [bN bE,cond_true,dt (n:=(q:Int)+ 3) (by omega) (by omega)]
   by_cases aw:(to:Int) <(q:Int)+ 3
   · rw [decide_eq_true aw]
     refine .inr ⟨fun L c0=>?_,.inl rfl⟩
     obtain ⟨_,_,_,_,h,_⟩:=c0.inv bE
     omega
   rw [decide_eq_false aw,cond_false,jv (by omega),Option.bind_some]
   have ak:BK (⟨k.ba,k.a8,k.Fields,k.Names,k.a9⟩:aU) (wd h.Words q)=some (hC k (wd h.Words q)):=aAi ao _
   rw [ak,Option.bind_some]
   cases aO:hC k (wd h.Words q) with
   | false=>
     refine .inr ⟨fun L c0=>?_,.inl rfl⟩
     obtain ⟨_,_,h,_⟩:=c0.inv bE
     rw [aO] at h;cases h
   | true=>
     have al:BJ (⟨k.ba,k.a8,k.Fields,k.Names,k.a9⟩:aU) (wd h.Words q) (wd h.Words (q+ 1))=some (isLen k (wd h.Words q) (wd h.Words (q+ 1))):=aAe ao aO _
     rw [Bool.not_true,cond_false,Option.bind_some,dt (n:=(q:Int)+ 1) (by omega) (by omega),nv (i:=q+ 1) (by omega) (by omega),Option.bind_some,al,Option.bind_some]
     cases aq:isLen k (wd h.Words q) (wd h.Words (q+ 1)) with
     | false=>
       refine .inr ⟨fun L c0=>?_,.inl rfl⟩
       obtain ⟨_,_,_,h,_⟩:=c0.inv bE
       rw [aq] at h;cases h
     | true=>
       obtain ⟨⟨pV,l1⟩,_⟩:=tF.1 aq
       rw [Bool.not_true,cond_false,jq (by simp;omega),Option.bind_some,Option.bind_some,dt (n:=3 +wd h.Words (q+ 1)) (by omega) (by omega),dt (n:=(q:Int)+(3 +wd h.Words (q+ 1))) (by omega) (by omega)]
       rw [show (q:Int)+(3 +wd h.Words (q+ 1))=((q+ 3 +(wd h.Words (q+ 1)).toNat:Nat):Int) by omega]
       rcases bq (q+ 3 +(wd h.Words (q+ 1)).toNat) (acc++[(q:Int)]) (by omega) (by omega) (by simp;omega) with ⟨L,c0,e⟩ | ⟨aJ,e⟩
       · refine .inl ⟨(q:Int)::L,.cons aO aq c0.le c0,?_⟩
         rw [e];simp
       · refine .inr ⟨fun L c0=>?_,e⟩
         obtain ⟨r,_,_,_,_,h⟩:=c0.inv bE
         exact aJ r h
theorem aeW (aD:6000 <F) (h:aY) (ao:g7 k) {to q:Nat} (aT:q<= 5000) (gv:to<=h.Words.length) (h3:h.Words.length<= 5000) :
 (∃ L,fw k h.Words to q L/\pj F h k (q:Int) (to:Int)=some (L,true))\/((∀ L,¬ fw k h.Words to q L)/\ ∃ l,pj F h k (q:Int) (to:Int)=some (l,false)):=by
 unfold pj
 rcases arA h ao gv h3 F q [] (by omega) (by omega) (by simp;omega) with ⟨L,c0,e⟩ | ⟨aJ,e | ⟨x,e,ad⟩⟩
 · exact .inl ⟨L,c0,by rw [e,oW];simp⟩
 · exact .inr ⟨aJ,[],by rw [e,afI]⟩
 · exact .inr ⟨aJ,x.1,by rw [e,oW];show some (x.1,decide (x.2 =(to:Int)))=_;rw [decide_eq_false ad]⟩
theorem Qb {α ρ:Type} {p:α->Bool} {e:ρ}:∀ l:List α,l.findSome? (fun x=>if p x then some e else none)=if l.any p then some e else none
 | []=>rfl
 | x::r=>by
   rw [List.findSome?_cons,List.any_cons]
   cases p x with
   | true=>rfl
   | false=>simp only [Bool.false_or];exact Qb r
theorem Di {l:List Int} (aq:Small F l.length) (n:Int):j6 F l n=some (decide (n ∈ l)):=by
 unfold j6
 have l1:yU l n F 0 =some (cr (l.findSome? fun x=>if decide (x=n) then some true else none)):=each _ aq.1 (fun f i x ad=>by
  rw [yU,bN (List.getElem?_eq_some_iff.1 ad).1,cond_true,bw ad,Option.bind_some]
  cases decide (x=n) <;> rfl) (fun f=>by rw [yU,bM];rfl) aq.2
 rw [l1,Qb]
 by_cases e:n ∈ l
 · rw [show (l.any fun x=>decide (x=n))=true from List.any_eq_true.2 ⟨n,e,by simp⟩,decide_eq_true e];rfl
 · rw [show (l.any fun x=>decide (x=n))=false from List.any_eq_false.2 fun x ad=>by simp;rintro rfl;exact e ad,decide_eq_false e];rfl
theorem aAh (aD:6000 <F) (h:aY) (ao:g7 k) {q:Nat} (aT:q+ 3 +(wd h.Words (q+ 1)).toNat<=h.Words.length) (h3:h.Words.length<= 5000) (aO:hC k (wd h.Words q)=true) (aq:isLen k (wd h.Words q) (wd h.Words (q+ 1))=true) :
 na F h k (q:Int)=some (refs k h.Words q):=by
 obtain ⟨⟨pV,l1⟩,_⟩:=tF.1 aq
 unfold na
 generalize aJ:(wd h.Words (q+ 1)).toNat=n at aT
 have ET:wd h.Words (q+ 1)=(n:Int):=by omega
 have nr:=aq
 rw [ET] at nr
 have l1:=sH (l:=List.range n) (fun f acc i=>sD (q:Int) h k f acc (i:Int)) (fun j=>if h4 k (wd h.Words q) j then [((q+ 3 +j:Nat):Int)] else []) 1 5000 (fun x _=>by split <;> simp) (fun f i x acc ad aK=>by
  have hi:i <n:=by have:=(List.getElem?_eq_some_iff.1 ad).1;simpa using this
  rw [List.getElem?_range hi] at ad
  simp only [Option.some.injEq] at ad
  subst ad
  rw [sD,dt (n:=(q:Int)+ 1) (by omega) (by omega),nv (i:=q+ 1) (by omega) (by omega),Option.bind_some,ET,bN hi,cond_true,jv (by omega),Option.bind_some]
  have ak:sG (⟨k.ba,k.a8,k.Fields,k.Names,k.a9⟩:aU) (wd h.Words q) (i:Int)=some (h4 k (wd h.Words q) i):=aAg ao aO nr (by omega)
  rw [ak,Option.bind_some]
  show _=sD (q:Int) h k f _ _
  cases h4 k (wd h.Words q) i with
  | true=>
    rw [cond_true,dt (n:=(q:Int)+ 3) (by omega) (by omega),dt (n:=(q:Int)+ 3 +i) (by omega) (by omega),jq (by simp;omega),Option.bind_some,Option.bind_some,eP hi (by omega),if_pos rfl]
    congr 2
  | false=>
    rw [cond_false,Option.bind_some,eP hi (by omega),if_neg (by decide),List.append_nil]) (fun f acc=>by
  rw [List.length_range,sD,dt (n:=(q:Int)+ 1) (by omega) (by omega),nv (i:=q+ 1) (by omega) (by omega),Option.bind_some,ET,bM];rfl) (F:=F) (by simp;omega) (acc:=[]) (by simp;omega)
 have l1:sD (q:Int) h k F [] 0 =_:=l1
 rw [l1,Option.bind_some,List.nil_append,refs,aJ]
theorem aeX (aD:6000 <F) {h:aY} (aj:g7 k) (ao:h6 h):(∃ Y O,hv h k Y O/\pk F h k=some (Y,O,true))\/((∀ Y O,¬ hv h k Y O)/\ ∃ Y O,pk F h k=some (Y,O,false)):=by
 have hw:=ao.gk
 obtain ⟨⟨⟨cC,cQ⟩,dX,fb⟩,b,⟨c1,c2⟩,⟨c3,c4⟩,c5⟩:=id ao
 unfold okB at b
 unfold pk
 have t1:=aeW (F:=F) aD h aj (q:=1) (to:=h.a5.toNat) (by omega) (by omega) (by omega)
 have t2:=aeW (F:=F) aD h aj (q:=(h.aL+ 1).toNat) (to:=h.a2.toNat) (by omega) (by omega) (by omega)
 rw [show ((h.a5.toNat:Nat):Int)=h.a5 by omega] at t1
 rw [show ((h.a2.toNat:Nat):Int)=h.a2 by omega,show (((h.aL+ 1).toNat:Nat):Int)=h.aL+ 1 by omega] at t2
 rw [dt (n:=h.aL+ 1) (by omega) (by omega)]
 have kx:∀ r,pj F h k 1 h.a5=some r->pj F (⟨h.Words,h.aL,h.aW,h.a5,h.a2,h.aZ,h.Next⟩:aY) (⟨k.ba,k.a8,k.Fields,k.Names,k.a9⟩:aU) 1 h.a5=some r:=fun r e=>e
 have qu:∀ r,pj F h k (h.aL+ 1) h.a2=some r->pj F (⟨h.Words,h.aL,h.aW,h.a5,h.a2,h.aZ,h.Next⟩:aY) (⟨k.ba,k.a8,k.Fields,k.Names,k.a9⟩:aU) (h.aL+ 1) h.a2=some r:=fun r e=>e
 rcases t1 with ⟨Y,Kf,ak⟩ | ⟨rJ,Y,ak⟩ <;> rcases t2 with ⟨O,lE,al⟩ | ⟨rM,O,al⟩ <;> rw [kx _ ak,Option.bind_some,qu _ al,Option.bind_some]
 · exact .inl ⟨Y,O,⟨Kf,lE⟩,rfl⟩
 · exact .inr ⟨fun Y O h=>rM _ h.o,Y,O,rfl⟩
 · exact .inr ⟨fun Y O h=>rJ _ h.y,Y,O,rfl⟩
 · exact .inr ⟨fun Y O h=>rJ _ h.y,Y,O,rfl⟩
end
end J
namespace J
section
variable {F:Nat} {k:aU} {h:aY} {Y O:List Int}
theorem St {b:Bool} {e:Int} {K:Option (Way Int Unit)}:gC (if b=true then some e else none) K=cond b (some (.out e)) K:=by cases b <;> rfl
theorem aAm (aD:10000 <F) (I:1 <=h.Next) (aJ:h.Next<= 9223372036854775807) (ah:nb (view h k Y O)):yC h (Y++O) F 0 =some (cr (if (Y++O).any (kS (view h k Y O)) then some 3 else none)):=by
 have hc:Y.length+O.length<= 5000 :=ah.py
 have hw:h.Words.length<= 4900 :=ah.gk
 rw [<-my]
 exact each _ (by simp;omega) (fun f i a aK=>by
  have hm:=List.mem_of_getElem? aK
  have aO:pq (view h k Y O) a:=ah.qp a hm
  have aQ:0 <=a:=aO.pos
  have aa:a.toNat+ 3 +(wd h.Words (a.toNat+ 1)).toNat<=h.Words.length:=aO.fit
  rw [yC,bN (List.getElem?_eq_some_iff.1 aK).1,cond_true,bw aK,Option.bind_some,dt (n:=a+ 2) (by omega) (by omega),nv (i:=a.toNat+ 2) (by omega) (by omega),Option.bind_some]
  unfold fv
  rw [Option.bind_some,dt (n:=h.Next - 1) (by omega) (by omega),St]
  congr 1
  show _=(decide (wd h.Words (a.toNat+ 2) < 1) || decide (h.Next<=wd h.Words (a.toNat+ 2)))
  rw [Bool.eq_iff_iff];simp;omega) (fun f=>by rw [yC,bM];rfl) (by simp;omega)
theorem axU {l:List Int}:(List.range l.length).any (fun i=>(List.range i).any fun j=>decide (wd l i=wd l j))= !decide l.Nodup:=by
 rw [Bool.eq_iff_iff,List.any_eq_true]
 simp only [List.mem_range,List.any_eq_true,decide_eq_true_eq,Bool.not_eq_true',decide_eq_false_iff_not]
 rw [List.Nodup,List.pairwise_iff_getElem]
 constructor
 · rintro ⟨i,hi,j,aI,e⟩ aN
   have:=aN j i (by omega) hi aI
   rw [qy (List.getElem?_eq_getElem hi),qy (List.getElem?_eq_getElem (by omega:j <l.length))] at e
   exact this e.symm
 · intro aN
   apply Classical.byContradiction
   intro b3
   refine aN fun j i aI hi fm e=>b3 ⟨i,hi,j,fm,?_⟩
   rw [qy (List.getElem?_eq_getElem hi),qy (List.getElem?_eq_getElem aI)];exact e.symm
theorem aAn (aD:10000 <F) (ah:nb (view h k Y O)):vi F h (Y++O) F 0 =some (cr (if ((Y++O).map (ao h.Words)).Nodup then none else some 6)):=by
 have hc:Y.length+O.length<= 5000 :=ah.py
 have hw:h.Words.length<= 4900 :=ah.gk
 have aq:(Y++O).length<= 5000 :=by simp;omega
 have at_:∀ i,i <(Y++O).length->idx (Y++O) (i:Int)=some (wd (Y++O) i)/\idx h.Words (aA (wd (Y++O) i+ 2))=some (wd ((Y++O).map (ao h.Words)) i):=fun i hi=>by
  have ak:wd (Y++O) i=(Y++O)[i]:=qy (List.getElem?_eq_getElem hi)
  have aO:pq (view h k Y O) (Y++O)[i]:=ah.qp _ (List.getElem_mem hi)
  have aQ:0 <=(Y++O)[i]:=aO.pos
  have aa:(Y++O)[i].toNat+ 3 +(wd h.Words ((Y++O)[i].toNat+ 1)).toNat<=h.Words.length:=aO.fit
  refine ⟨jv hi,?_⟩
  rw [ak,dt (by omega) (by omega),nv (i:=(Y++O)[i].toNat+ 2) (by omega) (by omega)]
  refine congrArg some (qy ?_).symm
  rw [List.getElem?_map,List.getElem?_eq_getElem hi];rfl
 have l1:vi F h (Y++O) F 0 =some (cr ((List.range (Y++O).length).findSome? fun i=>if (List.range i).any (fun j=>decide (wd ((Y++O).map (ao h.Words)) i=wd ((Y++O).map (ao h.Words)) j)) then some 6 else none)):=jM _ (by omega) (fun f i hi=>by
  rw [vi,bN hi,cond_true]
  have cB:yD h (Y++O) (i:Int) F 0 =some (cr ((List.range i).findSome? fun j=>if decide (wd ((Y++O).map (ao h.Words)) i=wd ((Y++O).map (ao h.Words)) j) then some 6 else none)):=jM _ (by omega) (fun b7 j aI=>by
   rw [yD,bN aI,cond_true,(at_ i hi).1,Option.bind_some,(at_ i hi).2,Option.bind_some,(at_ j (by omega)).1,Option.bind_some,(at_ j (by omega)).2,Option.bind_some]
   cases decide (wd ((Y++O).map (ao h.Words)) i=wd ((Y++O).map (ao h.Words)) j) <;> rfl) (fun b7=>by rw [yD,bM];rfl) (by omega)
  rw [cB,my]
  cases (List.range i).any (fun j=>decide (wd ((Y++O).map (ao h.Words)) i=wd ((Y++O).map (ao h.Words)) j)) <;> rfl) (fun f=>by rw [vi,bM];rfl) (by omega)
 rw [l1,my]
 have e:=axU (l:=(Y++O).map (ao h.Words))
 rw [List.length_map] at e
 rw [e]
 by_cases aM:((Y++O).map (ao h.Words)).Nodup
 · rw [if_pos aM,decide_eq_true aM];rfl
 · rw [if_neg aM,decide_eq_false aM];rfl
theorem MA (aD:10000 <F) (ah:nb (view h k Y O)) {a:Int} (aK:a ∈ Y++O):na F (⟨h.Words,h.aL,h.aW,h.a5,h.a2,h.aZ,h.Next⟩:aY) (⟨k.ba,k.a8,k.Fields,k.Names,k.a9⟩:aU) a=some (refs k h.Words a.toNat):=by
 have aO:pq (view h k Y O) a:=ah.qp a aK
 have hw:h.Words.length<= 4900 :=ah.gk
 have:=aAh (F:=F) (by omega) h ah.r4 (q:=a.toNat) aO.fit (by omega) aO.tag aO.len
 rwa [show ((a.toNat:Nat):Int)=a by have:=aO.pos;omega] at this
theorem aAo (aD:10000 <F) (ah:nb (view h k Y O)):yE F h k (Y++O) F 0 =some (cr (if (Y++O).any (mQ (view h k Y O)) then some 5 else none)):=by
 have hc:Y.length+O.length<= 5000 :=ah.py
 have hw:h.Words.length<= 4900 :=ah.gk
 rw [<-my]
 exact each _ (by simp;omega) (fun f i a aK=>by
  have hm:=List.mem_of_getElem? aK
  have aO:pq (view h k Y O) a:=ah.qp a hm
  have CG:(refs k h.Words a.toNat).length<= 5000 :=L9 ah aO
  rw [yE,bN (List.getElem?_eq_some_iff.1 aK).1,cond_true,bw aK,Option.bind_some,MA aD ah hm,Option.bind_some]
  have cB:vj F h (Y++O) (refs k h.Words a.toNat) F 0 =some (cr ((refs k h.Words a.toNat).findSome? fun w=>if r' (view h k Y O) w then some 5 else none)):=each _ (by omega) (fun b7 dm w f_=>by
   have dH:=List.mem_of_getElem? f_
   have ad:idx h.Words w=some (wd h.Words w.toNat):=aO.L8 dH
   rw [vj,bN (List.getElem?_eq_some_iff.1 f_).1,cond_true,bw f_,Option.bind_some,ad,Option.bind_some,Option.bind_some,ad,Option.bind_some,Di ⟨by simp;omega,by simp;omega⟩,Option.bind_some]
   show _=gC (if (!decide (wd h.Words w.toNat= 0) && !decide (wd h.Words w.toNat ∈ Y++O))=true then some 5 else none) _
   cases decide (wd h.Words w.toNat= 0) <;> cases decide (wd h.Words w.toNat ∈ Y++O) <;> rfl) (fun b7=>by rw [vj,bM];rfl) (by omega)
  rw [cB,my]
  show _=gC (if (refs k h.Words a.toNat).any (r' (view h k Y O)) then some 5 else none) _
  cases (refs k h.Words a.toNat).any (r' (view h k Y O)) <;> rfl) (fun f=>by rw [yE,bM];rfl) (by simp;omega)
theorem aAp (aD:10000 <F) (cb:h6 h):sA h F 0 =some (cr (if (free h).any (fun x=>!decide (x= 0)) then some 1 else none)):=by
 have hw:=cb.gk
 obtain ⟨⟨⟨cC,cQ⟩,dX,fb⟩,b,⟨c1,c2⟩,⟨c3,c4⟩,c5⟩:=id cb
 have l1:sA h F 0 =some (cr ((List.range h.Words.length).findSome? fun i=>if (!decide (wd h.Words i= 0) && (decide ((i:Int)= 0) || ((decide (h.a5<=(i:Int)) && decide ((i:Int)<=h.aL)) || decide (h.a2<=(i:Int))))) then some 1 else none)):=jM _ (by omega) (fun f i hi=>by
  rw [sA,bN hi,cond_true,jv hi,Option.bind_some]
  unfold fv
  rw [Option.bind_some]
  cases decide (wd h.Words i= 0) <;> cases decide ((i:Int)= 0) <;> cases ((decide (h.a5<=(i:Int)) && decide ((i:Int)<=h.aL)) || decide (h.a2<=(i:Int))) <;> rfl) (fun f=>by rw [sA,bM];rfl) (by omega)
 rw [l1,my]
 refine congrArg (fun b:Bool=>some (cr (if b=true then some 1 else none))) ?_
 rw [Bool.eq_iff_iff,List.any_eq_true,List.any_eq_true]
 constructor
 · rintro ⟨i,hi,e⟩
   simp only [Bool.and_eq_true,Bool.or_eq_true,Bool.not_eq_true',decide_eq_false_iff_not,decide_eq_true_eq] at e
   rw [List.mem_range] at hi
   exact ⟨wd h.Words i,aaV ⟨by omega,by omega⟩ hi (by rcases e.2 with e | e | e;exact .inl (by omega);exact .inr (.inl e);exact .inr (.inr e)),by simpa using e.1⟩
 · rintro ⟨x,ad,e⟩
   obtain ⟨i,hi,hc,rfl⟩:=adw (by omega) ad
   refine ⟨i,List.mem_range.2 hi,?_⟩
   simp only [Bool.and_eq_true,Bool.or_eq_true,Bool.not_eq_true',decide_eq_false_iff_not,decide_eq_true_eq] at e ⊢
   exact ⟨e,by rcases hc with e | e | e;exact .inl (by omega);exact .inr (.inl e);exact .inr (.inr e)⟩
theorem ad7 (cb:h6 h) (aq:hv h k Y O) {x:Int}:x ∈ O ↔ x ∈ Y++O/\jw (view h k Y O) x=false:=by
 obtain ⟨⟨⟨cC,cQ⟩,dX,fb⟩,b,⟨c1,c2⟩,⟨c3,c4⟩,c5⟩:=id cb
 have e:jw (view h k Y O) x=(decide (0 <x) && decide (x<=h.aL)):=rfl
 rw [e]
 constructor
 · intro ad
   have:=aq.qd cb x ad
   exact ⟨List.mem_append.2 (.inr ad),by simp;omega⟩
 · rintro ⟨ad,e⟩
   rcases List.mem_append.1 ad with ad | ad
   · have:=aq.Iy cb x ad
     simp at e;omega
   · exact ad
theorem aAt (aD:10000 <F) (cb:h6 h) (aq:hv h k Y O) (ah:nb (view h k Y O)) (x:Int) (Z:Option Int) (ass:Z=some x) (K:Option (Way Int Unit)):((j6 F O x).bind fun U7=>
 cond (!U7) (some (.out 4)) (Z.bind fun WM=>
 (na F (⟨h.Words,h.aL,h.aW,h.a5,h.a2,h.aZ,h.Next⟩:aY) (⟨k.ba,k.a8,k.Fields,k.Names,k.a9⟩:aU) WM).bind fun U8=>
 cond (decide ((U8.length:Int)= 0)) (some (.out 4)) K))=gC (if qa (view h k Y O) x then some 4 else none) K:=by
 have hc:Y.length+O.length<= 5000 :=ah.py
 subst ass
 rw [Di ⟨by omega,by omega⟩,Option.bind_some,St]
 have e:qa (view h k Y O) x=(!decide (x ∈ Y++O) || jw (view h k Y O) x || (refs k h.Words x.toNat).isEmpty):=rfl
 rw [e]
 by_cases ad:x ∈ O
 · obtain ⟨I,aa⟩:=(ad7 cb aq).1 ad
   rw [decide_eq_true ad,decide_eq_true I,aa,Bool.not_true,cond_false,Option.bind_some,MA aD ah I,Option.bind_some]
   cases refs k h.Words x.toNat with
   | nil=>rfl
   | cons a r=>rw [decide_eq_false (by simp;omega)];rfl
 · rw [decide_eq_false ad]
   have:(!decide (x ∈ Y++O) || jw (view h k Y O) x)=true:=by
    cases aM:decide (x ∈ Y++O) with
    | false=>rfl
    | true=>
      cases hy:jw (view h k Y O) x with
      | true=>rfl
      | false=>exact absurd ((ad7 cb aq).2 ⟨of_decide_eq_true aM,hy⟩) ad
   rw [this];rfl
theorem aAq (aD:10000 <F) (cb:h6 h) (aq:hv h k Y O) (ah:nb (view h k Y O)) (aJ:Small F h.aZ.length):n8 F h k (Y,O,true) F 0 =some (cr (if (List.range h.aZ.length).any (gW (view h k Y O)) then some 4 else none)):=by
 rw [<-my]
 exact jM _ aJ.1 (fun f i hi=>by
  rw [n8,bN hi,cond_true]
  have e:gW (view h k Y O) i=((decide (0 <i) && decide (wd h.aZ i<=wd h.aZ (i - 1))) || qa (view h k Y O) (wd h.aZ i)):=rfl
  have aE:=aAt aD cb aq ah (wd h.aZ i) (idx h.aZ (i:Int)) (jv hi) (n8 F h k (Y,O,true) f (aA ((i:Int)+ 1)))
  rw [e]
  have abZ:=aJ.1
  by_cases aQ:0 <i
  · rw [show decide ((0 :Int) <(i:Int))=true from decide_eq_true (by omega),cond_true]
    rw [show ∀ K:Int->Option (Way Int Unit),(idx h.aZ (i:Int)).bind K=K (wd h.aZ i) from fun K=>by rw [jv hi];rfl]
    rw [dt (n:=(i:Int) - 1) (by omega) (by omega),nv (i:=i - 1) (by omega) (by omega),Option.bind_some,decide_eq_true aQ,Bool.true_and]
    cases decide (wd h.aZ i<=wd h.aZ (i - 1)) with
    | true=>rfl
    | false=>
      rw [cond_false,Bool.false_or,<-aE]
      rw [jv hi];rfl
  · rw [show decide ((0 :Int) <(i:Int))=false from decide_eq_false (by omega),cond_false,decide_eq_false aQ,Bool.false_and,Bool.false_or,<-aE]
    rw [jv hi];rfl) (fun f=>by rw [n8,bM];rfl) aJ.2
theorem aAr (aD:10000 <F) (ah:nb (view h k Y O)) (aJ:Small F h.aZ.length):qT F h k (Y,O,true) F 0 =some (cr (if O.any (n2 (view h k Y O)) then some 4 else none)):=by
 have hc:Y.length+O.length<= 5000 :=ah.py
 rw [<-my]
 exact each _ (by omega) (fun f i a aK=>by
  have hm:=List.mem_append.2 (Or.inr (a:=a ∈ Y) (List.mem_of_getElem? aK))
  have aO:pq (view h k Y O) a:=ah.qp a hm
  have CG:(refs k h.Words a.toNat).length<= 5000 :=L9 ah aO
  rw [qT,bN (List.getElem?_eq_some_iff.1 aK).1,cond_true,bw aK,Option.bind_some,MA aD ah hm,Option.bind_some]
  have cB:pf F h (Y,O,true) (i:Int) (refs k h.Words a.toNat) F 0 =some (cr ((refs k h.Words a.toNat).findSome? fun w=>if (!decide (a ∈ h.aZ) && jw (view h k Y O) (wd h.Words w.toNat)) then some 4 else none)):=each _ (by omega) (fun b7 dm w f_=>by
   have dH:=List.mem_of_getElem? f_
   have ad:idx h.Words w=some (wd h.Words w.toNat):=aO.L8 dH
   rw [pf,bN (List.getElem?_eq_some_iff.1 f_).1,cond_true,bw f_,Option.bind_some,ad,Option.bind_some]
   unfold fv
   rw [Option.bind_some,bw aK,Option.bind_some,Di aJ,Option.bind_some,St]
   have e:jw (view h k Y O) (wd h.Words w.toNat)=(decide (1 <=wd h.Words w.toNat) && decide (wd h.Words w.toNat<=h.aL)):=rfl
   rw [e]
   cases (decide (1 <=wd h.Words w.toNat) && decide (wd h.Words w.toNat<=h.aL)) <;> cases decide (a ∈ h.aZ) <;> rfl) (fun b7=>by rw [pf,bM];rfl) (by omega)
  rw [cB,my]
  have e:n2 (view h k Y O) a=((refs k h.Words a.toNat).any fun w=>!decide (a ∈ h.aZ) && jw (view h k Y O) (wd h.Words w.toNat)):=by
   show (!decide (a ∈ h.aZ) && (refs k h.Words a.toNat).any fun w=>jw (view h k Y O) (wd h.Words w.toNat))=_
   cases decide (a ∈ h.aZ) with
   | true=>simp
   | false=>simp
  rw [e]
  cases (refs k h.Words a.toNat).any (fun w=>!decide (a ∈ h.aZ) && jw (view h k Y O) (wd h.Words w.toNat)) <;> rfl) (fun f=>by rw [qT,bM];rfl) (by omega)
theorem aAs (aD:10000 <F) (aj:g7 k) (aJ:Small F h.aZ.length) (hi:h.Next<= 9223372036854775807):∃ r,BI F h k=some r.2 /\Spec h k r:=by
 unfold BI
 by_cases dl:Ay h
 case neg=>
  refine ⟨(none,lU h),?_,.size fun s=>dl s.A⟩
  show _=some (lU h)
  unfold lU fv
  rw [if_neg dl,Option.bind_some,Option.bind_some]
  cases ag:(decide (3 <=h.aL) && decide (h.aL<= 2000)) with
  | false=>rfl
  | true=>
    cases Co:(decide (3 <=h.aW) && decide (h.aW<= 2000)) with
    | false=>rfl
    | true=>exact absurd ⟨by simpa using ag,by simpa using Co⟩ dl
 obtain ⟨⟨cC,cQ⟩,dX,fb⟩:=id dl
 have bY:fv h.aL 3 2000 =some true:=by unfold fv;rw [decide_eq_true cC,decide_eq_true cQ];rfl
 have eA:fv h.aW 3 2000 =some true:=by unfold fv;rw [decide_eq_true dX,decide_eq_true fb];rfl
 rw [bY,eA,Option.bind_some,Option.bind_some,Bool.not_true,cond_false,cond_false,dt (n:=1 +h.aL) (by omega) (by omega),dt (n:=1 +h.aL+h.aW) (by omega) (by omega)]
 by_cases bO:okB h
 case neg=>
  refine ⟨(none,lU h),?_,.size fun s=>bO s.B⟩
  show _=some (lU h)
  unfold lU
  rw [if_pos dl,if_neg bO]
  unfold okB at bO
  rw [decide_eq_false bO];rfl
 have abl:=bO
 unfold okB at abl
 rw [decide_eq_true abl,Bool.not_true,cond_false,dt (n:=h.aL+ 1) (by omega) (by omega),dt (n:=h.aL+h.aW) (by omega) (by omega),dt (n:=h.aL+h.aW+ 1) (by omega) (by omega)]
 by_cases hA:GA h
 case neg=>
  refine ⟨(none,lU h),?_,.size fun s=>hA s.C⟩
  show _=some (lU h)
  unfold lU fv
  rw [if_pos dl,if_pos bO,if_neg hA,Option.bind_some,Option.bind_some]
  cases ag:(decide (1 <=h.a5) && decide (h.a5<=h.aL+ 1)) with
  | false=>rfl
  | true=>
    cases Co:(decide (h.aL+ 1 <=h.a2) && decide (h.a2<=h.aL+h.aW+ 1)) with
    | false=>rfl
    | true=>
      cases abC:decide (h.Next < 1) with
      | true=>rfl
      | false=>exact absurd ⟨by simpa using ag,by simpa using Co,by simp at abC;omega⟩ hA
 have cb:h6 h:=⟨dl,bO,hA⟩
 obtain ⟨⟨c1,c2⟩,⟨c3,c4⟩,c5⟩:=id hA
 have hJ:fv h.a5 1 (h.aL+ 1)=some true:=by unfold fv;rw [decide_eq_true c1,decide_eq_true c2];rfl
 have hZ:fv h.a2 (h.aL+ 1) (h.aL+h.aW+ 1)=some true:=by unfold fv;rw [decide_eq_true c3,decide_eq_true c4];rfl
 rw [hJ,hZ,Option.bind_some,Option.bind_some,Bool.not_true,cond_false,decide_eq_false (show ¬ h.Next < 1 by omega),Bool.or_self,cond_false]
 have kx:∀ r,pk F h k=some r->pk F (⟨h.Words,h.aL,h.aW,h.a5,h.a2,h.aZ,h.Next⟩:aY) (⟨k.ba,k.a8,k.Fields,k.Names,k.a9⟩:aU)=some r:=fun r e=>e
 rcases aeX (F:=F) (by omega) aj cb with ⟨Y,O,aq,e⟩ | ⟨iV,Y,O,e⟩
 case inr=>
  refine ⟨(none,1),?_,.form cb iV⟩
  rw [kx _ e];rfl
 have ah:=aq.qv aj cb
 have hc:Y.length+O.length<= 5000 :=ah.py
 refine ⟨_,?_,.rest cb aq⟩
 show _=some (mZ (view h k Y O))
 have dF:bK 8 ([]:List Int) Y=some Y:=by rw [jq (by simp;omega)];rfl
 have fF:bK 8 Y O=some (Y++O):=jq (by omega)
 have l1:=aAm (k:=k) (Y:=Y) (O:=O) aD c5 hi ah
 have cB:=aAn (F:=F) aD ah
 have z8:=aAo (F:=F) aD ah
 have Ga:=aAp (F:=F) aD cb
 have SL:=aAq aD cb aq ah aJ
 have SM:=aAr aD ah aJ
 rw [kx _ e,Option.bind_some]
 show (bK 8 ([]:List Int) Y).bind _=_
 rw [dF,Option.bind_some]
 show (bK 8 Y O).bind _=_
 rw [fF,Option.bind_some,l1,jd]
 unfold mZ a3
 show nK (if (Y++O).any (kS (view h k Y O))=true then some 3 else none) _=some (if (if (Y++O).any (kS (view h k Y O))=true then (3 :Int) else if ((Y++O).map (ao h.Words)).Nodup then 0 else 6)= 0 then _ else (if (Y++O).any (kS (view h k Y O))=true then (3 :Int) else if ((Y++O).map (ao h.Words)).Nodup then 0 else 6))
 cases (Y++O).any (kS (view h k Y O)) with
 | true=>rfl
 | false=>
   rw [if_neg Bool.false_ne_true,if_neg Bool.false_ne_true]
   show cd _ _=_
   rw [cB,jd]
   by_cases aM:((Y++O).map (ao h.Words)).Nodup
   case neg=>rw [if_neg aM,if_neg aM];rfl
   rw [if_pos aM,if_pos aM,if_pos rfl]
   show cd _ _=_
   rw [z8,jd]
   unfold jZ
   show nK (if (Y++O).any (mQ (view h k Y O))=true then some 5 else none) _=some (if (if (Y++O).any (mQ (view h k Y O))=true then (5 :Int) else if (free h).any (fun x=>!decide (x= 0))=true then 1 else 0)= 0 then _ else (if (Y++O).any (mQ (view h k Y O))=true then (5 :Int) else if (free h).any (fun x=>!decide (x= 0))=true then 1 else 0))
   cases (Y++O).any (mQ (view h k Y O)) with
   | true=>rfl
   | false=>
     rw [if_neg Bool.false_ne_true,if_neg Bool.false_ne_true]
     show cd _ _=_
     rw [Ga,jd]
     cases (free h).any (fun x=>!decide (x= 0)) with
     | true=>rfl
     | false=>
       rw [if_neg Bool.false_ne_true,if_neg Bool.false_ne_true,if_pos rfl]
       show cd _ _=_
       rw [SL,jd]
       unfold w7
       show nK (if (List.range h.aZ.length).any (gW (view h k Y O))=true then some 4 else none) _=some (if ((List.range h.aZ.length).any (gW (view h k Y O)) || O.any (n2 (view h k Y O)))=true then (4 :Int) else 0)
       cases (List.range h.aZ.length).any (gW (view h k Y O)) with
       | true=>rfl
       | false=>
         rw [if_neg Bool.false_ne_true,Bool.false_or]
         show cd _ _=_
         rw [SM,jd]
         cases O.any (n2 (view h k Y O)) <;> rfl
theorem Spec.xB {r eV:Option bd × Int} (s:Spec h k r) (s':Spec h k eV):r=eV:=by
 cases s with
 | size aJ=>cases s' with
   | size _=>rfl
   | form av _=>exact absurd av aJ
   | rest av _=>exact absurd av aJ
 | form av iV=>cases s' with
   | size aJ=>exact absurd av aJ
   | form _ _=>rfl
   | rest _ aq=>exact absurd aq (iV _ _)
 | rest av aq=>cases s' with
   | size aJ=>exact absurd av aJ
   | form _ iV=>exact absurd aq (iV _ _)
   | rest _ nr=>
     obtain rfl:=aq.y.xB nr.y
     obtain rfl:=aq.o.xB nr.o
     rfl
end
end J
namespace J
section
variable {k:aU} {h:aY} {Y O:List Int}
theorem hv.fit (cb:h6 h) (aq:hv h k Y O):∀ a ∈ Y++O,1 <=a/\a.toNat+ 3 +(wd h.Words (a.toNat+ 1)).toNat<=h.Words.length/\(a.toNat+ 3 +(wd h.Words (a.toNat+ 1)).toNat<=h.a5.toNat\/(h.aL+ 1 <=a/\a.toNat+ 3 +(wd h.Words (a.toNat+ 1)).toNat<=h.a2.toNat)):=by
 intro a aK
 have bO:(h.Words.length:Int)= 1 +h.aL+h.aW:=cb.B
 obtain ⟨⟨c1,c2⟩,⟨c3,c4⟩,_⟩:=cb.C
 obtain ⟨⟨cC,_⟩,dX,_⟩:=cb.A
 rcases List.mem_append.1 aK with aK | aK
 · obtain ⟨I,aa⟩:=aq.Iy cb a aK;exact ⟨I,by omega,.inl aa⟩
 · obtain ⟨I,aa⟩:=aq.qd cb a aK;exact ⟨by omega,by omega,.inr ⟨I,aa⟩⟩
theorem hv.af4 (aq:hv h k Y O):∀ a ∈ Y++O,hC k (wd h.Words a.toNat)=true/\isLen k (wd h.Words a.toNat) (wd h.Words (a.toNat+ 1))=true:=by
 intro a aK
 rcases List.mem_append.1 aK with aK | aK
 · obtain ⟨n,rfl,_,_,aw⟩:=aq.y.mem a aK;exact aw
 · obtain ⟨n,rfl,_,_,aw⟩:=aq.o.mem a aK;exact aw
theorem cM.set (cb:h6 h) (aq:hv h k Y O) (g:cM h k Y O) {a:Int} (aK:a ∈ Y++O) {n:Nat} (aJ:n <(wd h.Words (a.toNat+ 1)).toNat) {value:Int}
 (ah:h4 k (wd h.Words a.toNat) n=true->value= 0 \/value ∈ Y++O) {nt:List Int} (I:zd nt) (aa:∀ x ∈ nt,x ∈ h.aZ\/(x=a/\a ∈ O/\h4 k (wd h.Words a.toNat) n=true)) (aw:∀ x ∈ h.aZ,x ∈ nt)
 (bi:h4 k (wd h.Words a.toNat) n=true->a ∈ O-> 0 <value->value<=h.aL->a ∈ nt) :
 h6 (⟨h.Words.set (a.toNat+ 3 +n) value,h.aL,h.aW,h.a5,h.a2,nt,h.Next⟩:aY)/\hv (⟨h.Words.set (a.toNat+ 3 +n) value,h.aL,h.aW,h.a5,h.a2,nt,h.Next⟩:aY) k Y O /\
 cM (⟨h.Words.set (a.toNat+ 3 +n) value,h.aL,h.aW,h.a5,h.a2,nt,h.Next⟩:aY) k Y O:=by
 obtain ⟨f1,f2,f3⟩:=aq.fit cb a aK
 have aN:a.toNat+ 3 +n <h.Words.length:=by omega
 have hw:∀ j,wd (h.Words.set (a.toNat+ 3 +n) value) j=if j=a.toNat+ 3 +n then value else wd h.Words j:=fun j=>aCv aN
 have head:∀ b ∈ Y++O,wd (h.Words.set (a.toNat+ 3 +n) value) b.toNat=wd h.Words b.toNat/\wd (h.Words.set (a.toNat+ 3 +n) value) (b.toNat+ 1)=wd h.Words (b.toNat+ 1)/\wd (h.Words.set (a.toNat+ 3 +n) value) (b.toNat+ 2)=wd h.Words (b.toNat+ 2):=by
  intro b ag
  rw [hw,hw,hw]
  by_cases e:b=a
  · subst e
    rw [if_neg (by omega),if_neg (by omega),if_neg (by omega)];exact ⟨rfl,rfl,rfl⟩
  · have:=aq.apart cb b ag a aK e
    rw [if_neg (by omega),if_neg (by omega),if_neg (by omega)];exact ⟨rfl,rfl,rfl⟩
 have bO:(h.Words.length:Int)= 1 +h.aL+h.aW:=cb.B
 obtain ⟨⟨c1,c2⟩,⟨c3,c4⟩,c5⟩:=id cb.C
 have aE:∀ b ∈ Y++O,refs k (h.Words.set (a.toNat+ 3 +n) value) b.toNat=refs k h.Words b.toNat:=fun b ag=>aA0 (head b ag).1 (head b ag).2.1
 have Kq:∀ b ∈ Y++O,ao (h.Words.set (a.toNat+ 3 +n) value) b=ao h.Words b:=fun b ag=>(head b ag).2.2
 have Ky:(Y++O).map (ao (h.Words.set (a.toNat+ 3 +n) value))=(Y++O).map (ao h.Words):=List.map_congr_left Kq
 have v9:∀ b ∈ Y++O,∀ w ∈ refs k h.Words b.toNat,w.toNat=a.toNat+ 3 +n->b=a/\h4 k (wd h.Words a.toNat) n=true:=by
  intro b ag w f_ e
  obtain ⟨j,aI,zG,rfl⟩:=K7.1 f_
  simp only [Int.toNat_natCast] at e
  have JA:b=a:=by
   by_cases JA:b=a
   · exact JA
   · have:=aq.apart cb b ag a aK JA;omega
  subst JA
  have:j=n:=by omega
  subst this
  exact ⟨rfl,zG⟩
 refine ⟨⟨cb.A,?_,cb.C⟩,⟨aq.y.congr fun b ag=>?_,aq.o.congr fun b ag=>?_⟩,⟨fun b ag=>?_,?_,fun b ag w f_=>?_,fun i hi hc=>?_,I,fun x ad=>?_,fun b ag CC w f_=>?_⟩⟩
 · show ((h.Words.set (a.toNat+ 3 +n) value).length:Int)=_;rw [List.length_set];exact bO
 · obtain ⟨et,hr,_⟩:=head b (List.mem_append_left _ ag);exact ⟨et,hr⟩
 · obtain ⟨et,hr,_⟩:=head b (List.mem_append_right _ ag);exact ⟨et,hr⟩
 · show 1 <=ao (h.Words.set (a.toNat+ 3 +n) value) b/\ao (h.Words.set (a.toNat+ 3 +n) value) b <h.Next
   rw [Kq b ag];exact g.hash b ag
 · show ((Y++O).map (ao (h.Words.set (a.toNat+ 3 +n) value))).Nodup
   rw [Ky];exact g.nodup
 · have f_:w ∈ refs k (h.Words.set (a.toNat+ 3 +n) value) b.toNat:=f_
   rw [aE b ag] at f_
   show wd (h.Words.set (a.toNat+ 3 +n) value) w.toNat= 0 \/wd (h.Words.set (a.toNat+ 3 +n) value) w.toNat ∈ Y++O
   rw [hw]
   by_cases e:w.toNat=a.toNat+ 3 +n
   · rw [if_pos e];exact ah (v9 b ag w f_ e).2
   · rw [if_neg e];exact g.ref b ag w f_
 · have hi:i <(h.Words.set (a.toNat+ 3 +n) value).length:=hi
   rw [List.length_set] at hi
   have hc:i= 0 \/(h.a5<=i/\(i:Int)<=h.aL)\/h.a2<=i:=hc
   show wd (h.Words.set (a.toNat+ 3 +n) value) i= 0
   rw [hw,if_neg (by omega)]
   exact g.fr i hi hc
 · show x ∈ O/\refs k (h.Words.set (a.toNat+ 3 +n) value) x.toNat≠ []
   rcases aa x ad with ad | ⟨rfl,lE,aI⟩
   · obtain ⟨et,hr⟩:=g.nt x ad
     rw [aE x (List.mem_append_right _ et)];exact ⟨et,hr⟩
   · refine ⟨lE,?_⟩
     rw [aE x aK]
     intro e
     have:((x.toNat+ 3 +n:Nat):Int) ∈ refs k h.Words x.toNat:=K7.2 ⟨n,aJ,aI,rfl⟩
     rw [e] at this;cases this
 · have fL:b ∈ Y++O:=List.mem_append_right _ ag
   have f_:w ∈ refs k (h.Words.set (a.toNat+ 3 +n) value) b.toNat:=f_
   rw [aE b fL] at f_
   show ¬ (0 <wd (h.Words.set (a.toNat+ 3 +n) value) w.toNat/\wd (h.Words.set (a.toNat+ 3 +n) value) w.toNat<=h.aL)
   rw [hw]
   by_cases e:w.toNat=a.toNat+ 3 +n
   · rw [if_pos e]
     obtain ⟨rfl,aI⟩:=v9 b fL w f_ e
     rintro ⟨yn,Eb⟩
     exact CC (bi aI ag yn Eb)
   · rw [if_neg e]
     exact g.must b ag (fun hm=>CC (aw b hm)) w f_
end
end J
namespace J
structure Good (F:Nat) (h:aY) (k:aU) (Y O:List Int):Prop where
 qZ:nC F k=some 0
 r4:g7 k
 s:h6 h
 l:hv h k Y O
 ok:cM h k Y O
section
variable {F:Nat} {k:aU} {h:aY} {Y O:List Int}
theorem Good.axW (g:Good F h k Y O):h.aZ.length<= 5000 :=by
 refine afW (N:=5000) g.ok.afV (fun i hi=>?_)
 obtain ⟨I,_⟩:=g.ok.nt _ (VZ hi)
 obtain ⟨f1,f2,_⟩:=g.l.fit g.s _ (List.mem_append_right Y I)
 have:=g.s.gk
 omega
theorem Good.open (aD:10000 <F) (g:Good F h k Y O):jO F h k=some (some (view h k Y O),0):=by
 unfold jO
 have ak:nC F (⟨k.ba,k.a8,k.Fields,k.Names,k.a9⟩:aU)=some 0 :=g.qZ
 have aJ:=g.axW
 obtain ⟨r,al,g1⟩:=TI aD g.r4 (h:=h) ⟨by omega,by omega⟩
 have al:rj F (⟨h.Words,h.aL,h.aW,h.a5,h.a2,h.aZ,h.Next⟩:aY) (⟨k.ba,k.a8,k.Fields,k.Names,k.a9⟩:aU)=some r:=al
 rw [ak,Option.bind_some,pC,al,Option.bind_some]
 cases g1 with
 | size ao=>exact absurd g.s ao
 | form _ af=>exact absurd g.l (af Y O)
 | @rest EF BD _ aq=>
   have vS:=aq.y.xB g.l.y
   have pB:=aq.o.xB g.l.o
   subst vS pB
   rw [(agw g.r4 g.s g.l).2 g.ok];rfl
theorem ayc (aD:10000 <F) (zB:∃ e,nC F k=some e/\(e≠ 0 \/(e= 0 /\g7 k))) (aJ:Small F h.aZ.length) :
 ∃ r,jO F h k=some r/\((r.2 ≠ 0 /\r.1 =none)\/ ∃ Y O,Good F h k Y O/\r=(some (view h k Y O),0)):=by
 obtain ⟨e,ak,he⟩:=zB
 unfold jO
 have apm:nC F (⟨k.ba,k.a8,k.Fields,k.Names,k.a9⟩:aU)=some e:=ak
 rw [apm,Option.bind_some]
 rcases he with he | ⟨rfl,aj⟩
 · rw [qb he];exact ⟨_,rfl,.inl ⟨he,rfl⟩⟩
 obtain ⟨r,al,g1⟩:=TI aD aj aJ
 have al:rj F (⟨h.Words,h.aL,h.aW,h.a5,h.a2,h.aZ,h.Next⟩:aY) (⟨k.ba,k.a8,k.Fields,k.Names,k.a9⟩:aU)=some r:=al
 rw [pC,al,Option.bind_some]
 refine ⟨_,rfl,?_⟩
 cases g1 with
 | size ao=>exact .inl ⟨fun e=>ao (Vy.1 e),rfl⟩
 | form _ af=>exact .inl ⟨by decide,rfl⟩
 | @rest EF BD ao aq=>
   by_cases q:mZ (view h k EF BD)= 0
   · exact .inr ⟨EF,BD,⟨ak,aj,ao,aq,(agw aj ao aq).1 q⟩,by rw [q];rfl⟩
   · exact .inl ⟨q,by rw [if_neg q]⟩
theorem Good.dE (_:Good F h k Y O) (a:Int):Cr (view h k Y O) a=some (decide (a ∈ Y++O)):=by
 unfold Cr
 show some ((dI ((Y++O).map fun a=>(a,true)) a).getD false)=_
 rw [K9]
end
end J
namespace J
open Go Go.Proofs.YteeliipnilghaaaGreat
theorem uD {n:Nat} (h:n<=reachBytes):Small 140737488356000 n:=by
 have:reachBytes= 140737488351232 :=rfl
 unfold Small
 omega
theorem nS {n:Nat} (k:Nat) (h:n*(k+ 1)<=reachBytes):Small 140737488356000 n:=
 uD (Nat.le_trans (Nat.le_mul_of_pos_right n (Nat.succ_pos k)) h)
theorem ari {m:Method} (h:I0 reachBytes m):m.Fits 140737488356000 :=
 ⟨uD h.1,nS 23 h.2.2.1.1,fun k aj=>uD (h.2.2.1.2 k aj).2,uD h.2.2.2.1.2,nS 39 h.2.2.2.2.2.2.2.1,fun x ad=>uD (h.2.2.2.2.2.2.2.2 x ad).2.2.2⟩
theorem arh {c:ap} (h:Ep reachBytes c):c.Fits 140737488356000 :=
 ⟨uD h.1,uD h.2.1,nS 39 h.2.2.1.1,fun f af=>⟨uD (h.2.2.1.2 f af).1,uD (h.2.2.1.2 f af).2.2⟩,nS 127 h.2.2.2.1,fun m hm=>ari (h.2.2.2.2 m hm)⟩
theorem arj {l:List ap} (h:l.length* 80 <=reachBytes/\ ∀ x ∈ l,Ep reachBytes x):Fits 140737488356000 l:=
 ⟨nS 79 h.1,fun c hc=>arh (h.2 c hc)⟩
theorem awB {k:aU} (h:IZ reachBytes k):IW 140737488356000 k:=
 ⟨nS 7 h.2.1.1,nS 23 h.2.2.1.1,fun x ad=>nS 39 (h.2.2.1.2 x ad).1,nS 23 h.2.2.2.1.1,fun x ad=>nS 15 (h.2.2.2.1.2 x ad).1,nS 23 h.2.2.2.2.1,fun x ad=>nS 15 (h.2.2.2.2.2 x ad).1⟩
end J
namespace J
theorem aBH {k:aU} (kc:ht k.ba) (e:k=linked k.ba):g7 k:=by
 have:=kc.right.len
 exact ⟨by omega,by rw [e];exact aBa⟩
theorem aoJ {k:aU} (I:Go.Proofs.YteeliipnilghaaaGreat.IZ Go.reachBytes k):∃ e,nC 140737488356000 k=some e/\sC 140737488356000 k=some e/\(e≠ 0 \/(e= 0 /\g7 k)):=by
 obtain ⟨e,c1,c2,c3⟩:=aoI (F:=140737488356000) (by omega) (arj I.1) (awB I)
 refine ⟨e,c1,c2,?_⟩
 rcases c3 with rfl | ⟨rfl,kc,aj⟩
 · exact .inl (by decide)
 · exact .inr ⟨rfl,aBH kc aj⟩
theorem ayb {F:Nat} {h:aY} {k:aU} (aD:10000 <F) (zB:∃ e,nC F k=some e/\sC F k=some e/\(e≠ 0 \/(e= 0 /\g7 k))) (aJ:Small F h.aZ.length) (hi:h.Next<= 9223372036854775807) :
 ∃ r,jO F h k=some r/\n_ F h k=some r.2 /\((r.2 ≠ 0 /\r.1 =none)\/ ∃ Y O,Good F h k Y O/\r=(some (view h k Y O),0)):=by
 obtain ⟨e,c1,c2,c3⟩:=zB
 obtain ⟨r,ak,aE⟩:=ayc aD ⟨e,c1,c3⟩ aJ
 refine ⟨r,ak,?_,aE⟩
 have aot:nC F (⟨k.ba,k.a8,k.Fields,k.Names,k.a9⟩:aU)=some e:=c1
 have aou:sC F (⟨k.ba,k.a8,k.Fields,k.Names,k.a9⟩:aU)=some e:=c2
 unfold n_
 unfold jO at ak
 rw [aot,Option.bind_some] at ak
 rw [aou,Option.bind_some]
 rcases c3 with c3 | ⟨rfl,aj⟩
 · rw [qb c3] at ak
   obtain rfl:=Option.some.inj ak
   rw [decide_eq_false c3];rfl
 · rw [pC] at ak
   obtain ⟨cD,gX,s1⟩:=TI aD aj aJ
   obtain ⟨dM,dc,s2⟩:=aAs aD aj aJ hi
   have gX:rj F (⟨h.Words,h.aL,h.aW,h.a5,h.a2,h.aZ,h.Next⟩:aY) (⟨k.ba,k.a8,k.Fields,k.Names,k.a9⟩:aU)=some cD:=gX
   have dc:BI F (⟨h.Words,h.aL,h.aW,h.a5,h.a2,h.aZ,h.Next⟩:aY) (⟨k.ba,k.a8,k.Fields,k.Names,k.a9⟩:aU)=some dM.2 :=dc
   obtain rfl:=s1.xB s2
   rw [gX,Option.bind_some] at ak
   obtain rfl:=Option.some.inj ak
   rw [show decide ((0 :Int)= 0)=true from rfl,cond_true,dc];rfl
end J
namespace Go.Proofs.YteeliipnilghaaaGreat
open J
structure Ord (Y o:List Int):Prop where
 w8:o.Nodup
 sub:∀ a ∈ o,a ∈ Y
theorem adL:∀ {o Y:List Int},o.Nodup->(∀ a ∈ o,a ∈ Y)->o.length<=Y.length
 | [],Y,_,_=>Nat.zero_le _
 | a::r,Y,aJ,ao=>by
   have aJ:=List.nodup_cons.1 aJ
   have aK:a ∈ Y:=ao a (by simp)
   have I:=adL (o:=r) (Y:=Y.erase a) aJ.2 fun b ag=>(List.mem_erase_of_ne fun e=>by subst e;exact aJ.1 ag).2 (ao b (by simp [ag]))
   rw [List.length_erase_of_mem aK] at I
   have:0 <Y.length:=List.length_pos_of_mem aK
   simp only [List.length_cons]
   omega
theorem Ord.len {Y o:List Int} (h:Ord Y o):o.length<=Y.length:=adL h.w8 h.sub
theorem Ord.nil {Y:List Int}:Ord Y []:=⟨List.nodup_nil,fun _ h=>by simp at h⟩
end Go.Proofs.YteeliipnilghaaaGreat
namespace Go.Proofs.YteeliipnilghaaaGreat
open J
def jz (k:aU) (W:List Int) (a:Int):List Int:=(refs k W a.toNat).map fun w=>wd W w.toNat
section
variable {F:Nat} {h:aY} {k:aU} {Y O:List Int} {ak gR:List Int} {al aV bS dw kM:Int}
theorem Mi (g:J.Good F h k Y O) {a:Int} (aK:a ∈ Y++O):∀ v ∈ jz k h.Words a,v= 0 \/v ∈ Y++O:=fun v ah=>by
 obtain ⟨w,hw,rfl⟩:=List.mem_map.1 ah
 exact g.ok.ref a aK w hw
theorem aA2 (g:J.Good F h k Y O) {a:Int} (aK:a ∈ Y++O):∀ w ∈ refs k h.Words a.toNat,0 <=w/\w.toNat <h.Words.length:=fun w hw=>by
 obtain ⟨j,aI,_,rfl⟩:=K7.1 hw
 have:=(g.l.fit g.s a aK).2.1
 omega
theorem afk (g:J.Good F h k Y O) {a:Int} (aK:a ∈ Y++O):(refs k h.Words a.toNat).length<= 5000 :=by
 have I:=(g.l.fit g.s a aK).2.1
 have aa:=g.s.gk
 have:(refs k h.Words a.toNat).length<=(wd h.Words (a.toNat+ 1)).toNat:=by
  unfold refs
  have key:∀ n:Nat,((List.range n).flatMap fun j=>if h4 k (wd h.Words a.toNat) j then [((a.toNat+ 3 +j:Nat):Int)] else []).length<=n:=by
   intro n
   induction n with
   | zero=>simp
   | succ n bq=>
     rw [List.range_succ,List.flatMap_append,List.length_append]
     have:([n].flatMap fun j=>if h4 k (wd h.Words a.toNat) j then [((a.toNat+ 3 +j:Nat):Int)] else []).length<= 1 :=by
      simp only [List.flatMap_cons,List.flatMap_nil,List.append_nil]
      split <;> simp
     omega
  exact key _
 omega
end
end Go.Proofs.YteeliipnilghaaaGreat
namespace Go.Proofs.YteeliipnilghaaaGreat
open J
def mt (o:List Int) (a:Int):List Int:=if a≠ 0 /\a ∉ o then o++[a] else o
theorem Ord.mt {Y o:List Int} {a:Int} (h:Ord Y o) (aK:a= 0 \/a ∈ Y):Ord Y (mt o a):=by
 unfold Go.Proofs.YteeliipnilghaaaGreat.mt
 split
 · rename_i I
   refine ⟨List.nodup_append.2 ⟨h.w8,by simp,fun b ag c hc e=>?_⟩,fun b ag=>?_⟩
   · cases List.mem_singleton.1 hc
     subst e
     exact I.2 ag
   · rcases List.mem_append.1 ag with ag | ag
     · exact h.sub b ag
     · cases List.mem_singleton.1 ag
       exact aK.resolve_left I.1
 · exact h
theorem Ord.Ak {Y:List Int}:∀ {l o:List Int},Ord Y o->(∀ a ∈ l,a= 0 \/a ∈ Y)->Ord Y (l.foldl Go.Proofs.YteeliipnilghaaaGreat.mt o)
 | [],o,h,_=>h
 | a::r,o,h,aK=>Ord.Ak (l:=r) (o:=Go.Proofs.YteeliipnilghaaaGreat.mt o a) (h.mt (aK a (by simp))) fun b ag=>aK b (by simp [ag])
theorem aw' {a:Int} {o:List Int}:∃ t,mt o a=o++t:=by
 unfold mt
 split
 · exact ⟨_,rfl⟩
 · exact ⟨[],by simp⟩
theorem K8:∀ {l o:List Int},∃ t,l.foldl mt o=o++t
 | [],o=>⟨[],by simp⟩
 | a::r,o=>by
   obtain ⟨t,h⟩:=aw' (a:=a) (o:=o)
   obtain ⟨u,aa⟩:=K8 (l:=r) (o:=mt o a)
   exact ⟨t++u,by rw [List.foldl_cons,aa,h,List.append_assoc]⟩
theorem aw_ {a:Int} {o:List Int} {v:Int}:v ∈ mt o a ↔ v ∈ o\/(v=a/\a≠ 0):=by
 unfold mt
 split
 · rename_i h
   rw [List.mem_append,List.mem_singleton]
   exact ⟨fun I=>I.imp id fun aa=>⟨aa,h.1⟩,fun I=>I.imp id fun aa=>aa.1⟩
 · rename_i h
   refine ⟨.inl,fun I=>I.elim id fun aa=>?_⟩
   obtain ⟨rfl,aQ⟩:=aa
   exact Classical.byContradiction fun aJ=>h ⟨aQ,aJ⟩
theorem CY {v:Int}:∀ {l o:List Int},v ∈ l.foldl mt o ↔ v ∈ o\/(v ∈ l/\v≠ 0)
 | [],o=>by simp
 | a::r,o=>by
   rw [List.foldl_cons,CY (l:=r),aw_]
   constructor
   · rintro ((h | ⟨rfl,h⟩) | ⟨h,aQ⟩)
     · exact .inl h
     · exact .inr ⟨by simp,h⟩
     · exact .inr ⟨by simp [h],aQ⟩
   · rintro (h | ⟨h,aQ⟩)
     · exact .inl (.inl h)
     · rcases List.mem_cons.1 h with rfl | h
       · exact .inl (.inr ⟨rfl,aQ⟩)
       · exact .inr ⟨h,aQ⟩
def la (k:aU) (W:List Int):Nat->Nat->List Int->List Int
 | 0,_,o=>o
 | d+ 1,i,o=>match o[i]? with
   | some a=>la k W d (i+ 1) ((jz k W a).foldl mt o)
   | none=>o
section
variable {F:Nat} {h:aY} {k:aU} {Y O:List Int}
theorem YJ {a:Int} {o:List Int} (aD:10000 <F) (av:o.length<= 5000):EC F a o=some ((),((),()),mt o a,()):=by
 unfold EC mt
 by_cases I:a= 0
 · rw [decide_eq_true I,Bool.not_true,cond_false,if_neg (fun h=>h.1 I)]
 · rw [decide_eq_false I,Bool.not_false,cond_true,show j6 F o a=some (decide (a ∈ o)) from Di ⟨by omega,by omega⟩ a,Option.bind_some]
   by_cases aa:a ∈ o
   · rw [decide_eq_true aa,Bool.not_true,cond_false,if_neg (fun h=>h.2 aa)]
   · rw [decide_eq_false aa,Bool.not_false,cond_true,if_pos ⟨I,aa⟩]
     have:bK 8 o [a]=some (o++[a]):=by
      unfold bK
      rw [if_pos (by simp only [List.length_singleton];omega)]
     rw [this,Option.bind_some]
section
variable {S:List Int} {y ol yt ot nx:Int} {W nt:List Int} {c1:List ap} {c2:List Int} {c3:List (List J.Field)} {c4:List (List (List UInt8))} {c5:List (List J.Target)}
theorem aop (aD:10000 <F) (fk:S.length<= 5000) {l:List Int} (aq:l.length<= 140737488355328) (hm:∀ a ∈ l,a= 0 \/a ∈ S):∀ (d i f:Nat) (o:List Int),i+d=l.length->d <f->Ord S o ->
 yX F f l (i:Int) W y ol yt ot nt nx c1 c2 c3 c4 c5 o=some (((),(),(),((),()),()),(W,y,ol,yt,ot,nt,nx,()),(c1,c2,c3,c4,c5,()),((),()),(l.drop i).foldl mt o,()):=by
 intro d
 induction d with
 | zero=>
   intro i f o h af av
   obtain ⟨f,rfl⟩:∃ b7,f=b7+ 1 :=⟨f - 1,by omega⟩
   have:i=l.length:=by omega
   subst this
   rw [yX,bM,cond_false,List.drop_length]
   rfl
 | succ d bq=>
   intro i f o h af av
   obtain ⟨f,rfl⟩:∃ b7,f=b7+ 1 :=⟨f - 1,by omega⟩
   have hi:i <l.length:=by omega
   have ad:l[i]? =some l[i]:=List.getElem?_eq_getElem hi
   rw [yX,bN hi,cond_true,bw ad,Option.bind_some,YJ aD (by have:=av.len;omega),Option.bind_some,eP hi aq]
   refine (bq (i+ 1) f (mt o l[i]) (by omega) (by omega) (av.mt (hm _ (List.getElem_mem hi)))).trans ?_
   rw [List.drop_eq_getElem_cons hi,List.foldl_cons]
theorem aor (aD:10000 <F) (fk:S.length<= 5000) {l:List Int} {j:Int} (aq:l.length<= 140737488355328) (hw:∀ w ∈ l,0 <=w/\w.toNat <W.length) (hm:∀ w ∈ l,wd W w.toNat= 0 \/wd W w.toNat ∈ S):∀ (d i f:Nat) (o:List Int),i+d=l.length->d <f->Ord S o ->
 yZ F f j l (i:Int) W y ol yt ot nt nx c1 c2 c3 c4 c5 o=some (((),(),(),((),()),j,()),(W,y,ol,yt,ot,nt,nx,()),(c1,c2,c3,c4,c5,()),((),()),((l.drop i).map fun w=>wd W w.toNat).foldl mt o,()):=by
 intro d
 induction d with
 | zero=>
   intro i f o h af av
   obtain ⟨f,rfl⟩:∃ b7,f=b7+ 1 :=⟨f - 1,by omega⟩
   have:i=l.length:=by omega
   subst this
   rw [yZ,bM,cond_false,List.drop_length]
   rfl
 | succ d bq=>
   intro i f o h af av
   obtain ⟨f,rfl⟩:∃ b7,f=b7+ 1 :=⟨f - 1,by omega⟩
   have hi:i <l.length:=by omega
   have ad:l[i]? =some l[i]:=List.getElem?_eq_getElem hi
   have tt:l[i] ∈ l:=List.getElem_mem hi
   obtain ⟨w0,er⟩:=hw _ tt
   rw [yZ,bN hi,cond_true,bw ad,Option.bind_some,nv (show l[i]=(l[i].toNat:Int) by omega) er,Option.bind_some,YJ aD (by have:=av.len;omega),Option.bind_some,eP hi aq]
   refine (bq (i+ 1) f (mt o (wd W l[i].toNat)) (by omega) (by omega) (av.mt (hm _ tt))).trans ?_
   rw [List.drop_eq_getElem_cons hi,List.map_cons,List.foldl_cons]
end
theorem Pb (g:J.Good F h k Y O):(Y++O).length<= 5000 :=by
 have:=(g.l.qv g.r4 g.s).py
 have:Y.length+O.length<= 5000 :=this
 rw [List.length_append]
 omega
theorem aoq (aD:10000 <F) (g:J.Good F h k Y O):∀ (d i f:Nat) (o:List Int),(Y++O).length <i+d->d <f->i<=o.length->Ord (Y++O) o ->
 yY F f (i:Int) h.Words h.aL h.aW h.a5 h.a2 h.aZ h.Next k.ba k.a8 k.Fields k.Names k.a9 o=some (((),()),(h.Words,h.aL,h.aW,h.a5,h.a2,h.aZ,h.Next,()),(k.ba,k.a8,k.Fields,k.Names,k.a9,()),((),()),la k h.Words d i o,()):=by
 intro d
 have fk:=Pb g
 induction d with
 | zero=>
   intro i f o hi af RD av
   have:=av.len
   omega
 | succ d bq=>
   intro i f o aM af RD av
   obtain ⟨f,rfl⟩:∃ b7,f=b7+ 1 :=⟨f - 1,by omega⟩
   rcases Nat.lt_or_ge i o.length with hi | hi
   · have ad:o[i]? =some o[i]:=List.getElem?_eq_getElem hi
     have aK:o[i] ∈ Y++O:=av.sub _ (List.getElem_mem hi)
     have as8:Ord (Y++O) ((jz k h.Words o[i]).foldl mt o):=av.Ak fun v ah=>Mi g aK v ah
     rw [yY,bN hi,cond_true,bw ad,Option.bind_some,MA aD (g.l.qv g.r4 g.s) aK,Option.bind_some]
     have Jz:=aor (S:=Y++O) (y:=h.aL) (ol:=h.aW) (yt:=h.a5) (ot:=h.a2) (nx:=h.Next) (W:=h.Words) (nt:=h.aZ) (c1:=k.ba) (c2:=k.a8) (c3:=k.Fields) (c4:=k.Names) (c5:=k.a9) aD fk (j:=(i:Int)) (by have:=afk g aK;omega) (aA2 g aK) (fun w hw=>g.ok.ref _ aK w hw) (refs k h.Words o[i].toNat).length 0 F o (by omega) (by have:=afk g aK;omega) av
     rw [List.drop_zero] at Jz
     have ap4:yZ F F (i:Int) (refs k h.Words o[i].toNat) 0 h.Words h.aL h.aW h.a5 h.a2 h.aZ h.Next k.ba k.a8 k.Fields k.Names k.a9 o=_:=Jz
     rw [ap4,Option.bind_some,eP hi (by have:=av.len;omega)]
     obtain ⟨t,aO⟩:=K8 (l:=jz k h.Words o[i]) (o:=o)
     refine (bq (i+ 1) f ((jz k h.Words o[i]).foldl mt o) (by omega) (by omega) (by rw [aO,List.length_append];omega) as8).trans ?_
     rw [la,ad]
   · have:i=o.length:=by omega
     subst this
     rw [yY,bM,cond_false,la,List.getElem?_eq_none (Nat.le_refl _)]
def qk (k:aU) (h:aY) (Y O roots:List Int):List Int:=la k h.Words ((Y++O).length+ 1) 0 (roots.foldl mt [])
theorem aAW (aD:10000 <F) (g:J.Good F h k Y O) {roots:List Int} (aq:roots.length<= 5000) (aE:∀ a ∈ roots,a= 0 \/a ∈ Y++O) :
 I2 F h.Words h.aL h.aW h.a5 h.a2 h.aZ h.Next k.ba k.a8 k.Fields k.Names k.a9 roots=some ((qk k h Y O roots,()),()):=by
 have fk:=Pb g
 unfold I2
 have dg:=aop (S:=Y++O) (y:=h.aL) (ol:=h.aW) (yt:=h.a5) (ot:=h.a2) (nx:=h.Next) (W:=h.Words) (nt:=h.aZ) (c1:=k.ba) (c2:=k.a8) (c3:=k.Fields) (c4:=k.Names) (c5:=k.a9) aD fk (l:=roots) (by omega) aE roots.length 0 F [] (by omega) (by omega) Ord.nil
 rw [List.drop_zero] at dg
 have apl:yX F F roots 0 h.Words h.aL h.aW h.a5 h.a2 h.aZ h.Next k.ba k.a8 k.Fields k.Names k.a9 []=_:=dg
 rw [apl,Option.bind_some]
 have al:=aoq aD g ((Y++O).length+ 1) 0 F (roots.foldl mt []) (by omega) (by omega) (Nat.zero_le _) (Ord.nil.Ak aE)
 dsimp only
 have apI:yY F F 0 h.Words h.aL h.aW h.a5 h.a2 h.aZ h.Next k.ba k.a8 k.Fields k.Names k.a9 (roots.foldl mt [])=_:=al
 rw [apI,Option.bind_some]
 rfl
theorem afE (g:J.Good F h k Y O):∀ {d i:Nat} {o:List Int},Ord (Y++O) o->Ord (Y++O) (la k h.Words d i o)
 | 0,i,o,av=>av
 | d+ 1,i,o,av=>by
   unfold la
   split
   · rename_i a aK
     exact afE g (av.Ak fun v ah=>Mi g (av.sub _ (List.mem_of_getElem? aK)) v ah)
   · exact av
theorem afi (g:J.Good F h k Y O) {roots:List Int} (aE:∀ a ∈ roots,a= 0 \/a ∈ Y++O):Ord (Y++O) (qk k h Y O roots):=afE g (Ord.nil.Ak aE)
end
end Go.Proofs.YteeliipnilghaaaGreat
namespace Go.Proofs.YteeliipnilghaaaGreat
open J
section
variable {F:Nat} {h:aY} {k:aU} {Y O:List Int}
theorem afF {W:List Int}:∀ {d i:Nat} {o:List Int},∃ t,la k W d i o=o++t
 | 0,i,o=>⟨[],by simp [la]⟩
 | d+ 1,i,o=>by
   unfold la
   split
   · rename_i a _
     obtain ⟨t,aO⟩:=K8 (l:=jz k W a) (o:=o)
     obtain ⟨u,hu⟩:=afF (W:=W) (d:=d) (i:=i+ 1) (o:=(jz k W a).foldl mt o)
     exact ⟨t++u,by rw [hu,aO,List.append_assoc]⟩
   · exact ⟨[],by simp⟩
theorem afC (g:J.Good F h k Y O):∀ {d i:Nat} {o:List Int},(Y++O).length <i+d->Ord (Y++O) o->(∀ j a,j <i->o[j]? =some a-> ∀ v ∈ jz k h.Words a,v≠ 0 ->v ∈ o) ->
 ∀ a ∈ la k h.Words d i o,∀ v ∈ jz k h.Words a,v≠ 0 ->v ∈ la k h.Words d i o
 | 0,i,o,aM,av,hc=>fun a aK v ah aQ=>by
   unfold la at aK ⊢
   obtain ⟨j,aI,rfl⟩:=List.mem_iff_getElem.1 aK
   have:=av.len
   exact hc j _ (by omega) (List.getElem?_eq_getElem aI) v ah aQ
 | d+ 1,i,o,aM,av,hc=>fun a aK v ah aQ=>by
   unfold la at aK ⊢
   split at aK
   · rename_i b ag
     obtain ⟨t,aO⟩:=K8 (l:=jz k h.Words b) (o:=o)
     refine afC g (by omega) (av.Ak fun v ah=>Mi g (av.sub _ (List.mem_of_getElem? ag)) v ah) (fun j c aI kT u hu I=>?_) a aK v ah aQ
     have hi:=(List.getElem?_eq_some_iff.1 ag).1
     rcases Nat.lt_or_ge j i with e | e
     · rw [aO,List.getElem?_append_left (by omega)] at kT
       exact CY.2 (.inl (hc j c e kT u hu I))
     · have:j=i:=by omega
       subst this
       rw [aO,List.getElem?_append_left hi,ag] at kT
       cases kT
       exact CY.2 (.inr ⟨hu,I⟩)
   · rename_i ag
     obtain ⟨j,aI,rfl⟩:=List.mem_iff_getElem.1 aK
     have:=List.getElem?_eq_none_iff.1 ag
     exact hc j _ (by omega) (List.getElem?_eq_getElem aI) v ah aQ
theorem afD {W:List Int} {P:Int->Prop} (kd:∀ a,P a-> ∀ v ∈ jz k W a,v≠ 0 ->P v):∀ {d i:Nat} {o:List Int},(∀ a ∈ o,P a)-> ∀ a ∈ la k W d i o,P a
 | 0,i,o,av=>av
 | d+ 1,i,o,av=>by
   unfold la
   split
   · rename_i b ag
     refine afD kd fun a aK=>?_
     rcases CY.1 aK with h | ⟨h,aQ⟩
     · exact av a h
     · exact kd b (av b (List.mem_of_getElem? ag)) a h aQ
   · exact av
structure X0 (k:aU) (W roots:List Int) (P:Int->Prop):Prop where
 rt:∀ v ∈ roots,v≠ 0 ->P v
 g2:∀ a,P a-> ∀ v ∈ jz k W a,v≠ 0 ->P v
theorem aAV (g:J.Good F h k Y O) {roots:List Int} (aE:∀ a ∈ roots,a= 0 \/a ∈ Y++O):X0 k h.Words roots (· ∈ qk k h Y O roots):=by
 refine ⟨fun v ah aQ=>?_,afC g (by omega) (Ord.nil.Ak aE) fun j a aI=>by omega⟩
 obtain ⟨t,aO⟩:=afF (k:=k) (W:=h.Words) (d:=(Y++O).length+ 1) (i:=0) (o:=roots.foldl mt [])
 unfold qk
 rw [aO]
 exact List.mem_append_left _ (CY.2 (.inr ⟨ah,aQ⟩))
theorem aAX {roots:List Int} {P:Int->Prop} (hc:X0 k h.Words roots P):∀ a ∈ qk k h Y O roots,P a:=
 afD hc.g2 fun a aK=>(CY.1 aK).elim (fun h=>by simp at h) fun h=>hc.rt a h.1 h.2
end
end Go.Proofs.YteeliipnilghaaaGreat
namespace Go.Proofs.YteeliipnilghaaaGreat
open J
def iy (k:aU) (W:List Int) (a n i:Nat):List Int:=((List.range n).drop i).flatMap fun j=>if h4 k (wd W a) j then [wd W (a+ 3 +j)] else []
theorem afn {k:aU} {W:List Int} {a n:Nat}:iy k W a n n= []:=by unfold iy;rw [List.drop_eq_nil_of_le (by simp)];rfl
theorem afq {k:aU} {W:List Int} {a n i:Nat} (h:i <n):iy k W a n i=(if h4 k (wd W a) i then [wd W (a+ 3 +i)] else [])++iy k W a n (i+ 1):=by
 unfold iy
 have hi:i <(List.range n).length:=by simpa using h
 rw [List.drop_eq_getElem_cons hi,List.flatMap_cons,List.getElem_range]
theorem afp {k:aU} {W:List Int} {a:Int}:iy k W a.toNat (wd W (a.toNat+ 1)).toNat 0 =jz k W a:=by
 unfold iy jz refs
 rw [List.drop_zero,List.map_flatMap]
 congr 1
 funext j
 split
 · rw [List.map_singleton,Int.toNat_natCast]
 · rfl
theorem afo {k:aU} {W:List Int} {a n:Nat}:∀ {d i:Nat},i+d=n->(iy k W a n i).length<=d
 | 0,i,h=>by
   have:i=n:=by omega
   subst this
   rw [afn];simp
 | d+ 1,i,h=>by
   rw [afq (by omega),List.length_append]
   have:=afo (k:=k) (W:=W) (a:=a) (n:=n) (d:=d) (i:=i+ 1) (by omega)
   split <;> simp <;> omega
theorem auB {W:List Int} {a:Int} {i:Nat} (aK:1 <=a) (ag:a.toNat+ 3 +i <W.length) (h3:W.length<= 100000):idx W (aA (aA (a+ 3)+(i:Int)))=some (wd W (a.toNat+ 3 +i)):=by
 have e:aA (aA (a+ 3)+(i:Int))=((a.toNat+ 3 +i:Nat):Int):=by
  rw [dt (n:=a+ 3) (by omega) (by omega),dt (by omega) (by omega)]
  omega
 rw [e]
 exact jv ag
section
variable {F:Nat} {h:aY} {k:aU} {Y O:List Int}
theorem awW (aD:10000 <F) (g:J.Good F h k Y O) {a:Int} (aK:a ∈ Y++O) {m:List (Int × Bool)} {n:Nat} (aJ:n=(wd h.Words (a.toNat+ 1)).toNat):∀ (d i f:Nat) (g2:List Int),i+d=n->d <f->g2.length+d<= 1000000 ->
 vW F f a (n:Int) (i:Int) k.ba k.a8 k.Fields k.Names k.a9 h.Words h.aL h.aW h.a5 h.a2 h.aZ h.Next m g2 =
  some (((),(),()),((),k.ba,k.a8,k.Fields,k.Names,k.a9,(),()),(h.Words,h.aL,h.aW,h.a5,h.a2,h.aZ,h.Next,()),m,g2++iy k h.Words a.toNat n i,()):=by
 obtain ⟨f1,f2,f3⟩:=g.l.fit g.s a aK
 have FY:=g.s.gk
 have auc:=g.l.af4 a aK
 have asv:a=(a.toNat:Int):=by omega
 obtain ⟨aO,aq⟩:=auc
 have abW:wd h.Words (a.toNat+ 1)=(n:Int):=by
  have:=(tF.1 aq).1.1
  omega
 intro d
 induction d with
 | zero=>
   intro i f g2 hi af ao
   obtain ⟨f,rfl⟩:∃ b7,f=b7+ 1 :=⟨f - 1,by omega⟩
   have:i=n:=by omega
   subst this
   rw [vW,bM,cond_false,afn,List.append_nil]
 | succ d bq=>
   intro i f g2 hi af ao
   obtain ⟨f,rfl⟩:∃ b7,f=b7+ 1 :=⟨f - 1,by omega⟩
   have fN:i <n:=by omega
   have at0:tj (b'.mk (aU.mk k.ba k.a8 k.Fields k.Names k.a9)) (wd h.Words a.toNat) (i:Int)=some (h4 k (wd h.Words a.toNat) i):=afN g.r4 aO aq (by omega)
   rw [vW,bN fN,cond_true,nv asv (by omega),Option.bind_some,at0,Option.bind_some,afq fN]
   cases aE:h4 k (wd h.Words a.toNat) i with
   | false=>
     rw [cond_false,eP fN (by omega)]
     exact (bq (i+ 1) f g2 (by omega) (by omega) (by omega)).trans (by simp)
   | true=>
     have gS:idx h.Words (aA (aA (a+ 3)+(i:Int)))=some (wd h.Words (a.toNat+ 3 +i)):=auB f1 (by omega) (by omega)
     have zy:bK 8 g2 [wd h.Words (a.toNat+ 3 +i)]=some (g2++[wd h.Words (a.toNat+ 3 +i)]):=by
      unfold bK
      rw [if_pos (by simp only [List.length_singleton];omega)]
     rw [cond_true,gS,Option.bind_some,zy,Option.bind_some,eP fN (by omega)]
     exact (bq (i+ 1) f _ (by omega) (by omega) (by simp;omega)).trans (by simp)
end
end Go.Proofs.YteeliipnilghaaaGreat
namespace Go.Proofs.YteeliipnilghaaaGreat
open J
def sz (W:List Int) (a:Int):Nat:=3 +(wd W (a.toNat+ 1)).toNat
def news (W:List Int):Nat->List Int->List Int
 | _,[]=>[]
 | t,a::r=>(t:Int)::news W (t+sz W a) r
def Hz (W:List Int):Nat->List Int->Nat
 | t,[]=>t
 | t,a::r=>Hz W (t+sz W a) r
def pos:List Int->Int->Option Nat
 | [],_=>none
 | b::r,a=>if b=a then some 0 else (pos r a).map (· + 1)
def uH (o dP:List Int) (a:Int):Int:=if a= 0 then a else match pos o a with
 | some j=>(dP[j]?).getD 0
 | none=>a
end Go.Proofs.YteeliipnilghaaaGreat
namespace Go.Proofs.YteeliipnilghaaaGreat
open J
def nA (A:List Int):List (Int × Bool):=A.map fun a=>(a,true)
theorem acG {x:Int}:∀ {A:List Int},x ∉ A->hg (nA A) x true=nA (A++[x])
 | [],_=>rfl
 | a::r,h=>by
   have I:a≠x:=fun e=>h (by simp [e])
   have aa:x ∉ r:=fun e=>h (by simp [e])
   show hg ((a,true)::nA r) x true=(a,true)::nA (r++[x])
   rw [hg,if_neg I,acG aa]
theorem au9 {x:Int} {A:List Int}:(dI (nA A) x).getD false=decide (x ∈ A):=K9 x A
def jU (W:List Int) (A:List Int):List Int->Nat
 | []=>0
 | a::r=>(if a ∈ A then 0 else sz W a)+jU W A r
theorem adD {W A:List Int} {x:Int}:∀ {S:List Int},jU W (A++[x]) S<=jU W A S
 | []=>Nat.le_refl _
 | a::r=>by
   have:=adD (W:=W) (A:=A) (x:=x) (S:=r)
   unfold jU
   by_cases h:a ∈ A
   · rw [if_pos h,if_pos (by simp [h])];omega
   · rw [if_neg h];split <;> omega
theorem adE {W A:List Int} {x:Int} (ad:x ∉ A):∀ {S:List Int},x ∈ S->jU W (A++[x]) S+sz W x<=jU W A S
 | [],h=>by simp at h
 | a::r,h=>by
   unfold jU
   by_cases e:a=x
   · subst e
     have:=adD (W:=W) (A:=A) (x:=a) (S:=r)
     rw [if_pos (by simp),if_neg ad]
     omega
   · have aa:x ∈ r:=(List.mem_cons.1 h).resolve_left fun h=>e h.symm
     have:=adE (W:=W) ad aa
     by_cases aK:a ∈ A
     · rw [if_pos aK,if_pos (by simp [aK])];omega
     · rw [if_neg aK,if_neg (by simp [aK,e])];omega
theorem adF {W:List Int}:∀ {S:List Int} {t:Nat},Hz W t S=t+jU W [] S
 | [],t=>rfl
 | a::r,t=>by
   unfold Hz jU
   rw [adF (S:=r),if_neg (by simp)]
   omega
structure anT (k:aU) (W S A g2 cj:List Int):Prop where
 w8:cj.Nodup
 sub:∀ a ∈ cj,a ∈ S
 fB:(∀ a ∈ A,∀ v ∈ jz k W a,v≠ 0 ->v ∈ A\/v ∈ g2)->(∀ a ∈ cj,∀ v ∈ jz k W a,v≠ 0 ->v ∈ cj)
 rt:(∀ a ∈ A,a ∈ cj)/\ ∀ v ∈ g2,v≠ 0 ->v ∈ cj
 ga:∀ P:Int->Prop,(∀ a,P a-> ∀ v ∈ jz k W a,v≠ 0 ->P v)->(∀ a ∈ A,P a)->(∀ v ∈ g2,v≠ 0 ->P v)-> ∀ a ∈ cj,P a
section
variable {F:Nat} {h:aY} {k:aU} {Y O:List Int}
theorem aBu {W:List Int} {a:Int}:(jz k W a).length+ 3 <=sz W a:=by
 have:=afo (k:=k) (W:=W) (a:=a.toNat) (n:=(wd W (a.toNat+ 1)).toNat) (d:=(wd W (a.toNat+ 1)).toNat) (i:=0) (by omega)
 rw [afp] at this
 unfold sz
 omega
set_option maxHeartbeats 1000000
theorem awV (aD:10000 <F) (g:J.Good F h k Y O):∀ (N f:Nat) (A g2:List Int),g2.length+jU h.Words A (Y++O)<=N->N <f->N<= 100000 ->A.Nodup->(∀ a ∈ A,a ∈ Y++O)->(∀ v ∈ g2,v= 0 \/v ∈ Y++O) ->
 ∃ cj,sZ F f k.ba k.a8 k.Fields k.Names k.a9 h.Words h.aL h.aW h.a5 h.a2 h.aZ h.Next (nA A) g2 =
   some ((),((),k.ba,k.a8,k.Fields,k.Names,k.a9,(),()),(h.Words,h.aL,h.aW,h.a5,h.a2,h.aZ,h.Next,()),nA cj,[],())/\anT k h.Words (Y++O) A g2 cj:=by
 intro N
 induction N with
 | zero=>
   intro f A g2 nj af _ dl ao eZ
   obtain ⟨f,rfl⟩:∃ b7,f=b7+ 1 :=⟨f - 1,by omega⟩
   obtain rfl:g2= []:=List.eq_nil_of_length_eq_zero (by omega)
   exact ⟨A,by rw [sZ];rfl,dl,ao,fun hc a aK v ah aQ=>(hc a aK v ah aQ).elim id fun h=>by simp at h,⟨fun a h=>h,fun v ah=>by simp at ah⟩,fun P _ aa _=>aa⟩
 | succ N bq=>
   intro f A g2 nj af aGT dl ao eZ
   obtain ⟨f,rfl⟩:∃ b7,f=b7+ 1 :=⟨f - 1,by omega⟩
   rcases List.eq_nil_or_concat g2 with rfl | ⟨jY,x,rfl⟩
   · exact ⟨A,by rw [sZ];rfl,dl,ao,fun hc a aK v ah aQ=>(hc a aK v ah aQ).elim id fun h=>by simp at h,⟨fun a h=>h,fun v ah=>by simp at ah⟩,fun P _ aa _=>aa⟩
   · have hlen:(jY++[x]).length=jY.length+ 1 :=by simp
     rw [List.concat_eq_append] at nj eZ ⊢
     rw [hlen] at nj
     have ak:decide (0 <(((jY++[x]).length:Nat):Int))=true:=decide_eq_true (by rw [hlen];omega)
     have al:aA ((((jY++[x]).length:Nat):Int) - 1)=((jY.length:Nat):Int):=by rw [hlen,dt (by omega) (by omega)];omega
     have ad:(jY++[x])[jY.length]? =some x:=by simp
     have aV:(if (0 :Int)<= 0 /\ 0 <=((jY.length:Nat):Int)/\((jY.length:Nat):Int)<=(((jY++[x]).length:Nat):Int) then some () else none)=some ():=if_pos ⟨by omega,by omega,by rw [hlen];omega⟩
     have bS:List.take (((jY.length:Nat):Int)).toNat (jY++[x])=jY:=by rw [Int.toNat_natCast];simp
     have R_:x= 0 \/x ∈ Y++O:=eZ x (by simp)
     have ab':∀ v ∈ jY,v= 0 \/v ∈ Y++O:=fun v ah=>eZ v (by simp [ah])
     rw [sZ,ak,cond_true,al,bw ad,Option.bind_some,aV,Option.bind_some,bS,au9]
     clear al
     by_cases hc:x= 0 \/x ∈ A
     · have:(decide (x= 0) || decide (x ∈ A))=true:=by
        rcases hc with h | h
        · rw [decide_eq_true h];rfl
        · rw [decide_eq_true h,Bool.or_true]
       rw [this,cond_true]
       obtain ⟨cj,bk,bF⟩:=bq f A jY (by omega) (by omega) (by omega) dl ao ab'
       refine ⟨cj,bk,bF.w8,bF.sub,fun hB=>bF.fB fun a aK v ah aQ=>?_,⟨bF.rt.1,fun v ah aQ=>?_⟩,fun P dF fF hk=>bF.ga P dF fF fun v ah=>hk v (by simp [ah])⟩
       · rcases hB a aK v ah aQ with h | h
         · exact .inl h
         · rcases List.mem_append.1 h with h | h
           · exact .inr h
           · cases List.mem_singleton.1 h
             exact .inl (hc.resolve_left aQ)
       · rcases List.mem_append.1 ah with h | h
         · exact bF.rt.2 v h aQ
         · cases List.mem_singleton.1 h
           exact bF.rt.1 _ (hc.resolve_left aQ)
     · have RV:x≠ 0 :=fun e=>hc (.inl e)
       have Kz:x ∉ A:=fun e=>hc (.inr e)
       have CJ:=R_.resolve_left RV
       rw [decide_eq_false RV,decide_eq_false Kz,Bool.or_self,cond_false,acG Kz]
       obtain ⟨f1,f2,_⟩:=g.l.fit g.s x CJ
       have FY:=g.s.gk
       obtain ⟨n,aJ⟩:∃ n,n=(wd h.Words (x.toNat+ 1)).toNat:=⟨_,rfl⟩
       have abW:wd h.Words (x.toNat+ 1)=(n:Int):=by
        have:=(tF.1 (g.l.af4 x CJ).2).1.1
        omega
       have atk:idx h.Words (aA (x+ 1))=some (n:Int):=by
        have e:aA (x+ 1)=((x.toNat+ 1 :Nat):Int):=by rw [dt (by omega) (by omega)];omega
        rw [e,jv (by omega),abW]
       rw [atk,Option.bind_some]
       have hm:=awW aD g CJ (m:=nA (A++[x])) aJ n 0 F jY (by omega) (by omega) (by omega)
       have dH:vW F F x (n:Int) 0 k.ba k.a8 k.Fields k.Names k.a9 h.Words h.aL h.aW h.a5 h.a2 h.aZ h.Next (nA (A++[x])) jY=_:=hm
       rw [dH,Option.bind_some,aJ,afp]
       have atC:=adE (W:=h.Words) Kz CJ
       have CG:=aBu (k:=k) (W:=h.Words) (a:=x)
       obtain ⟨cj,bk,bF⟩:=bq f (A++[x]) (jY++jz k h.Words x) (by rw [List.length_append];omega) (by omega) (by omega) (List.nodup_append.2 ⟨dl,by simp,fun a aK b ag e=>by cases List.mem_singleton.1 ag;exact Kz (e ▸ aK)⟩)
        (fun a aK=>(List.mem_append.1 aK).elim (ao a) fun h=>by cases List.mem_singleton.1 h;exact CJ)
        (fun v ah=>(List.mem_append.1 ah).elim (ab' v) fun h=>Mi g CJ v h)
       refine ⟨cj,bk,bF.w8,bF.sub,fun hB=>bF.fB fun a aK v ah aQ=>?_,⟨fun a aK=>bF.rt.1 a (by simp [aK]),fun v ah aQ=>?_⟩,fun P dF fF hk=>?_⟩
       · rcases List.mem_append.1 aK with aK | aK
         · rcases hB a aK v ah aQ with h | h
           · exact .inl (by simp [h])
           · rcases List.mem_append.1 h with h | h
             · exact .inr (by simp [h])
             · exact .inl (by simp [List.mem_singleton.1 h])
         · cases List.mem_singleton.1 aK
           exact .inr (by simp [ah])
       · rcases List.mem_append.1 ah with h | h
         · exact bF.rt.2 v (by simp [h]) aQ
         · exact bF.rt.1 v (by simp [List.mem_singleton.1 h])
       · have abx:P x:=hk x (by simp) RV
         refine bF.ga P dF (fun a aK=>?_) fun v ah aQ=>?_
         · rcases List.mem_append.1 aK with h | h
           · exact fF a h
           · cases List.mem_singleton.1 h;exact abx
         · rcases List.mem_append.1 ah with h | h
           · exact hk v (by simp [h]) aQ
           · exact dF x abx v h aQ
end
end Go.Proofs.YteeliipnilghaaaGreat
namespace Go.Proofs.YteeliipnilghaaaGreat
open J bn
theorem adC {W A:List Int}:∀ {l m:List Int},jU W A (l++m)=jU W A l+jU W A m
 | [],m=>by simp [jU]
 | a::r,m=>by
   show (if a ∈ A then 0 else sz W a)+jU W A (r++m)=(if a ∈ A then 0 else sz W a)+jU W A r+jU W A m
   rw [adC (l:=r)]
   omega
theorem agE {k:aU} {W:List Int} {to q:Nat} {L:List Int} (h:J.fw k W to q L):Hz W q L=to:=by
 induction h with
 | nil=>rfl
 | @cons q r _ _ _ _ bq=>
   show Hz W (q+sz W (q:Int)) r=to
   rw [show q+sz W (q:Int)=q+ 3 +(wd W (q+ 1)).toNat by unfold sz;rw [Int.toNat_natCast];omega]
   exact bq
theorem afZ {W:List Int}:∀ {l:List Int} {n:Int},(∀ a ∈ l,∃ v,idx W (aA (a+ 1))=some v)-> ∃ m,jB W l n=some m
 | [],n,_=>⟨n,rfl⟩
 | a::r,n,h=>by
   obtain ⟨v,ah⟩:=h a (by simp)
   obtain ⟨m,hm⟩:=afZ (l:=r) (n:=aA (n+aA (3 +v))) fun b ag=>h b (by simp [ag])
   exact ⟨m,by rw [jB,ah,Option.bind_some,hm]⟩
section
variable {F:Nat} {h:aY} {k:aU} {Y O:List Int}
theorem axa (g:J.Good F h k Y O):jU h.Words [] (Y++O)<= 4001 :=by
 have I:=agE g.l.y
 have aa:=agE g.l.o
 rw [adF] at I aa
 rw [adC]
 have bO:(h.Words.length:Int)= 1 +h.aL+h.aW:=g.s.B
 obtain ⟨⟨c1,c2⟩,⟨c3,c4⟩,_⟩:=g.s.C
 obtain ⟨⟨cC,_⟩,dX,_⟩:=g.s.A
 have:=g.s.gk
 omega
theorem awX (aD:10000 <F) (g:J.Good F h k Y O) {roots:List Int} (aq:roots.length<= 5000) (aE:∀ a ∈ roots,a= 0 \/a ∈ Y++O) :
 ∃ A,A.Perm (qk k h Y O roots)/\A.Nodup/\(∀ a ∈ A,a ∈ Y++O)/\E1 F roots k.ba k.a8 k.Fields k.Names k.a9 h.Words h.aL h.aW h.a5 h.a2 h.aZ h.Next [] =
   some ((),((),k.ba,k.a8,k.Fields,k.Names,k.a9,(),()),(h.Words,h.aL,h.aW,h.a5,h.a2,h.aZ,h.Next,()),nA A,()):=by
 have atC:=axa g
 obtain ⟨A,bk,bF⟩:=awV aD g (roots.length+ 4001) F [] roots (by omega) (by omega) (by omega) List.nodup_nil (fun a aK=>by simp at aK) aE
 have hB:=aAV g aE
 have atK:=afi g aE
 refine ⟨A,(List.perm_ext_iff_of_nodup bF.w8 atK.w8).2 fun a=>⟨fun aK=>?_,fun aK=>?_⟩,bF.w8,bF.sub,?_⟩
 · exact bF.ga _ hB.g2 (fun a aK=>by simp at aK) hB.rt a aK
 · exact aAX (P:=fun a=>a ∈ A) ⟨bF.rt.2,bF.fB fun a aK=>by simp at aK⟩ a aK
 · unfold E1
   have zy:bK 8 [] roots=some roots:=by
    unfold bK
    rw [if_pos (by simp;omega)]
    rfl
   have ayD:sZ F F k.ba k.a8 k.Fields k.Names k.a9 h.Words h.aL h.aW h.a5 h.a2 h.aZ h.Next [] roots=_:=bk
   rw [zy,Option.bind_some,ayD,Option.bind_some]
theorem auA (g:J.Good F h k Y O) {a:Int} (aK:a ∈ Y++O):∃ v,idx h.Words (aA (a+ 1))=some v:=by
 obtain ⟨f1,f2,_⟩:=g.l.fit g.s a aK
 have FY:=g.s.gk
 have e:aA (a+ 1)=((a.toNat+ 1 :Nat):Int):=by rw [dt (by omega) (by omega)];omega
 rw [e]
 exact ⟨_,jv (by omega)⟩
theorem awG {l:List Int} (aq:l.length<= 140737488355328):∀ (d i f:Nat) (n:Int),i+d=l.length->d <f ->
 yW F f l n (i:Int) h.Words h.aL h.aW h.a5 h.a2 h.aZ h.Next=(jB h.Words (l.drop i) n).map fun m=>((m,()),(h.Words,h.aL,h.aW,h.a5,h.a2,h.aZ,h.Next,()),()):=by
 intro d
 induction d with
 | zero=>
   intro i f n hi af
   obtain ⟨f,rfl⟩:∃ b7,f=b7+ 1 :=⟨f - 1,by omega⟩
   have:i=l.length:=by omega
   subst this
   rw [yW,bM,cond_false,List.drop_length]
   rfl
 | succ d bq=>
   intro i f n hi af
   obtain ⟨f,rfl⟩:∃ b7,f=b7+ 1 :=⟨f - 1,by omega⟩
   have c':i <l.length:=by omega
   have ad:l[i]? =some l[i]:=List.getElem?_eq_getElem c'
   rw [yW,bN c',cond_true,bw ad,Option.bind_some,List.drop_eq_getElem_cons c',jB]
   cases ah:idx h.Words (aA (l[i]+ 1)) with
   | none=>rfl
   | some v=>
     rw [Option.bind_some,Option.bind_some,eP c' aq]
     exact bq (i+ 1) f _ (by omega) (by omega)
theorem awH (aD:10000 <F) (g:J.Good F h k Y O) {roots:List Int} (aq:roots.length<= 5000) (aE:∀ a ∈ roots,a= 0 \/a ∈ Y++O) :
 ∃ m A,A.Perm (qk k h Y O roots)/\A.Nodup/\(∀ a ∈ A,a ∈ Y++O)/\jB h.Words A 0 =some m /\
   E1 F roots k.ba k.a8 k.Fields k.Names k.a9 h.Words h.aL h.aW h.a5 h.a2 h.aZ h.Next [] =
    some ((),((),k.ba,k.a8,k.Fields,k.Names,k.a9,(),()),(h.Words,h.aL,h.aW,h.a5,h.a2,h.aZ,h.Next,()),nA A,()) /\
   J4 h.Words (nA A)=some m/\EA F h.Words h.aL h.aW h.a5 h.a2 h.aZ h.Next k.ba k.a8 k.Fields k.Names k.a9 roots=some ((m,()),()):=by
 obtain ⟨A,dF,fF,hk,jV⟩:=awX aD g aq aE
 obtain ⟨m,hm⟩:=afZ (W:=h.Words) (l:=A) (n:=0) fun a aK=>auA g (hk a aK)
 have wg:jB h.Words (qk k h Y O roots) 0 =some m:=by rw [<-af0 dF];exact hm
 refine ⟨m,A,dF,fF,hk,hm,jV,?_,?_⟩
 · unfold J4 nA
   rw [List.map_map]
   have:(Prod.fst ∘ fun a:Int=>(a,true))=id:=rfl
   rw [this,List.map_id]
   exact hm
 · unfold EA
   rw [aAW aD g aq aE,Option.bind_some]
   have hlen:=(afi g aE).len
   have fk:=Pb g
   have e:=awG (F:=F) (h:=h) (l:=qk k h Y O roots) (by omega) (qk k h Y O roots).length 0 F 0 (by omega) (by omega)
   rw [List.drop_zero,wg] at e
   have e':yW F F (qk k h Y O roots) 0 0 h.Words h.aL h.aW h.a5 h.a2 h.aZ h.Next=_:=e
   dsimp only
   rw [e']
   rfl
end
end Go.Proofs.YteeliipnilghaaaGreat
namespace J
section
variable {F:Nat} {k:aU} {h:aY} {Y O:List Int}
theorem aBQ (aD:10000 <F) (g:Good F h k Y O):pk F h k=some (Y,O,true):=by
 rcases aeX (F:=F) (by omega) g.r4 g.s with ⟨EF,BD,aq,e⟩ | ⟨iV,_⟩
 · obtain rfl:=aq.y.xB g.l.y
   obtain rfl:=aq.o.xB g.l.o
   exact e
 · exact absurd g.l (iV _ _)
def vC (Y O:List Int) (a:Int):Bool:=!decide (a= 0) && !decide (a ∈ Y++O)
def mU (Y O roots:List Int):Int:=if 1000 <(roots.length:Int) then 2 else if roots.any (vC Y O) then 5 else 0
theorem aA9 (aD:10000 <F) (g:Good F h k Y O) (roots:List Int):Bs F (view h k Y O) roots=some (mU Y O roots):=by
 unfold Bs mU
 by_cases aq:1000 <(roots.length:Int)
 · rw [decide_eq_true aq,if_pos aq];rfl
 · rw [decide_eq_false aq,if_neg aq,cond_false]
   unfold Mq Mu
   have af:=P2 (l:=roots) (L:=xw roots (view h k Y O)) (vC Y O) (by omega) (fun f i x ad=>by
    rw [xw,bN (List.getElem?_eq_some_iff.1 ad).1,cond_true,bw ad,Option.bind_some]
    unfold NS vC
    by_cases aQ:x= 0
    · rw [decide_eq_true aQ];rfl
    · rw [decide_eq_false aQ,Bool.not_false,cond_true,Bool.true_and]
      show Option.bind (Option.bind (Cr (view h k Y O) x) _) _=_
      rw [g.dE x]
      rfl) (fun f=>by rw [xw,bM];rfl) (F:=F) (by omega)
   refine Eq.trans (congrArg (fun o=>Option.bind o fun (r:Bool)=>cond r (some (5 :Int)) (some 0)) (af:_)) ?_
   rw [Option.bind_some]
   cases roots.any (vC Y O) <;> rfl
theorem aA8 (aD:10000 <F) (g:Good F h k Y O) (roots:List Int):vn F h k roots=some (mU Y O roots):=by
 have hc:Y.length+O.length<= 5000 :=(g.l.qv g.r4 g.s).py
 unfold vn mU
 by_cases aq:1000 <(roots.length:Int)
 · rw [decide_eq_true aq,if_pos aq];rfl
 · rw [decide_eq_false aq,if_neg aq,cond_false]
   have ak:pk F (⟨h.Words,h.aL,h.aW,h.a5,h.a2,h.aZ,h.Next⟩:aY) (⟨k.ba,k.a8,k.Fields,k.Names,k.a9⟩:aU)=_:=aBQ aD g
   rw [ak,Option.bind_some]
   have c0:n9 F roots (Y,O,true) F 0 =some (cr (roots.findSome? fun a=>if vC Y O a then some 5 else none)):=each _ (by omega) (fun f i x ad=>by
    rw [n9,bN (List.getElem?_eq_some_iff.1 ad).1,cond_true,bw ad,Option.bind_some,Option.bind_some]
    rw [show j6 F (Y,O,true).1 x=some (decide (x ∈ Y)) from Di (l:=Y) ⟨by omega,by omega⟩ x,Option.bind_some,Option.bind_some]
    rw [show j6 F (Y,O,true).2.1 x=some (decide (x ∈ O)) from Di (l:=O) ⟨by omega,by omega⟩ x,Option.bind_some]
    unfold vC
    by_cases aQ:x= 0
    · rw [decide_eq_true aQ];rfl
    · by_cases hy:x ∈ Y <;> by_cases av:x ∈ O <;> simp [aQ,hy,av,gC]) (fun f=>by rw [n9,bM];rfl) (by omega)
   rw [c0,Qb]
   cases roots.any (vC Y O) <;> rfl
theorem ayd (aD:10000 <F) (g:Good F h k Y O) (roots:List Int) (he:n_ F h k=some 0):qN F h k roots=some (mU Y O roots):=by
 unfold qN
 have ak:n_ F (⟨h.Words,h.aL,h.aW,h.a5,h.a2,h.aZ,h.Next⟩:aY) (⟨k.ba,k.a8,k.Fields,k.Names,k.a9⟩:aU)=_:=he
 have al:vn F (⟨h.Words,h.aL,h.aW,h.a5,h.a2,h.aZ,h.Next⟩:aY) (⟨k.ba,k.a8,k.Fields,k.Names,k.a9⟩:aU) roots=_:=aA8 aD g roots
 rw [ak,Option.bind_some,al]
 rfl
theorem aye {e:Int} (roots:List Int) (he:n_ F h k=some e) (aQ:e≠ 0):qN F h k roots=some e:=by
 unfold qN
 have ak:n_ F (⟨h.Words,h.aL,h.aW,h.a5,h.a2,h.aZ,h.Next⟩:aY) (⟨k.ba,k.a8,k.Fields,k.Names,k.a9⟩:aU)=_:=he
 rw [ak,Option.bind_some,decide_eq_false aQ]
 rfl
theorem aA7 {roots:List Int} (h:mU Y O roots= 0):roots.length<= 1000 /\ ∀ a ∈ roots,a= 0 \/a ∈ Y++O:=by
 unfold mU at h
 split at h
 · cases h
 · rename_i I
   split at h
   · cases h
   · rename_i aa
     refine ⟨by omega,fun a aK=>?_⟩
     have:=List.any_eq_false.1 (Bool.eq_false_iff.2 aa) a aK
     unfold vC at this
     by_cases aQ:a= 0
     · exact .inl aQ
     · by_cases hm:a ∈ Y++O
       · exact .inr hm
       · simp only [Bool.and_eq_true,Bool.not_eq_true',decide_eq_false_iff_not] at this
         exact absurd ⟨aQ,hm⟩ this
end
end J
namespace Go.Proofs.YteeliipnilghaaaGreat
open J
section
variable {F:Nat} {h:aY} {k:aU} {Y O:List Int}
theorem Yu {out:List Int} {x:Int} (av:out.length<= 1000000):bK 8 out [x]=some (out++[x]):=by
 unfold bK
 rw [if_pos (by simp only [List.length_singleton];omega)]
theorem ayq {l:List Int} (aq:l.length<= 5000):∀ (d i f:Nat) (out:List Int),i+d=l.length->d <f->out.length=i ->
 Br F f l (l.length:Int) (i:Int) out=some (((),()),out++l.drop i,()):=by
 intro d
 induction d with
 | zero=>
   intro i f out hi af av
   obtain ⟨f,rfl⟩:∃ b7,f=b7+ 1 :=⟨f - 1,by omega⟩
   have:i=l.length:=by omega
   subst this
   rw [Br,bM,cond_false,List.drop_length,List.append_nil]
 | succ d bq=>
   intro i f out hi af av
   obtain ⟨f,rfl⟩:∃ b7,f=b7+ 1 :=⟨f - 1,by omega⟩
   have c':i <l.length:=by omega
   have ad:l[i]? =some l[i]:=List.getElem?_eq_getElem c'
   rw [Br,bN c',cond_true,bw ad,Option.bind_some,Yu (by omega),Option.bind_some,eP c' (by omega)]
   refine (bq (i+ 1) f _ (by omega) (by omega) (by simp [av])).trans ?_
   rw [List.drop_eq_getElem_cons c',List.append_assoc,List.singleton_append]
theorem ayr (aD:10000 <F) {l:List Int} (aq:l.length<= 5000):NR F l=some ((l,()),()):=by
 unfold NR
 have e:=ayq (F:=F) aq l.length 0 F [] (by omega) (by omega) rfl
 rw [List.drop_zero,List.nil_append] at e
 have e':Br F F l (l.length:Int) 0 []=_:=e
 rw [e',Option.bind_some]
theorem aCb {l:List Int} (aq:l.length<= 5000):∀ (d i f:Nat) (out:List Int),i+d=l.length->d <f->out.length=i ->
 zs F f l (l.length:Int) (i:Int) out=some (((),()),out++l.drop i,()):=by
 intro d
 induction d with
 | zero=>
   intro i f out hi af av
   obtain ⟨f,rfl⟩:∃ b7,f=b7+ 1 :=⟨f - 1,by omega⟩
   have:i=l.length:=by omega
   subst this
   rw [zs,bM,cond_false,List.drop_length,List.append_nil]
 | succ d bq=>
   intro i f out hi af av
   obtain ⟨f,rfl⟩:∃ b7,f=b7+ 1 :=⟨f - 1,by omega⟩
   have c':i <l.length:=by omega
   have ad:l[i]? =some l[i]:=List.getElem?_eq_getElem c'
   rw [zs,bN c',cond_true,bw ad,Option.bind_some,Yu (by omega),Option.bind_some,eP c' (by omega)]
   refine (bq (i+ 1) f _ (by omega) (by omega) (by simp [av])).trans ?_
   rw [List.drop_eq_getElem_cons c',List.append_assoc,List.singleton_append]
theorem aCc (aD:10000 <F) {l:List Int} (aq:l.length<= 5000):J3 F l=some ((l,()),()):=by
 unfold J3
 have e:=aCb (F:=F) aq l.length 0 F [] (by omega) (by omega) rfl
 rw [List.drop_zero,List.nil_append] at e
 have e':zs F F l (l.length:Int) 0 []=_:=e
 rw [e',Option.bind_some]
theorem aaS (aD:10000 <F) (g:J.Good F h k Y O) (roots:List Int) :
 Ch F h.Words h.aL h.aW h.a5 h.a2 h.aZ h.Next k.ba k.a8 k.Fields k.Names k.a9 roots =
  some (.inl (((),mU Y O roots,()),(h.Words,h.aL,h.aW,h.a5,h.a2,h.aZ,h.Next,k.ba,k.a8,k.Fields,k.Names,k.a9,Y,O,(),()),(Y++O).map (fun a=>(a,true)),())):=by
 have pB:jO F (⟨h.Words,h.aL,h.aW,h.a5,h.a2,h.aZ,h.Next⟩:aY) (⟨k.ba,k.a8,k.Fields,k.Names,k.a9⟩:aU)=_:=g.open aD
 have aqI:Bs F (⟨⟨h.Words,h.aL,h.aW,h.a5,h.a2,h.aZ,h.Next⟩,⟨⟨k.ba,k.a8,k.Fields,k.Names,k.a9⟩⟩,Y,O,(Y++O).map fun a=>(a,true)⟩:bd) roots=_:=aA9 aD g roots
 unfold Ch
 rw [pB]
 dsimp only [jc,dr,view]
 rw [decide_eq_true (rfl:(0 :Int)= 0),cond_true,aqI,Option.bind_some]
theorem arr {roots:List Int} {r:Option bd × Int} (e:jO F h k=some r) (I:r.1 =none) (aa:r.2 ≠ 0) :
 Ch F h.Words h.aL h.aW h.a5 h.a2 h.aZ h.Next k.ba k.a8 k.Fields k.Names k.a9 roots=some (.inr (((),r.2,()),())):=by
 have pB:jO F (⟨h.Words,h.aL,h.aW,h.a5,h.a2,h.aZ,h.Next⟩:aY) (⟨k.ba,k.a8,k.Fields,k.Names,k.a9⟩:aU)=_:=e
 obtain ⟨cD,dM⟩:=r
 obtain rfl:cD=none:=I
 have aa:dM≠ 0 :=aa
 unfold Ch
 rw [pB]
 dsimp only [jc,dr]
 rw [decide_eq_false aa,cond_false]
theorem arl {roots:List Int} {r:Option bd × Int} (e:jO F h k=some r) (I:r.1 =none) (aa:r.2 ≠ 0) :
 vV F h.Words h.aL h.aW h.a5 h.a2 h.aZ h.Next k.ba k.a8 k.Fields k.Names k.a9 roots=some ((0,r.2,()),()):=by
 unfold vV
 rw [arr e I aa]
 dsimp only [dr]
 rw [decide_eq_false aa,Bool.not_false,cond_true]
theorem arn (aD:10000 <F) (g:J.Good F h k Y O) {roots:List Int} (aE:mU Y O roots≠ 0) :
 vV F h.Words h.aL h.aW h.a5 h.a2 h.aZ h.Next k.ba k.a8 k.Fields k.Names k.a9 roots=some ((0,mU Y O roots,()),()):=by
 unfold vV
 rw [aaS aD g]
 dsimp only [dr]
 rw [decide_eq_false aE,Bool.not_false,cond_true]
theorem arm (aD:10000 <F) (g:J.Good F h k Y O) {roots:List Int} (aE:mU Y O roots= 0) :
 ∃ m,vV F h.Words h.aL h.aW h.a5 h.a2 h.aZ h.Next k.ba k.a8 k.Fields k.Names k.a9 roots=some ((m,0,()),()) /\
   EA F h.Words h.aL h.aW h.a5 h.a2 h.aZ h.Next k.ba k.a8 k.Fields k.Names k.a9 roots=some ((m,()),()):=by
 obtain ⟨cD,dM⟩:=aA7 aE
 obtain ⟨m,A,_,_,_,_,bk,bF,b1⟩:=awH aD g (by omega) dM
 refine ⟨m,?_,b1⟩
 unfold vV
 rw [aaS aD g]
 dsimp only [dr]
 rw [aE,decide_eq_true (rfl:(0 :Int)= 0),Bool.not_true,cond_false,ayr aD (by omega),Option.bind_some]
 unfold Qf
 dsimp only
 rw [aCc aD (by omega),Option.bind_some]
 dsimp only
 rw [bk,Option.bind_some,Option.bind_some]
 dsimp only
 rw [bF,Option.bind_some,Option.bind_some]
end
end Go.Proofs.YteeliipnilghaaaGreat
namespace Go.Proofs.YteeliipnilghaaaGreat
open J
theorem ays (h:aY) (aQ:Yd Go.reachBytes h) (k:aU) (I:IZ Go.reachBytes k) (roots:List Int) (_:roots.length* 8 <=Go.reachBytes/\ ∀ x ∈ roots,au.iQ x) :
 ∃ F,IX F h.Words h.aL h.aW h.a5 h.a2 h.aZ h.Next k.ba k.a8 k.Fields k.Names k.a9 roots=some ((true,()),()):=by
 refine ⟨140737488355940 + 60,?_⟩
 have aD:10000 < 140737488355940 + 60 :=by omega
 have zB:=aoJ I
 have aJ:Small (140737488355940 + 60) h.aZ.length:=nS 7 aQ.2.2.2.2.2.1.1
 generalize abr:(140737488355940 + 60 :Nat)=F at aD aJ ⊢
 have zB:∃ e,nC F k=some e/\sC F k=some e/\(e≠ 0 \/(e= 0 /\g7 k)):=by rw [<-abr];exact zB
 clear abr
 obtain ⟨r,ak,al,hc⟩:=ayb aD zB aJ aQ.2.2.2.2.2.2.2
 unfold IX
 rcases hc with ⟨c1,c2⟩ | ⟨Y,O,g,rfl⟩
 · have pB:qN F (⟨h.Words,h.aL,h.aW,h.a5,h.a2,h.aZ,h.Next⟩:aY) (⟨k.ba,k.a8,k.Fields,k.Names,k.a9⟩:aU) roots=_:=aye roots al c1
   rw [arl ak c2 c1,Option.bind_some,pB,Option.bind_some,decide_eq_false c1,cond_false]
   dsimp only
   rw [decide_eq_true (rfl:r.2 =r.2),decide_eq_true (rfl:(0 :Int)= 0)]
   rfl
 · have al:n_ F h k=some 0 :=al
   have pB:qN F (⟨h.Words,h.aL,h.aW,h.a5,h.a2,h.aZ,h.Next⟩:aY) (⟨k.ba,k.a8,k.Fields,k.Names,k.a9⟩:aU) roots=_:=ayd aD g roots al
   by_cases aE:mU Y O roots= 0
   · obtain ⟨m,bk,bF⟩:=arm aD g aE
     rw [aE] at pB
     rw [bk,Option.bind_some,pB,Option.bind_some,decide_eq_true (rfl:(0 :Int)= 0),cond_true,bF,Option.bind_some]
     dsimp only
     rw [decide_eq_true (rfl:m=m)]
     rfl
   · rw [arn aD g aE,Option.bind_some,pB,Option.bind_some,decide_eq_false aE,cond_false]
     dsimp only
     rw [decide_eq_true (rfl:mU Y O roots=mU Y O roots),decide_eq_true (rfl:(0 :Int)= 0)]
     rfl
end Go.Proofs.YteeliipnilghaaaGreat
namespace Go.Proofs.YteeliipnilghaaaGreat.fullLives
open Go Go.ChangeShapes Go.WideShapes Go.ChangeAt Go.RowKit
theorem own:ownKnob Tryz.prog.godebug=none:=by kernel_rfl
set_option maxRecDepth 100000 in
theorem aoQ (H:Type) (enc:TypeId × Value->H) (W:World) (base:Nat) (args:Array Value) (ds gs:List (DataW H)) (before:List MemPlace)
 (rq:∀ (j:Nat) t v,Tryz.f6.params[j]? =some t->args[j]? =some v->Value.okWide Tryz.prog W .any base t v)
 (h3:DataW.Whole enc Tryz.prog Tryz.f6.params.toList Rows.fullLivesSpec.vars false W args.toList ds gs before) (KC:∀ n ∈ DataW.weightsEach Tryz.prog Tryz.f6.params.toList ds,n<=reachBytes) :
 Calls Tryz.prog 6 args W fun e jn=>∃ v,e= .returned v/\Rows.fullLivesSpec.post enc Tryz.prog Tryz.f6 false true false false W args v jn:=by
 have asp:=h3
 have bE:=h3.lt
 obtain ⟨p,q,arS,oq,CD,ov,ow⟩:=h3
 have dl:DataW.TrodAll enc Tryz.prog W 0 (fun _=>true) true Tryz.f6.params.toList args.toList ds p:=arS
 have d_:=KC
 rw [Tryz.params6] at dl rq d_
 obtain ⟨a1,aHx,d0,aGL,gL,aHq,Rj,rfl,rfl,aQ,aBZ⟩:=trodAll_cons dl
 obtain ⟨v1,aHy,d1,aGM,dF,bk,rfl,rfl,rfl,I,aB0⟩:=trodAll_cons aBZ
 obtain ⟨v2,aHz,d2,aGN,fF,bF,rfl,rfl,rfl,aa,aB1⟩:=trodAll_cons aB0
 obtain ⟨rfl,rfl,rfl⟩:=trodAll_nil aB1
 obtain rfl:args= #[a1,v1,v2]:=by cases args;simp_all
 obtain ⟨rfl,rfl⟩:=trodVars_none oq
 have aBf:=aAH (enc:=enc) (N:=reachBytes)
 have aBb:=au.O0 aBf aQ (fun x ad=>bE x (by subst CD;simp [ad]))
 have aBi:=aBb (fun m hm=>d_ m (by simp only [DataW.weightsEach,List.mem_append];simp [hm]))
 obtain ⟨d0,fS,hP⟩:=aBi
 obtain ⟨a1,rfl,_⟩:=okWide_struct Tryz.underlying24 (rq 0 24 a1 rfl rfl)
 obtain ⟨aGl,aGC,aGm,aGD,dg,ayB,ayC⟩:=fS
 obtain rfl:=au.Ym dg
 have aBg:=aAI (enc:=enc) (N:=reachBytes)
 have aBc:=au.O0 aBg I (fun x ad=>bE x (by subst CD;simp [ad]))
 have aBj:=aBc (fun m hm=>d_ m (by simp only [DataW.weightsEach,List.mem_append];simp [hm]))
 obtain ⟨d1,cD,bg⟩:=aBj
 obtain ⟨v1,rfl,_⟩:=okWide_struct Tryz.underlying30 (rq 1 30 v1 rfl rfl)
 obtain ⟨aGn,aGE,aGo,aGF,aGp,aGG,aGq,aGH,aGr,aGI,ak,ayI,ayJ,ayK,ayL,ayM⟩:=cD
 obtain rfl:=au.Ym ak
 have aBh:=L7 (enc:=enc) (N:=reachBytes)
 have aBd:=au.O0 aBh aa (fun x ad=>bE x (by subst CD;simp [ad]))
 have aBk:=aBd (fun m hm=>d_ m (by simp only [DataW.weightsEach,List.mem_append];simp [hm]))
 obtain ⟨d2,dM,bf⟩:=aBk
 obtain ⟨cQ,rM,c2,rfl⟩:=okWide_slice Tryz.underlying22 (rq 2 22 v2 rfl rfl)
 obtain ⟨c7,XZ,al⟩:=au.lV dM
 obtain ⟨rfl,rfl,rfl⟩:=Value.slice.inj (List.cons.inj al).1
 obtain ⟨F,aD⟩:=Go.Proofs.YteeliipnilghaaaGreat.ays d0 hP d1 bg d2 bf
 have v5:∀ k,au.hI [] W k->k <W.heap.size/\W.heap[k]? =W.heap[k]? :=fun k aj=>⟨aj.2,rfl⟩
 have fO:((SB F).run aH [.a [.s 3 d0.Words,.p (.int .i64 d0.aL),.p (.int .i64 d0.aW),.p (.int .i64 d0.a5),.p (.int .i64 d0.a2),.s 3 d0.aZ,.p (.int .i64 d0.Next)],.a [.s 134 d1.ba,.s 3 d1.a8,.s 124 d1.Fields,.s 120 d1.Names,.s 121 d1.a9],.s 3 d2] [])= .op (IX F d0.Words d0.aL d0.aW d0.a5 d0.a2 d0.aZ d0.Next d1.ba d1.a8 d1.Fields d1.Names d1.a9 d2) fun r=>.ok ⟨.ret (.p (.bool r.1.1)),[],[]⟩:=by kernel_rfl
 refine (bn.awv (E:=aH) rfl (aox F) (ys:=[.a [.s 3 d0.Words,.p (.int .i64 d0.aL),.p (.int .i64 d0.aW),.p (.int .i64 d0.a5),.p (.int .i64 d0.a2),.s 3 d0.aZ,.p (.int .i64 d0.Next)],.a [.s 134 d1.ba,.s 3 d1.a8,.s 124 d1.Fields,.s 120 d1.Names,.s 121 d1.a9],.s 3 d2]) (W:=W) (by rw [fO];exact ⟨((true,()),()),aD,rfl⟩) ⟨_,_,rfl,⟨_,rfl,_,_,rfl,bn.iB (fun _ _=>L6) ((au.b4 _).law v5 ayB),_,_,rfl,rfl,_,_,rfl,rfl,_,_,rfl,rfl,_,_,rfl,rfl,_,_,rfl,bn.iB (fun _ _=>L6) ((au.b4 _).law v5 ayC),_,_,rfl,rfl,rfl⟩,_,_,rfl,⟨_,rfl,_,_,rfl,bn.iB (fun _ _=>aAA) ((au.b4 _).law v5 ayI),_,_,rfl,bn.iB (fun _ _=>L6) ((au.b4 _).law v5 ayJ),_,_,rfl,bn.iB (fun _ _=>aAx) ((au.b4 _).law v5 ayK),_,_,rfl,bn.iB (fun _ _=>aAv) ((au.b4 _).law v5 ayL),_,_,rfl,bn.iB (fun _ _=>aAw) ((au.b4 _).law v5 ayM),rfl⟩,_,_,rfl,bn.iB (fun _ _=>L6) ((au.b4 _).law v5 dM),rfl⟩).mono fun e jn ⟨he,ah⟩=>?_
 exact ⟨_,he,au.ayu asp (by kernel_rfl) (by kernel_rfl) rfl rfl Tryz.underlying4 rfl ah⟩
theorem awt (os:Os):laidMet Tryz.prog Rows.fullLivesRow.laid ((World.holding Tryz.prog os ⟨#[],#[],[]⟩).forCall (fun _ _=>0) ⟨#[],#[.agg #[.slice none 0 0,.int .i64 0,.int .i64 0,.int .i64 0,.int .i64 0,.slice none 0 0,.int .i64 0],.agg #[.slice none 0 0,.slice none 0 0,.slice none 0 0,.slice none 0 0,.slice none 0 0],.slice none 0 0],[]⟩).memory:=
 laidMet_of_run' 8 (by kernel_rfl) (by kernel_rfl)
theorem reads (os:Os) {H:Type} (enc:TypeId × Value->H):∃ places,DataW.whole enc Tryz.prog ((World.holding Tryz.prog os ⟨#[],#[],[]⟩).forCall (fun _ _=>0) ⟨#[],#[.agg #[.slice none 0 0,.int .i64 0,.int .i64 0,.int .i64 0,.int .i64 0,.slice none 0 0,.int .i64 0],.agg #[.slice none 0 0,.slice none 0 0,.slice none 0 0,.slice none 0 0,.slice none 0 0],.slice none 0 0],[]⟩).memory Tryz.f6.params.toList Rows.fullLivesSpec.vars false (#[.agg #[.slice none 0 0,.int .i64 0,.int .i64 0,.int .i64 0,.int .i64 0,.slice none 0 0,.int .i64 0],.agg #[.slice none 0 0,.slice none 0 0,.slice none 0 0,.slice none 0 0,.slice none 0 0],.slice none 0 0]:Array Value).toList 8 =some ([.agg [.nil,.lit (.int .i64 0),.lit (.int .i64 0),.lit (.int .i64 0),.lit (.int .i64 0),.nil,.lit (.int .i64 0)],.agg [.nil,.nil,.nil,.nil,.nil],.nil],[],places):=
 ⟨[],by kernel_rfl⟩
set_option maxRecDepth 100000 in
theorem lifted (os:Os) (started:os.Started) (H:Type) (enc:TypeId × Value->H) (F:Stop.Interp) :
 ReturnsInHanded {} Tryz.checked os 6 .any ((OpenSpec.ofChange Rows.fullLivesSpec).preRow enc Tryz.prog Tryz.f6 Rows.fullLivesRow.domain false Rows.fullLivesRow.laid) (((OpenSpec.ofChange Rows.fullLivesSpec).at F).post enc Tryz.prog Tryz.f6 false true false false):=by
 obtain ⟨places,ad⟩:=reads os enc
 refine returnsInHanded_of_row (C:=Tryz.checked) (s:=OpenSpec.ofChange Rows.fullLivesSpec) own started (by kernel_rfl) Tryz.func6
  (witness_row_at (enc:=enc) (C:=Tryz.checked) false (World.holding Tryz.prog os ⟨#[],#[],[]⟩) #[.agg #[.slice none 0 0,.int .i64 0,.int .i64 0,.int .i64 0,.int .i64 0,.slice none 0 0,.int .i64 0],.agg #[.slice none 0 0,.slice none 0 0,.slice none 0 0,.slice none 0 0,.slice none 0 0],.slice none 0 0] rfl (by kernel_rfl) (by kernel_rfl) (by kernel_rfl)
   (OpenSpec.preRow_of_cond 8 ad (by kernel_rfl) (fun k aj=>by cases aj) (by kernel_rfl) (awt os))) ?_
 intro W base args ds gs before rq h3 _ aGV auk _ _ _
 exact aoQ H enc W base args ds gs before rq h3 (fun n aJ=>by obtain ⟨_,_,_,oq,_,_,_⟩:=h3;obtain ⟨rfl,_⟩:=trodVars_none oq;have mE:(DataW.weightsEach Tryz.prog (Tryz.f6.params.toList++[]) (ds++[])).all (· <=reachBytes)=true:=auk;rw [List.append_nil,List.append_nil] at mE;exact of_decide_eq_true (List.all_eq_true.1 mE n aJ))
theorem said:Rows.FullLivesSaid:=
 OpenClaim.holds_of_cond 6 Tryz.f6 rfl rfl rfl rfl rfl rfl rfl ⟨rfl,rfl,rfl,rfl,rfl⟩ rfl rfl rfl rfl rfl (by kernel_rfl) Tryz.func6 (by kernel_rfl)
  (of_decide_eq_true (by kernel_rfl)) (by unfold Func.isWrapper;first | (rw [if_pos (by decide +kernel)];kernel_rfl) | (rw [if_neg (by decide +kernel)];exact ⟨rfl,rfl⟩))
  (fun os started H enc _ F=>by rw [OpenClaim.pre_eq_preRow];exact lifted os started H enc F)
end Go.Proofs.YteeliipnilghaaaGreat.fullLives
