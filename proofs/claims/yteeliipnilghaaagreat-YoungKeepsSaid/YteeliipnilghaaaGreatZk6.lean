/- Part 6 of the proof that is ended in the last text: small logic, what the functions compute, walks, plain laws. -/
import Derived.Test.YteeliipnilghaaaGreatZk5
import Derived.KernelRfl
namespace J
def hJ (f:Field):Option Int:=if gG f.Name then (if kindOk f.Kind then none else some 7) else some 1
def gf (e:Int):Option Int:=if e= 0 then none else some e
def gU (m:Method):Option Int:=gf (zz m)
def A9 (c:aq):Int:=
 if gG c.Name && (decide (c.cS= []) || gG c.cS) then
  if 6 <c.Fields.length\/ 8 <c.bd.length then 2
  else (c.Fields.findSome? hJ).getD ((c.bd.findSome? gU).getD 0)
 else 1
def ph (c:aq):Option Int:=gf (A9 c)
def pi (l:List aq):Int:=if 10 <l.length then 2 else (l.findSome? ph).getD 0
def nk {ρ:Type} (o:Option ρ) (y:Option ρ):Option ρ:=match o with
 | some e=>some e
 | none=>y
theorem Rs {e:Int} {Y:Option (Way Int Unit)}:cond (!decide (e= 0)) (some (.out e)) Y=gB (gf e) Y:=by
 unfold gf gB
 by_cases h:e= 0
 · rw [if_pos h,decide_eq_true h];rfl
 · rw [if_neg h,decide_eq_false h];rfl
theorem W7 {a b:Nat} (x y:Nat):((decide ((x:Int) <(a:Int))) || (decide ((y:Int) <(b:Int))))=decide (x <a\/y <b):=by
 rw [Bool.eq_iff_iff];simp
theorem mz {o:Option Int} {k:Unit->Option (Way Int Unit)}:cW (α:=Unit) (some (cv o)) k=gB o (k ()):=by cases o <;> rfl
theorem jb {ρ:Type} {o:Option ρ} {k:Unit->Option ρ}:cj (α:=Unit) (some (cv o)) k=nk o (k ()):=by cases o <;> rfl
theorem oO {o:Option Int} {Y:Option (Way Int Unit)} {k:Unit->Option (Way Int Unit)}:cW (α:=Unit) (gB o Y) k=gB o (cW (α:=Unit) Y k):=by cases o <;> rfl
section
variable {F:Nat}
theorem arX {c:aq} (h:c.Fits F):E1 F c=some (A9 c):=by
 have ag:∀ {x:Field} (_:x ∈ c.Fields) (Y:Option (Way Int Unit)),((mf F x.Name).bind fun FP=>
  cond (!FP) (some (.out 1)) ((s4 F (⟨x.Kind.Kind,x.Kind.aq⟩:Kind)).bind fun FK=>
  cond (!FK) (some (.out 7)) Y))=gB (hJ x) Y:=by
  intro x ad Y
  rw [BQ (h.field x ad).1,Qd (k:=(⟨x.Kind.Kind,x.Kind.aq⟩:Kind)) (h.field x ad).2]
  unfold hJ
  simp only [Option.bind_some]
  show cond (!gG x.Name) _ (cond (!kindOk x.Kind) _ _)=_
  cases gG x.Name <;> cases kindOk x.Kind <;> rfl
 have hm:∀ {x:Method} (_:x ∈ c.bd) (Y:Option (Way Int Unit)),((za F (⟨x.Name,x.Static,x.cy,(⟨x.Returns.Kind,x.Returns.aq⟩:Kind),x.g4,x.g2,x.Code,x.cC⟩:Method)).bind fun oI=>
  cond (!decide (oI= 0)) (some (.out oI)) Y)=gB (gU x) Y:=by
  intro x ad Y
  have:=arY (F:=F) (m:=(⟨x.Name,x.Static,x.cy,(⟨x.Returns.Kind,x.Returns.aq⟩:Kind),x.g4,x.g2,x.Code,x.cC⟩:Method)) (h.method x ad)
  rw [this,Option.bind_some]
  exact Rs
 have l1:y_ F c F 0 =some (cv (c.Fields.findSome? hJ)):=each hJ h.fields.1 (fun k i x ad=>by
  rw [y_,bL (List.getElem?_eq_some_iff.1 ad).1,cond_true,bt ad,Option.bind_some];exact ag (List.mem_of_getElem? ad) _) (fun k=>by rw [y_,bK];rfl) h.fields.2
 have jp:s3 F c F 0 =some (cv (c.Fields.findSome? hJ)):=each hJ h.fields.1 (fun k i x ad=>by
  rw [s3,bL (List.getElem?_eq_some_iff.1 ad).1,cond_true,bt ad,Option.bind_some];exact ag (List.mem_of_getElem? ad) _) (fun k=>by rw [s3,bK];rfl) h.fields.2
 have cp:y' F c F 0 =some (cv (c.bd.findSome? gU)):=each gU h.methods.1 (fun k i x ad=>by
  rw [y',bL (List.getElem?_eq_some_iff.1 ad).1,cond_true,bt ad,Option.bind_some];exact hm (List.mem_of_getElem? ad) _) (fun k=>by rw [y',bK];rfl) h.methods.2
 have zo:pF F c F 0 =some (cv (c.bd.findSome? gU)):=each gU h.methods.1 (fun k i x ad=>by
  rw [pF,bL (List.getElem?_eq_some_iff.1 ad).1,cond_true,bt ad,Option.bind_some];exact hm (List.mem_of_getElem? ad) _) (fun k=>by rw [pF,bK];rfl) h.methods.2
 unfold E1 A9
 rw [BQ h.name,BQ h.super,l1,cp,jp,zo]
 simp only [Option.bind_some,jb,show (6 :Int)=((6 :Nat):Int) from rfl,show (8 :Int)=((8 :Nat):Int) from rfl,W7]
 cases gG c.Name with
 | false=>rfl
 | true=>
   simp only [Bool.not_true,cond_false,Bool.true_and]
   have EQ:∀ p:Bool,p=decide (6 <c.Fields.length\/ 8 <c.bd.length)->cond p (some (2 :Int)) (nk (c.Fields.findSome? hJ) (nk (c.bd.findSome? gU) (some 0))) =
    some (if 6 <c.Fields.length\/ 8 <c.bd.length then 2 else (c.Fields.findSome? hJ).getD ((c.bd.findSome? gU).getD 0)):=by
    intro p aH
    subst aH
    by_cases bz:6 <c.Fields.length\/ 8 <c.bd.length
    · rw [if_pos bz,decide_eq_true bz];rfl
    · rw [if_neg bz,decide_eq_false bz]
      cases c.Fields.findSome? hJ with
      | some e=>rfl
      | none=>cases c.bd.findSome? gU <;> rfl
   by_cases ao:c.cS= []
   · rw [decide_eq_true ao]
     simp only [Bool.not_true,cond_false,Bool.true_or,if_true]
     exact EQ _ rfl
   · rw [decide_eq_false ao]
     simp only [Bool.not_false,cond_true,Bool.false_or]
     cases gG c.cS with
     | false=>rfl
     | true=>
       simp only [Bool.not_true,cond_false,if_true]
       exact EQ _ rfl
theorem arW {l:List aq} (h:Fits F l):E0 F l=some (pi l):=by
 have l1:vL F l F 0 =some (cv (l.findSome? ph)):=each ph h.1.1 (fun k i x ad=>by
  rw [vL,bL (List.getElem?_eq_some_iff.1 ad).1,cond_true,bt ad,Option.bind_some,arX (c:=(⟨x.Name,x.cS,x.Fields,x.bd⟩:aq)) (h.2 x (List.mem_of_getElem? ad)),Option.bind_some]
  exact Rs) (fun k=>by rw [vL,bK];rfl) h.1.2
 unfold E0 pi
 rw [l1,jb]
 by_cases ap:10 <l.length
 · rw [if_pos ap,decide_eq_true (show (10 :Int) <(l.length:Int) by omega)];rfl
 · rw [if_neg ap,decide_eq_false (show ¬ (10 :Int) <(l.length:Int) by omega)]
   cases l.findSome? ph <;> rfl
theorem alO {l:List aq} (h:Fits F l):Dv F l=some (pi l):=by
 have body:∀ {c:aq} (_:c.Fits F),AO F c F 0 =some (cv (c.Fields.findSome? hJ))/\uO F c F 0 =some (cv (c.Fields.findSome? hJ))/\AP F c F 0 =some (cv (c.bd.findSome? gU))/\uP F c F 0 =some (cv (c.bd.findSome? gU)):=by
  intro c hc
  have ag:∀ {x:Field} (_:x ∈ c.Fields) (i:Int) (_:idx c.Fields i=some x) (Y:Option (Way Int Unit)),((mN F x.Name).bind fun FP=>
   cond (!FP) (some (.out 1)) ((idx c.Fields i).bind fun x=>(r' F (⟨x.Kind.Kind,x.Kind.aq⟩:Kind)).bind fun FK=>
   cond (!FK) (some (.out 7)) Y))=gB (hJ x) Y:=by
   intro x ad i hi Y
   rw [x8 (hc.field x ad).1,hi]
   unfold hJ
   simp only [Option.bind_some]
   rw [Mp (k:=(⟨x.Kind.Kind,x.Kind.aq⟩:Kind)) (hc.field x ad).2,Option.bind_some]
   show cond (!gG x.Name) _ (cond (!kindOk x.Kind) _ _)=_
   cases gG x.Name <;> cases kindOk x.Kind <;> rfl
  have hm:∀ {x:Method} (_:x ∈ c.bd) (Y:Option (Way Int Unit)),((x3 F x).bind fun oI=>
   cond (!decide (oI= 0)) (some (.out oI)) Y)=gB (gU x) Y:=by
   intro x ad Y
   rw [alP (hc.method x ad),Option.bind_some]
   exact Rs
  refine ⟨each hJ hc.fields.1 (fun k i x ad=>?_) (fun k=>by rw [AO,bK];rfl) hc.fields.2,each hJ hc.fields.1 (fun k i x ad=>?_) (fun k=>by rw [uO,bK];rfl) hc.fields.2,
   each gU hc.methods.1 (fun k i x ad=>?_) (fun k=>by rw [AP,bK];rfl) hc.methods.2,each gU hc.methods.1 (fun k i x ad=>?_) (fun k=>by rw [uP,bK];rfl) hc.methods.2⟩
  · rw [AO,bL (List.getElem?_eq_some_iff.1 ad).1,cond_true,bt ad,Option.bind_some];rw [<-bt ad];exact ag (List.mem_of_getElem? ad) _ (bt ad) _
  · rw [uO,bL (List.getElem?_eq_some_iff.1 ad).1,cond_true,bt ad,Option.bind_some];rw [<-bt ad];exact ag (List.mem_of_getElem? ad) _ (bt ad) _
  · rw [AP,bL (List.getElem?_eq_some_iff.1 ad).1,cond_true,bt ad,Option.bind_some];exact hm (List.mem_of_getElem? ad) _
  · rw [uP,bL (List.getElem?_eq_some_iff.1 ad).1,cond_true,bt ad,Option.bind_some];exact hm (List.mem_of_getElem? ad) _
 have l1:xO F l F 0 =some (cv (l.findSome? ph)):=each ph h.1.1 (fun k i c ad=>by
  have hc:=h.2 c (List.mem_of_getElem? ad)
  obtain ⟨ed,gr,fX,jR⟩:=body hc
  rw [xO,bL (List.getElem?_eq_some_iff.1 ad).1,cond_true,bt ad,Option.bind_some,x8 hc.name,x8 hc.super,ed,fX,gr,jR]
  simp only [Option.bind_some,mz,show (6 :Int)=((6 :Nat):Int) from rfl,show (8 :Int)=((8 :Nat):Int) from rfl,W7]
  unfold ph A9
  cases gG c.Name with
  | false=>rfl
  | true=>
    simp only [Bool.not_true,cond_false,Bool.true_and]
    have EQ:∀ (p:Bool) (Y:Option (Way Int Unit)),p=decide (6 <c.Fields.length\/ 8 <c.bd.length)->cW (α:=Unit) (cond p (some (.out (2 :Int))) (gB (c.Fields.findSome? hJ) (gB (c.bd.findSome? gU) (some (.go ()))))) (fun _=>Y) =
     gB (gf (if 6 <c.Fields.length\/ 8 <c.bd.length then 2 else (c.Fields.findSome? hJ).getD ((c.bd.findSome? gU).getD 0))) Y:=by
     intro p Y aH
     subst aH
     by_cases bz:6 <c.Fields.length\/ 8 <c.bd.length
     · rw [if_pos bz,decide_eq_true bz];rfl
     · rw [if_neg bz,decide_eq_false bz,cond_false]
       have aql:∀ e,c.Fields.findSome? hJ=some e->gf e=some e:=by
        intro e he
        obtain ⟨x,_,ad⟩:=List.exists_of_findSome?_eq_some he
        unfold hJ at ad
        split at ad
        · split at ad
          · cases ad
          · injection ad with ad;subst ad;rfl
        · injection ad with ad;subst ad;rfl
       have PH:∀ e,c.bd.findSome? gU=some e->gf e=some e:=by
        intro e he
        obtain ⟨x,_,ad⟩:=List.exists_of_findSome?_eq_some he
        unfold gU at ad
        unfold gf at ad ⊢
        split at ad
        · cases ad
        · rename_i aF;injection ad with ad;subst ad;rw [if_neg aF]
       cases ag:c.Fields.findSome? hJ with
       | some e=>simp only [Option.getD_some,aql e ag];rfl
       | none=>
         cases hm:c.bd.findSome? gU with
         | some e=>simp only [Option.getD_some,Option.getD_none,PH e hm];rfl
         | none=>rfl
    by_cases ao:c.cS= []
    · rw [decide_eq_true ao]
      simp only [Bool.not_true,cond_false,Bool.true_or,if_true]
      exact EQ _ _ rfl
    · rw [decide_eq_false ao]
      simp only [Bool.not_false,cond_true,Bool.false_or]
      cases gG c.cS with
      | false=>rfl
      | true=>
        simp only [Bool.not_true,cond_false,if_true]
        exact EQ _ _ rfl) (fun k=>by rw [xO,bK];rfl) h.1.2
 unfold Dv pi
 rw [l1,jb]
 by_cases ap:10 <l.length
 · rw [if_pos ap,decide_eq_true (show (10 :Int) <(l.length:Int) by omega)];rfl
 · rw [if_neg ap,decide_eq_false (show ¬ (10 :Int) <(l.length:Int) by omega)]
   cases l.findSome? ph <;> rfl
end
structure Right (l:List aq):Prop where
 len:l.length<= 10
 name:∀ c ∈ l,gG c.Name=true
 fields:∀ c ∈ l,c.Fields.length<= 6
 methods:∀ c ∈ l,c.bd.length<= 8
 method:∀ c ∈ l,∀ m ∈ c.bd,m.cy.length<= 4 /\m.cC.length<= 4
theorem at7 {m:Method} (h:zz m= 0):m.cy.length<= 4 /\m.cC.length<= 4 :=by
 unfold zz at h
 split at h
 · split at h
   · exact absurd h (by decide)
   · rename_i I;exact ⟨by omega,by omega⟩
 · exact absurd h (by decide)
theorem au' {e:Int} (h:gf e=none):e= 0 :=by
 unfold gf at h
 split at h
 · assumption
 · cases h
theorem ava {e x:Int} (h:gf e=some x):x≠ 0 :=by
 unfold gf at h
 split at h
 · cases h
 · rename_i aj;injection h with h;subst h;exact aj
theorem ar8 {s:List UInt8} (h:gG s=true):s≠ []:=by
 unfold gG at h
 simp only [Bool.and_eq_true,decide_eq_true_eq] at h
 exact h.1.2
theorem amA {l:List aq} (h:pi l= 0):Right l:=by
 unfold pi at h
 by_cases ap:10 <l.length
 · rw [if_pos ap] at h;exact absurd h (by decide)
 · rw [if_neg ap] at h
   have aF:∀ c ∈ l,A9 c= 0 :=by
    intro c hc
    cases ag:l.findSome? ph with
    | some e=>
      rw [ag] at h
      simp only [Option.getD_some] at h
      subst h
      obtain ⟨x,_,ad⟩:=List.exists_of_findSome?_eq_some ag
      unfold ph gf at ad
      split at ad
      · cases ad
      · rename_i aj;injection ad with ad;exact absurd ad aj
    | none=>
      have:=List.findSome?_eq_none_iff.1 ag c hc
      unfold ph gf at this
      split at this
      · assumption
      · cases this
   have key:∀ c ∈ l,gG c.Name=true/\c.Fields.length<= 6 /\c.bd.length<= 8 /\ ∀ m ∈ c.bd,m.cy.length<= 4 /\m.cC.length<= 4 :=by
    intro c hc
    have aP:=aF c hc
    unfold A9 at aP
    split at aP
    · rename_i I
      simp only [Bool.and_eq_true] at I
      split at aP
      · exact absurd aP (by decide)
      · rename_i aa
        refine ⟨I.1,by omega,by omega,fun m hm=>?_⟩
        cases ag:c.Fields.findSome? hJ with
        | some e=>
          rw [ag] at aP
          simp only [Option.getD_some] at aP
          subst aP
          obtain ⟨x,_,ad⟩:=List.exists_of_findSome?_eq_some ag
          unfold hJ at ad
          split at ad
          · split at ad
            · cases ad
            · injection ad with ad;exact absurd ad (by decide)
          · injection ad with ad;exact absurd ad (by decide)
        | none=>
          rw [ag] at aP
          simp only [Option.getD_none] at aP
          cases ea:c.bd.findSome? gU with
          | some e=>
            rw [ea] at aP
            simp only [Option.getD_some] at aP
            subst aP
            obtain ⟨x,_,ad⟩:=List.exists_of_findSome?_eq_some ea
            exact absurd rfl (ava ad)
          | none=>exact at7 (au' (List.findSome?_eq_none_iff.1 ea m hm))
    · exact absurd aP (by decide)
   exact ⟨by omega,fun c hc=>(key c hc).1,fun c hc=>(key c hc).2.1,fun c hc=>(key c hc).2.2.1,fun c hc=>(key c hc).2.2.2⟩
end J
namespace J
def ev {α:Type} (p:α->Bool):List α->Option Nat
 | []=>none
 | x::r=>if p x then some 0 else (ev p r).map (· + 1)
theorem FF {α:Type} {p:α->Bool}:∀ {l:List α} {i:Nat},ev p l=some i-> ∃ x,l[i]? =some x/\p x=true/\ ∀ j y,j <i->l[j]? =some y->p y=false
 | [],i,h=>by simp [ev] at h
 | x::r,i,h=>by
   simp only [ev] at h
   split at h
   · rename_i aH
     injection h with h
     subst h
     exact ⟨x,rfl,aH,fun j y az=>absurd az (by omega)⟩
   · rename_i aH
     cases aB:ev p r with
     | none=>rw [aB] at h;cases h
     | some k=>
       rw [aB] at h
       simp only [Option.map_some,Option.some.injEq] at h
       subst h
       obtain ⟨y,I,aa,au⟩:=FF aB
       refine ⟨y,by simpa using I,aa,fun j z az aj=>?_⟩
       cases j with
       | zero=>
         simp only [List.getElem?_cons_zero,Option.some.injEq] at aj
         subst aj
         simpa using aH
       | succ j=>exact au j z (by omega) (by simpa using aj)
theorem RL {α:Type} {p:α->Bool}:∀ {l:List α},ev p l=none-> ∀ x ∈ l,p x=false
 | [],_,x,ad=>by cases ad
 | y::r,h,x,ad=>by
   simp only [ev] at h
   split at h
   · cases h
   · rename_i aH
     have aB:ev p r=none:=by simpa using h
     rcases List.mem_cons.1 ad with rfl | e
     · simpa using aH
     · exact RL aB x e
theorem avC {α:Type} {p:α->Bool} {l:List α} {i:Nat} {x:α} (hi:l[i]? =some x) (aH:p x=true) (ah:∀ j y,j <i->l[j]? =some y->p y=false):ev p l=some i:=by
 cases h:ev p l with
 | none=>have:=RL h x (List.mem_of_getElem? hi);rw [aH] at this;cases this
 | some j=>
   obtain ⟨y,I,aa,au⟩:=FF h
   rcases Nat.lt_trichotomy i j with e | e | e
   · have:=au i x e hi;rw [aH] at this;cases this
   · rw [e]
   · have:=ah j y e I;rw [aa] at this;cases this
theorem RK {α:Type} {p:α->Bool} {l:List α} {i:Nat} (h:ev p l=some i):i <l.length:=by
 obtain ⟨x,I,_⟩:=FF h
 exact (List.getElem?_eq_some_iff.1 I).1
theorem NG {α ρ:Type} {l:List α} {L:Nat->Int->Option (Way ρ Unit)} (p:α->Bool) (f:Nat->ρ) (ap:l.length<= 140737488355328)
 (ao:∀ k (i:Nat) x,l[i]? =some x->L (k+ 1) (i:Int)=cond (p x) (some (.out (f i))) (L k (aE ((i:Int)+ 1))))
 (he:∀ k,L (k+ 1) (l.length:Int)=some (.go ())) {F:Nat} (aI:l.length <F):L F 0 =some (cv ((ev p l).map f)):=by
 have key:∀ (d i k:Nat),i+d=l.length->d <k->L k (i:Int)=some (cv ((ev p (l.drop i)).map fun j=>f (i+j))):=by
  intro d
  induction d with
  | zero=>
    intro i k h ai
    obtain ⟨k,rfl⟩:∃ k',k=k'+ 1 :=⟨k - 1,by omega⟩
    have hi:i=l.length:=by omega
    subst hi
    rw [he];simp [cv,ev]
  | succ d bi=>
    intro i k h ai
    obtain ⟨k,rfl⟩:∃ k',k=k'+ 1 :=⟨k - 1,by omega⟩
    have hi:i <l.length:=by omega
    rw [ao k i l[i] (List.getElem?_eq_getElem hi),List.drop_eq_getElem_cons hi,ev]
    cases ay:p l[i] with
    | true=>simp [cv]
    | false=>
      simp only [cond_false,Bool.false_eq_true,if_false]
      rw [fs hi ap,bi (i+ 1) k (by omega) (by omega)]
      congr 2
      rw [Option.map_map]
      congr 1
      funext j
      simp only [Function.comp]
      congr 1
      omega
 have:=key l.length 0 F (by omega) aI
 simpa using this
def iW (nm:List UInt8) (c:aq):Bool:=decide (c.Name=nm)
def cL (l:List aq) (nm:List UInt8):Int:=((ev (iW nm) l).map fun n:Nat=>(n:Int)).getD (-1)
theorem uW {F:Nat} {l:List aq} (h:Small F l.length) (nm:List UInt8):mM F l nm=some (cL l nm):=by
 unfold mM cL
 have l1:x6 l nm F 0 =some (cv ((ev (iW nm) l).map fun n:Nat=>(n:Int))):=NG (iW nm) _ h.1 (fun k i x ad=>by
  rw [x6,bL (List.getElem?_eq_some_iff.1 ad).1,cond_true,bt ad,Option.bind_some];rfl) (fun k=>by rw [x6,bK];rfl) h.2
 rw [l1,jb]
 cases ev (iW nm) l <;> rfl
theorem MO {l:List aq} {nm:List UInt8}:cL l nm <l.length:=by
 unfold cL
 cases h:ev (iW nm) l with
 | none=>simp only [Option.map_none,Option.getD_none];omega
 | some i=>have:=RK h;simp only [Option.map_some,Option.getD_some];omega
theorem amB {l:List aq} {nm:List UInt8}:cL l nm < 0 ↔ ev (iW nm) l=none:=by
 unfold cL
 cases h:ev (iW nm) l with
 | none=>simp
 | some i=>simp only [Option.map_some,Option.getD_some];constructor <;> intro h <;> first | omega | cases h
theorem CA {α:Type} {l:List α} {i:Nat} {x:α} (h:l[i]? =some x):l.set i x=l:=by
 obtain ⟨ap,e⟩:=List.getElem?_eq_some_iff.1 h
 rw [<-e,List.set_getElem_self]
theorem HP {α:Type} {b:Nat} {l:List α} (h:l.length*b<= 140737488355328):(bO b ([]:List α) l).bind (fun l=>some l)=some l:=by
 unfold bO
 rw [if_pos (by simpa using h)]
 simp
theorem avp {F:Nat} {l:List aq} (aI:100 <F) (h:Right l):Ff F l=some l:=by
 have c2:∀ (eM:List Method),eM.length<= 8 ->(∀ m ∈ eM,m.cy.length<= 4 /\m.cC.length<= 4)->rf F eM (eM.length:Int) 0 =some eM:=by
  intro eM aEb hm
  refine Jt (n:=eM.length) (fun k i=>rf k eM (eM.length:Int) (i:Int)) eM (fun k i hi=>?_) (fun k=>?_) (F:=F) (by omega)
  · obtain ⟨x,ad⟩:∃ x,eM[i]? =some x:=⟨eM[i],List.getElem?_eq_getElem hi⟩
    have ah:=hm x (List.mem_of_getElem? ad)
    show rf (k+ 1) eM (eM.length:Int) (i:Int)=_
    rw [rf,bL hi,cond_true,bt ad,Option.bind_some]
    unfold Tv Tu
    rw [HP (by omega),Option.bind_some,HP (by omega),Option.bind_some,Option.bind_some,Option.bind_some]
    have ak:eM.set (i:Int).toNat (⟨x.Name,x.Static,x.cy,(⟨x.Returns.Kind,x.Returns.aq⟩:Kind),x.g4,x.g2,x.Code,x.cC⟩:Method)=eM:=CA (i:=i) ad
    simp only [ak,bt ad,Option.bind_some]
    rw [fs hi (by omega)]
  · show rf (k+ 1) eM (eM.length:Int) (eM.length:Int)=_
    rw [rf,bK];rfl
 unfold Ff
 have c1:pQ F l F [] 0 =some l:=by
  refine Jt (n:=l.length) (fun k i=>pQ F l k (l.take i) (i:Int)) l (fun k i hi=>?_) (fun k=>?_) (F:=F) (by have:=h.len;omega)
  · obtain ⟨x,ad⟩:∃ x,l[i]? =some x:=⟨l[i],List.getElem?_eq_getElem hi⟩
    have kv:=List.mem_of_getElem? ad
    have ag:=h.fields x kv
    have hm:=h.methods x kv
    have hlen:=h.len
    show pQ F l (k+ 1) (l.take i) (i:Int)=_
    rw [pQ,bL hi,cond_true,bt ad,Option.bind_some]
    unfold Tt Tw
    rw [HP (by omega),Option.bind_some,HP (by omega),Option.bind_some,c2 x.bd hm (h.method x kv),Option.bind_some]
    unfold bO
    rw [if_pos (by simp only [List.length_take,List.length_cons,List.length_nil];omega)]
    simp only [Option.bind_some]
    rw [fs hi (by omega)]
    have e:l.take i++[(⟨x.Name,x.cS,x.Fields,x.bd⟩:aq)]=l.take (i+ 1):=by
     rw [List.take_add_one,ad];rfl
    rw [e]
  · show pQ F l (k+ 1) (l.take l.length) (l.length:Int)=_
    rw [pQ,bK,List.take_length];rfl
 rw [c1];rfl
def eO:Nat->List aq->List (List UInt8 × Int)
 | _,[]=>[]
 | k,c::r=>(c.Name,(k:Int))::eO (k+ 1) r
theorem B8 (nm:List UInt8):∀ (l:List aq) (k:Nat),dz (eO k l) nm=(ev (iW nm) l).map fun n:Nat=>((n+k:Nat):Int)
 | [],k=>rfl
 | c::r,k=>by
   simp only [eO,dz,ev,iW]
   by_cases h:c.Name=nm
   · simp [h]
   · simp only [h,if_false,decide_false,Bool.false_eq_true]
     rw [B8 nm r (k+ 1),Option.map_map]
     congr 1
     funext j
     simp only [Function.comp]
     congr 1
     omega
theorem aa_ (c:aq):∀ (l:List aq) (k:Nat),eO k (l++[c])=eO k l++[(c.Name,((k+l.length:Nat):Int))]
 | [],k=>by simp [eO]
 | d::r,k=>by
   simp only [List.cons_append,eO,List.length_cons]
   rw [aa_ c r (k+ 1)]
   congr 4
   omega
theorem Q2 {cJ β:Type} [DecidableEq cJ] {k:cJ} {v:β}:∀ {m:List (cJ × β)},dz m k=none->hD m k v=m++[(k,v)]
 | [],_=>rfl
 | p::r,h=>by
   simp only [dz] at h
   split at h
   · cases h
   · rename_i b5
     simp only [hD,if_neg b5,List.cons_append]
     rw [Q2 h]
def xM (l:List aq):Prop:=∀ (i j:Nat) (x y:aq),l[i]? =some x->l[j]? =some y->x.Name=y.Name->i=j
theorem avj {l:List aq} (h:xM l) {i:Nat} {x:aq} (hi:l[i]? =some x):cL l x.Name=(i:Int):=by
 unfold cL
 rw [avC (i:=i) hi (by simp [iW]) (fun j y az hy=>by
  simp only [iW,decide_eq_false_iff_not]
  intro e
  have:=h j i y x hy hi e
  omega)]
 rfl
theorem auC {F:Nat} {l:List aq} (aI:100 <F) (h:Right l) :
 (xM l/\ng ⟨l,[],[]⟩ F [] 0 =some (.go (eO 0 l))/\r9 F l F 0 =some (.go ())) \/
 (¬ xM l/\(∃ m,ng ⟨l,[],[]⟩ F [] 0 =some (.out (6,m)))/\r9 F l F 0 =some (.out 6)):=by
 have hlen:=h.len
 have eV:r9 F l F 0 =some (cv ((List.range l.length).findSome? fun i:Nat=>(l[i]?).bind fun x:aq=>if cL l x.Name=(i:Int) then none else some 6)):=jC _ (by omega) (fun k i hi=>by
  obtain ⟨x,ad⟩:∃ x,l[i]? =some x:=⟨l[i],List.getElem?_eq_getElem hi⟩
  rw [r9,bL hi,cond_true,bt ad,Option.bind_some,uW ⟨by omega,by omega⟩,Option.bind_some,ad,Option.bind_some]
  by_cases e:cL l x.Name=(i:Int)
  · rw [if_pos e,decide_eq_true e];rfl
  · rw [if_neg e,decide_eq_false e];rfl) (fun k=>by rw [r9,bK];rfl) (by omega)
 have key:∀ (d i k:Nat),i+d=l.length->d <k->xM (l.take i) ->
  (xM l/\ng ⟨l,[],[]⟩ k (eO 0 (l.take i)) i=some (.go (eO 0 l)))\/(¬ xM l/\ ∃ m,ng ⟨l,[],[]⟩ k (eO 0 (l.take i)) i=some (.out (6,m))):=by
  intro d
  induction d with
  | zero=>
    intro i k hi ai av
    obtain ⟨k,rfl⟩:∃ k',k=k'+ 1 :=⟨k - 1,by omega⟩
    have e:i=l.length:=by omega
    subst e
    rw [List.take_length] at av ⊢
    left
    refine ⟨av,?_⟩
    rw [ng,bK];rfl
  | succ d bi=>
    intro i k hi ai av
    obtain ⟨k,rfl⟩:∃ k',k=k'+ 1 :=⟨k - 1,by omega⟩
    have cn:i <l.length:=by omega
    obtain ⟨x,ad⟩:∃ x,l[i]? =some x:=⟨l[i],List.getElem?_eq_getElem cn⟩
    rw [ng,bL cn,cond_true,bt ad,Option.bind_some,B8]
    cases aH:ev (iW x.Name) (l.take i) with
    | some j=>
      right
      obtain ⟨y,I,aa,_⟩:=FF aH
      refine ⟨fun hz=>?_,_,rfl⟩
      have fc:j <i:=by have:=(List.getElem?_eq_some_iff.1 I).1;simp only [List.length_take] at this;omega
      have hy:l[j]? =some y:=by rw [List.getElem?_take] at I;rw [if_pos fc] at I;exact I
      have:=hz j i y x hy ad (by simpa [iW] using aa)
      omega
    | none=>
      simp only [Option.map_none,Option.isSome_none,cond_false]
      have aqU:dz (eO 0 (l.take i)) x.Name=none:=by rw [B8,aH];rfl
      rw [Q2 aqU,fs cn (by omega)]
      have ak:l.take (i+ 1)=l.take i++[x]:=by rw [List.take_add_one,ad];rfl
      have al:eO 0 (l.take i)++[(x.Name,(i:Int))]=eO 0 (l.take (i+ 1)):=by
       rw [ak,aa_]
       congr 4
       simp only [List.length_take];omega
      rw [al]
      refine bi (i+ 1) k (by omega) (by omega) ?_
      intro a b u v aD ah P4
      rw [List.getElem?_take] at aD ah
      split at aD
      · split at ah
        · rename_i aD5 fN
          have aq1:=RL aH
          have f_:∀ (q:Nat) (z:aq),q <i->l[q]? =some z->z.Name≠x.Name:=fun q z aS aj e=>by
           have:=aq1 z (List.mem_of_getElem? (i:=q) (by rw [List.getElem?_take,if_pos aS];exact aj))
           simp [iW,e] at this
          by_cases apL:a=i
          · by_cases yM:b=i
            · omega
            · subst apL
              rw [ad] at aD;injection aD with aD;subst aD
              exact absurd P4.symm (f_ b v (by omega) ah)
          · by_cases yM:b=i
            · subst yM
              rw [ad] at ah;injection ah with ah;subst ah
              exact absurd P4 (f_ a u (by omega) aD)
            · exact av a b u v (by rw [List.getElem?_take,if_pos (by omega)];exact aD) (by rw [List.getElem?_take,if_pos (by omega)];exact ah) P4
        · cases ah
      · cases aD
 have aP:=key l.length 0 F (by omega) (by omega) (fun i j x y hi=>by simp at hi)
 have cF:eO 0 (l.take 0)= []:=by simp [eO]
 rw [cF] at aP
 rcases aP with ⟨hz,I⟩ | ⟨hz,I⟩
 · left
   refine ⟨hz,I,?_⟩
   rw [eV]
   have:((List.range l.length).findSome? fun i:Nat=>(l[i]?).bind fun x:aq=>if cL l x.Name=(i:Int) then none else some (6 :Int))=none:=by
    rw [List.findSome?_eq_none_iff]
    intro i hi
    obtain ⟨x,ad⟩:∃ x,l[i]? =some x:=⟨l[i]'(by simpa using hi),List.getElem?_eq_getElem _⟩
    rw [ad,Option.bind_some,if_pos (avj hz ad)]
   rw [this];rfl
 · right
   refine ⟨hz,I,?_⟩
   rw [eV]
   cases ag:((List.range l.length).findSome? fun i:Nat=>(l[i]?).bind fun x:aq=>if cL l x.Name=(i:Int) then none else some (6 :Int)) with
   | some e=>
     obtain ⟨i,_,hi⟩:=List.exists_of_findSome?_eq_some ag
     cases ad:l[i]? with
     | none=>rw [ad] at hi;cases hi
     | some x=>
       rw [ad,Option.bind_some] at hi
       split at hi
       · cases hi
       · injection hi with hi;subst hi;rfl
   | none=>
     exfalso
     apply hz
     have iR:∀ (i:Nat) (x:aq),l[i]? =some x->cL l x.Name=(i:Int):=by
      intro i x ad
      have:=List.findSome?_eq_none_iff.1 ag i (by have:=(List.getElem?_eq_some_iff.1 ad).1;simpa using this)
      rw [ad,Option.bind_some] at this
      split at this
      · assumption
      · cases this
     intro i j x y ad hy e
     have I:=iR i x ad
     have aa:=iR j y hy
     rw [e] at I
     omega
end J
namespace J
def z2 {ρ σ:Type} (o:Option ρ) (a:σ):Way ρ σ:=match o with
 | some r=>.out r
 | none=>.go a
def ad' {ρ σ:Type} (o:Option ρ) (y:Option (Way ρ σ)):Option (Way ρ σ):=match o with
 | some r=>some (.out r)
 | none=>y
theorem Mu {ρ σ:Type} {n:Nat} (T:Nat->Nat->Option (Way ρ σ)) (g:Nat->Option ρ) (fin:σ) (ao:∀ k i,i <n->T (k+ 1) i=ad' (g i) (T k (i+ 1))) (he:∀ k,T (k+ 1) n=some (.go fin)) {F:Nat} (aI:n <F) :
 T F 0 =some (z2 ((List.range n).findSome? g) fin):=by
 have key:∀ (d i k:Nat),i+d=n->d <k->T k i=some (z2 (((List.range n).drop i).findSome? g) fin):=by
  intro d
  induction d with
  | zero=>
    intro i k h ai
    obtain ⟨k,rfl⟩:∃ k',k=k'+ 1 :=⟨k - 1,by omega⟩
    have hi:i=n:=by omega
    subst hi
    rw [he,List.drop_of_length_le (by simp)];rfl
  | succ d bi=>
    intro i k h ai
    obtain ⟨k,rfl⟩:∃ k',k=k'+ 1 :=⟨k - 1,by omega⟩
    have hi:i <n:=by omega
    rw [ao k i hi,List.drop_eq_getElem_cons (by simpa using hi),List.findSome?_cons]
    simp only [List.getElem_range]
    cases ay:g i with
    | some r=>rfl
    | none=>
      simp only [ad']
      exact bi (i+ 1) k (by omega) (by omega)
 have:=key n 0 F (by omega) aI
 simpa using this
theorem Ip {α β cw:Type} (g:α->Option β) (f:β->cw):∀ l:List α,l.findSome? (fun c=>(g c).map f)=(l.findSome? g).map f
 | []=>rfl
 | c::r=>by
   simp only [List.findSome?_cons]
   cases g c with
   | some e=>rfl
   | none=>simp only [Option.map_none];exact Ip g f r
def dd (l:List aq):List Int:=l.map fun c=>cL l c.cS
theorem TB {l:List aq} {i:Nat} {x:aq} (h:l[i]? =some x):(dd l)[i]? =some (cL l x.cS):=by simp [dd,h]
def rO (c:aq):Option Int:=if (decide (c.Name= [79,98,106,101,99,116])) == (decide (c.cS= [])) then none else some 4
def ox (l:List aq) (c:aq):Option Int:=if c.cS= []\/ 0 <=cL l c.cS then none else some 5
section
variable {F:Nat} {l:List aq}
theorem azc (aI:100 <F) (h:Right l):xX l F 0 =some (cv (l.findSome? rO)):=each rO (by have:=h.len;omega) (fun k i x ad=>by
 rw [xX,bL (List.getElem?_eq_some_iff.1 ad).1,cond_true,bt ad,Option.bind_some,Option.bind_some]
 unfold rO
 cases (decide (x.Name= [79,98,106,101,99,116])) == (decide (x.cS= [])) <;> rfl) (fun k=>by rw [xX,bK];rfl) (by have:=h.len;omega)
theorem azb (aI:100 <F) (h:Right l) (m:List (List UInt8 × Int)) (s:List Int):tu ⟨l,m,s⟩ F 0 =some (cv ((l.findSome? rO).map fun e=>(e,(⟨l,m,s⟩:bn)))):=by
 have:=each (l:=l) (L:=tu ⟨l,m,s⟩) (fun c=>(rO c).map fun e=>(e,(⟨l,m,s⟩:bn))) (by have:=h.len;omega) (fun k i x ad=>by
  rw [tu]
  show cond (decide ((i:Int) <(l.length:Int))) ((idx l (i:Int)).bind _) _=_
  rw [bL (List.getElem?_eq_some_iff.1 ad).1,cond_true,bt ad,Option.bind_some]
  unfold rO
  cases (decide (x.Name= [79,98,106,101,99,116])) == (decide (x.cS= [])) <;> rfl) (fun k=>by
   rw [tu]
   show cond (decide ((l.length:Int) <(l.length:Int))) _ _=_
   rw [bK];rfl) (F:=F) (by have:=h.len;omega)
 rw [this,Ip]
theorem aud (aI:100 <F) (h:Right l):uT F l F 0 =some (cv (l.findSome? (ox l))):=each (ox l) (by have:=h.len;omega) (fun k i x ad=>by
 have hlen:=h.len
 rw [uT,bL (List.getElem?_eq_some_iff.1 ad).1,cond_true,bt ad,Option.bind_some,Option.bind_some,uW ⟨by omega,by omega⟩,Option.bind_some]
 unfold ox
 by_cases ao:x.cS= []
 · rw [if_pos (.inl ao),decide_eq_true ao];rfl
 · rw [decide_eq_false ao]
   by_cases hc:0 <=cL l x.cS
   · rw [if_pos (.inr hc),decide_eq_false (show ¬ cL l x.cS < 0 by omega)];rfl
   · rw [if_neg (by simp [ao,hc]),decide_eq_true (show cL l x.cS < 0 by omega)];rfl) (fun k=>by rw [uT,bK];rfl) (by have:=h.len;omega)
theorem amC (h:Right l):cL l []= -1 :=by
 unfold cL
 cases aH:ev (iW []) l with
 | none=>rfl
 | some i=>
   obtain ⟨x,I,aa,_⟩:=FF aH
   have:=ar8 (h.name x (List.mem_of_getElem? I))
   simp [iW] at aa
   exact absurd aa this
theorem auc (aI:100 <F) (h:Right l):∃ o:Option (Int × bn),o.map (·.1)=l.findSome? (ox l)/\lk ⟨l,eO 0 l,[]⟩ F [] 0 =some (z2 o (dd l)):=by
 have hlen:=h.len
 refine ⟨(List.range l.length).findSome? fun i=>((l[i]?).bind (ox l)).map fun e=>(e,(⟨l,eO 0 l,(dd l).take i⟩:bn)),?_,?_⟩
 · have ak:∀ (n:Nat),n<=l.length->((List.range' (l.length - n) n).findSome? fun i=>((l[i]?).bind (ox l)).map fun e=>(e,(⟨l,eO 0 l,(dd l).take i⟩:bn))).map (·.1)=(l.drop (l.length - n)).findSome? (ox l):=by
    intro n
    induction n with
    | zero=>intro _;simp
    | succ n bi=>
      intro aF
      have hi:l.length - (n+ 1) <l.length:=by omega
      rw [List.range'_succ,List.findSome?_cons,List.drop_eq_getElem_cons hi,List.findSome?_cons,List.getElem?_eq_getElem hi,Option.bind_some]
      cases ox l l[l.length - (n+ 1)] with
      | some e=>rfl
      | none=>
        simp only [Option.map_none]
        rw [show l.length - (n+ 1)+ 1 =l.length - n by omega]
        exact bi (by omega)
   have:=ak l.length (Nat.le_refl _)
   simpa [List.range_eq_range'] using this
 · refine Mu (n:=l.length) (fun k i=>lk ⟨l,eO 0 l,[]⟩ k ((dd l).take i) (i:Int)) _ (dd l) (fun k i hi=>?_) (fun k=>?_) (F:=F) (by omega)
   · obtain ⟨x,ad⟩:∃ x,l[i]? =some x:=⟨l[i],List.getElem?_eq_getElem hi⟩
     show lk ⟨l,eO 0 l,[]⟩ (k+ 1) ((dd l).take i) (i:Int)=_
     rw [lk]
     show cond (decide ((i:Int) <(l.length:Int))) (cW (α:=List Int) ((idx l (i:Int)).bind _) _) _=_
     rw [bL hi,cond_true,bt ad,Option.bind_some,ad,Option.bind_some]
     have Zs:dz (eO 0 l) x.cS=(ev (iW x.cS) l).map fun n:Nat=>((n+ 0 :Nat):Int):=B8 x.cS l 0
     have aT:(dd l).take (i+ 1)=(dd l).take i++[cL l x.cS]:=by rw [List.take_add_one,TB ad];rfl
     have O7:bO 8 ((dd l).take i) [cL l x.cS]=some ((dd l).take (i+ 1)):=by
      unfold bO
      rw [if_pos (by simp only [List.length_take,List.length_cons,List.length_nil];omega),aT]
     have fin:∀ n:Int,n=cL l x.cS->cW (α:=List Int) (cW (α:=Int) (ρ:=Int × bn) (some (.go n)) fun (Ri:Int)=>(bO 8 ((dd l).take i) [Ri]).bind fun QC=>some (.go QC)) (fun (QB:List Int)=>lk ⟨l,eO 0 l,[]⟩ k QB (aE ((i:Int)+ 1)))=lk ⟨l,eO 0 l,[]⟩ k ((dd l).take (i+ 1)) ((i+ 1 :Nat):Int):=by
      intro n aF
      subst aF
      rw [mx,O7,Option.bind_some,mx,fs hi (by omega)]
     unfold ox
     by_cases ao:x.cS= []
     · rw [if_pos (.inl ao),decide_eq_true ao,cond_true]
       exact fin (-1) (by rw [ao,amC h])
     · rw [decide_eq_false ao,cond_false]
       cases aH:ev (iW x.cS) l with
       | none=>
         have EI:cL l x.cS < 0 :=amB.2 aH
         rw [if_neg (by simp [ao];omega),Zs,aH]
         rfl
       | some j=>
         have og:cL l x.cS=(j:Int):=by unfold cL;rw [aH];rfl
         rw [if_pos (.inr (by omega)),Zs,aH]
         exact fin _ (by rw [og];simp)
   · show lk ⟨l,eO 0 l,[]⟩ (k+ 1) ((dd l).take l.length) (l.length:Int)=_
     rw [lk]
     show cond (decide ((l.length:Int) <(l.length:Int))) _ _=_
     rw [bK,cond_false,List.take_of_length_le (by simp [dd])]
def dp (S:List Int):Nat->Int->Option (List Int)
 | 0,n=>if n < 0 then some [] else none
 | k+ 1,n=>if n < 0 then some [] else (idx S n).bind fun m=>(dp S k m).map (n:: ·)
theorem adS {S:List Int}:∀ {k:Nat} {n:Int} {c:List Int},dp S k n=some c->dp S (k+ 1) n=some c
 | 0,n,c,h=>by
   simp only [dp] at h ⊢
   split at h
   · rename_i aF;rw [if_pos aF];exact h
   · cases h
 | k+ 1,n,c,h=>by
   rw [dp] at h ⊢
   split at h
   · rename_i aF;rw [if_pos aF];exact h
   · rename_i aF
     rw [if_neg aF]
     cases hi:idx S n with
     | none=>rw [hi] at h;cases h
     | some m=>
       rw [hi,Option.bind_some] at h
       rw [Option.bind_some]
       cases hu:dp S k m with
       | none=>rw [hu] at h;cases h
       | some bF=>rw [hu] at h;rw [adS hu];exact h
theorem K0 {S:List Int} {k k':Nat} {n:Int} {c:List Int} (h:dp S k n=some c) (ai:k<=k'):dp S k' n=some c:=by
 obtain ⟨d,rfl⟩:∃ d,k'=k+d:=⟨k' - k,by omega⟩
 clear ai
 induction d with
 | zero=>exact h
 | succ d bi=>exact adS bi
theorem azt {S:List Int} {k k':Nat} {n:Int} {c bF:List Int} (h:dp S k n=some c) (h':dp S k' n=some bF):c=bF:=by
 have I:=K0 h (Nat.le_max_left k k')
 have aa:=K0 h' (Nat.le_max_right k k')
 rw [I] at aa
 exact Option.some.inj aa
theorem adR {S:List Int}:∀ {k:Nat} {n:Int} {c:List Int},dp S k n=some c->c.length<=k/\dp S c.length n=some c
 | 0,n,c,h=>by
   simp only [dp] at h
   split at h
   · rename_i aF
     injection h with h
     subst h
     simp [dp,aF]
   · cases h
 | k+ 1,n,c,h=>by
   have aP:=h
   rw [dp] at h
   split at h
   · rename_i aF
     injection h with h
     subst h
     simp [dp,aF]
   · rename_i aF
     cases hi:idx S n with
     | none=>rw [hi] at h;cases h
     | some m=>
       rw [hi,Option.bind_some] at h
       cases hu:dp S k m with
       | none=>rw [hu] at h;cases h
       | some bF=>
         rw [hu] at h
         simp only [Option.map_some,Option.some.injEq] at h
         subst h
         obtain ⟨I,aa⟩:=adR hu
         refine ⟨by simpa using I,?_⟩
         rw [List.length_cons,dp,if_neg aF,hi,Option.bind_some,aa];rfl
theorem K1 {S:List Int}:∀ {k:Nat} {n:Int} {c:List Int},dp S k n=some c-> ∀ x ∈ c,(0 <=x/\x <S.length)/\ ∃ k' bF,dp S k' x=some bF/\bF.length<=c.length/\bF≠ []
 | 0,n,c,h,x,ad=>by
   simp only [dp] at h
   split at h
   · injection h with h;subst h;cases ad
   · cases h
 | k+ 1,n,c,h,x,ad=>by
   have aP:=h
   rw [dp] at h
   split at h
   · injection h with h;subst h;cases ad
   · rename_i aF
     cases hi:idx S n with
     | none=>rw [hi] at h;cases h
     | some m=>
       rw [hi,Option.bind_some] at h
       cases hu:dp S k m with
       | none=>rw [hu] at h;cases h
       | some bF=>
         rw [hu] at h
         simp only [Option.map_some,Option.some.injEq] at h
         subst h
         obtain ⟨vq,dO,_⟩:=j0 hi
         rcases List.mem_cons.1 ad with rfl | e
         · exact ⟨⟨by omega,by omega⟩,k+ 1,_,aP,Nat.le_refl _,by simp⟩
         · obtain ⟨I,k',c2,aa,au,bb⟩:=K1 hu x e
           exact ⟨I,k',c2,aa,by simp only [List.length_cons];omega,bb⟩
theorem adQ {S:List Int}:∀ {k:Nat} {n:Int} {c:List Int},dp S k n=some c->c.Nodup
 | 0,n,c,h=>by
   simp only [dp] at h
   split at h
   · injection h with h;subst h;simp
   · cases h
 | k+ 1,n,c,h=>by
   have aP:=h
   rw [dp] at h
   split at h
   · injection h with h;subst h;simp
   · cases hi:idx S n with
     | none=>rw [hi] at h;cases h
     | some m=>
       rw [hi,Option.bind_some] at h
       cases hu:dp S k m with
       | none=>rw [hu] at h;cases h
       | some bF=>
         rw [hu] at h
         simp only [Option.map_some,Option.some.injEq] at h
         subst h
         refine List.nodup_cons.2 ⟨fun f_=>?_,adQ hu⟩
         obtain ⟨_,k',c2,aa,au,_⟩:=K1 hu n f_
         have:=azt aP aa
         subst this
         simp only [List.length_cons] at au
         omega
theorem RJ:∀ (n:Nat) (c:List Nat),c.Nodup->(∀ x ∈ c,x <n)->c.length<=n
 | 0,c,_,h=>by
   cases c with
   | nil=>simp
   | cons x r=>exact absurd (h x (by simp)) (by omega)
 | n+ 1,c,aN,h=>by
   by_cases aF:n ∈ c
   · have I:=RJ n (c.erase n) (aN.erase n) (fun x ad=>by
      have aa:=(aN.mem_erase_iff).1 ad
      have:=h x aa.2
      omega)
     rw [List.length_erase_of_mem aF] at I
     omega
   · have:=RJ n c aN (fun x ad=>by
      have I:=h x ad
      have:x≠n:=fun e=>aF (e ▸ ad)
      omega)
     omega
theorem adP {S:List Int} {k:Nat} {n:Int} {c:List Int} (h:dp S k n=some c):c.length<=S.length:=by
 have aH:=K1 h
 have aN:=adQ h
 have:=RJ S.length (c.map Int.toNat) (by
  rw [List.Nodup,List.pairwise_map]
  refine List.Pairwise.imp_of_mem ?_ aN
  intro a b aD ah yJ e
  have I:=(aH a aD).1
  have aa:=(aH b ah).1
  exact yJ (by omega)) (fun x ad=>by
  obtain ⟨y,hy,rfl⟩:=List.mem_map.1 ad
  have I:=(aH y hy).1
  omega)
 simpa using this
theorem azs {S:List Int} {k:Nat} {n:Int} (ai:S.length<=k):dp S k n=dp S S.length n:=by
 cases h:dp S k n with
 | some c=>
   obtain ⟨_,aa⟩:=adR h
   exact (K0 aa (adP h)).symm
 | none=>
   cases h':dp S S.length n with
   | none=>rfl
   | some c=>rw [K0 h' ai] at h;cases h
theorem amw {m:List (List UInt8 × Int)} {S:List Int} {k:Nat} {n:Int} {c:List Int} (h:dp S k n=some c) (hc:c.length<= 1000) (aI:1001 <F):pK F ⟨l,m,S⟩ n=some c:=by
 have key:∀ (k:Nat) (n:Int) (c acc:List Int) (f:Nat),dp S k n=some c->c.length <f->acc.length+c.length<= 1000 ->pL ⟨l,m,S⟩ f acc n=some (acc++c):=by
  intro k
  induction k with
  | zero=>
    intro n c acc f h ag _
    obtain ⟨f,rfl⟩:∃ b8,f=b8+ 1 :=⟨f - 1,by omega⟩
    simp only [dp] at h
    split at h
    · injection h with h
      subst h
      rw [pL,decide_eq_false (by omega)]
      simp
    · cases h
  | succ k bi=>
    intro n c acc f h ag ap
    obtain ⟨f,rfl⟩:∃ b8,f=b8+ 1 :=⟨f - 1,by omega⟩
    rw [dp] at h
    split at h
    · injection h with h
      subst h
      rw [pL,decide_eq_false (by omega)]
      simp
    · rename_i aF
      cases hi:idx S n with
      | none=>rw [hi] at h;cases h
      | some x=>
        rw [hi,Option.bind_some] at h
        cases hu:dp S k x with
        | none=>rw [hu] at h;cases h
        | some bF=>
          rw [hu] at h
          simp only [Option.map_some,Option.some.injEq] at h
          subst h
          simp only [List.length_cons] at ag ap
          rw [pL,decide_eq_true (by omega),cond_true]
          unfold bO
          rw [if_pos (by simp only [List.length_cons,List.length_nil];omega)]
          show ((some (acc++[n])).bind fun E7=>(idx S n).bind fun nI=>_)=_
          rw [Option.bind_some,hi,Option.bind_some,bi x bF (acc++[n]) f hu (by omega) (by simp only [List.length_append,List.length_cons,List.length_nil];omega)]
          simp
 unfold pK
 rw [key k n c [] F h (by omega) (by simp;omega)]
 rfl
end
end J
namespace J
section
variable {F:Nat} {l:List aq}
theorem CE:(dd l).length=l.length:=by simp [dd]
theorem tX {n:Int} (aP:0 <=n) (I:n <l.length):∃ x,idx l n=some x/\idx (dd l) n=some (cL l x.cS):=by
 obtain ⟨x,ad⟩:∃ x,l[n.toNat]? =some x:=⟨l[n.toNat]'(by omega),List.getElem?_eq_getElem _⟩
 refine ⟨x,?_,?_⟩
 · unfold idx;rw [if_pos aP,ad]
 · unfold idx;rw [if_pos aP,TB ad]
def TP (o:Option (List Int)) (acc:List Int):Way (List Int) (List Int):=match o with
 | some c=>.go (c.reverse++acc)
 | none=>.out []
def dw (l:List aq) (n:Int):List Int:=(dp (dd l) l.length n).getD []
theorem KZ (aI:1100 <F) (h:Right l) {n:Int} (I:n <l.length):u1 F l n=some (dw l n).reverse:=by
 have hlen:=h.len
 have key:∀ (d:Nat) (acc:List Int) (n:Int) (f:Nat),acc.length+d=l.length+ 1 ->d+ 1 <f->n <l.length->ym F l f n acc=some (TP (dp (dd l) d n) acc):=by
  intro d
  induction d with
  | zero=>
    intro acc n f aD ag aF
    obtain ⟨f,rfl⟩:∃ b8,f=b8+ 1 :=⟨f - 1,by omega⟩
    rw [ym,dp]
    by_cases aP:n < 0
    · rw [if_pos aP,decide_eq_false (by omega)];rfl
    · rw [if_neg aP,decide_eq_true (by omega),cond_true,decide_eq_true (by omega)];rfl
  | succ d bi=>
    intro acc n f aD ag aF
    obtain ⟨f,rfl⟩:∃ b8,f=b8+ 1 :=⟨f - 1,by omega⟩
    rw [ym,dp]
    by_cases aP:n < 0
    · rw [if_pos aP,decide_eq_false (by omega)];rfl
    · obtain ⟨x,ad,ao⟩:=tX (l:=l) (n:=n) (by omega) aF
      rw [if_neg aP,decide_eq_true (by omega),cond_true,decide_eq_false (by omega),cond_false]
      unfold bO
      rw [if_pos (by simp only [List.length_cons,List.length_nil];omega)]
      show ((some ([n]++acc)).bind fun aas=>(idx l n).bind fun aeF=>_)=_
      rw [Option.bind_some,ad,Option.bind_some,uW ⟨by omega,by omega⟩,Option.bind_some,ao,Option.bind_some,bi ([n]++acc) _ f (by simp only [List.length_append,List.length_cons,List.length_nil];omega) (by omega) MO]
      cases dp (dd l) d (cL l x.cS) with
      | none=>rfl
      | some c=>simp [TP]
 unfold u1
 rw [key (l.length+ 1) [] n F (by simp) (by omega) I,azs (k:=l.length+ 1) (by rw [CE];omega),CE]
 unfold dw
 cases dp (dd l) l.length n with
 | none=>rfl
 | some c=>simp [TP,cj]
def su (l:List aq) (i:Nat):Option Int:=if (dp (dd l) l.length (i:Int)).isSome then none else some 4
theorem TN {S:List Int} {k:Nat} {n:Int} {c:List Int} (h:dp S k n=some c) (aP:0 <=n):∃ r,c=n::r:=by
 cases k with
 | zero=>simp only [dp] at h;rw [if_neg (by omega)] at h;cases h
 | succ k=>
   rw [dp,if_neg (by omega)] at h
   cases hi:idx S n with
   | none=>rw [hi] at h;cases h
   | some m=>
     rw [hi,Option.bind_some] at h
     cases hu:dp S k m with
     | none=>rw [hu] at h;cases h
     | some bF=>rw [hu] at h;simp only [Option.map_some,Option.some.injEq] at h;exact ⟨bF,h.symm⟩
theorem am2 (aI:1100 <F) (h:Right l):xY F l F 0 =some (cv ((List.range l.length).findSome? (su l))):=jC _ (by have:=h.len;omega) (fun k i hi=>by
 rw [xY,bL hi,cond_true,KZ aI h (by omega),Option.bind_some]
 unfold su dw
 cases hu:dp (dd l) l.length (i:Int) with
 | none=>rfl
 | some c=>
   obtain ⟨r,rfl⟩:=TN hu (by omega)
   rw [decide_eq_false (by simp;omega)]
   rfl) (fun k=>by rw [xY,bK];rfl) (by have:=h.len;omega)
theorem W6 (h:Right l) (m:List (List UInt8 × Int)) (s:List Int):∀ (d i f:Nat) (n:Int),i+d=l.length->d <f-> 0 <=n->n <l.length-> ∃ r,rb ⟨l,m,s⟩ (dd l) f n i=some r/\(r < 0 ↔ (dp (dd l) d n).isSome=true)
 | 0,i,f,n,hi,ag,aP,aF=>by
   obtain ⟨f,rfl⟩:∃ b8,f=b8+ 1 :=⟨f - 1,by omega⟩
   have:i=l.length:=by omega
   subst this
   refine ⟨n,?_,?_⟩
   · rw [rb]
     show cond (decide ((l.length:Int) <(l.length:Int))) _ _=_
     rw [bK];rfl
   · rw [dp,if_neg (by omega)];simp;omega
 | d+ 1,i,f,n,hi,ag,aP,aF=>by
   obtain ⟨f,rfl⟩:∃ b8,f=b8+ 1 :=⟨f - 1,by omega⟩
   obtain ⟨x,ad,ao⟩:=tX (l:=l) (n:=n) aP aF
   have hlen:=h.len
   rw [rb]
   have hc:decide ((i:Int) <((⟨l,m,s⟩:bn).l.length:Int))=true:=bL (n:=l.length) (by omega)
   rw [hc,cond_true,ao,Option.bind_some,dp,if_neg (by omega),ao,Option.bind_some]
   by_cases EI:cL l x.cS < 0
   · rw [decide_eq_true EI,cond_true]
     refine ⟨_,rfl,?_⟩
     have:dp (dd l) d (cL l x.cS)=some []:=by cases d <;> simp [dp,EI]
     rw [this];simp [EI]
   · rw [decide_eq_false EI,cond_false,fs (n:=l.length) (by omega) (by omega)]
     obtain ⟨r,I,aa⟩:=W6 h m s d (i+ 1) f (cL l x.cS) (by omega) (by omega) (by omega) MO
     refine ⟨r,I,aa.trans ?_⟩
     simp
theorem am1 (aI:1100 <F) (h:Right l) (m:List (List UInt8 × Int)) (s:List Int):pJ F ⟨l,m,s⟩ (dd l) F 0 =some (cv (((List.range l.length).findSome? (su l)).map fun e=>(e,(⟨l,m,dd l⟩:bn)))):=by
 have hlen:=h.len
 have:=jC (n:=l.length) (L:=pJ F ⟨l,m,s⟩ (dd l)) (fun i=>(su l i).map fun e=>(e,(⟨l,m,dd l⟩:bn))) (by omega) (fun k i hi=>by
  rw [pJ]
  have hc:decide ((i:Int) <((⟨l,m,s⟩:bn).l.length:Int))=true:=bL (n:=l.length) hi
  obtain ⟨r,I,aa⟩:=W6 h m s l.length 0 F (i:Int) (by omega) (by omega) (by omega) (by omega)
  rw [hc,cond_true,show (0 :Int)=((0 :Nat):Int) from rfl,I]
  simp only [Option.bind_some]
  unfold su
  cases hu:(dp (dd l) l.length (i:Int)).isSome with
  | true=>rw [if_pos rfl,decide_eq_false (show ¬ ((0 :Nat):Int)<=r from fun aB=>by have:=aa.2 hu;omega)];rfl
  | false=>rw [if_neg (by simp),decide_eq_true (show ((0 :Nat):Int)<=r from by
   rcases Int.lt_or_le r 0 with aB | aB
   · have:=aa.1 aB;rw [hu] at this;cases this
   · exact aB)];rfl) (fun k=>by
    rw [pJ]
    show cond (decide ((l.length:Int) <(l.length:Int))) _ _=_
    rw [bK];rfl) (F:=F) (by omega)
 rw [this,Ip]
structure hq (l:List aq):Prop where
 right:Right l
 aEq:xM l
 aEp:∀ c ∈ l,c.cS= []\/ 0 <=cL l c.cS
 up:∀ i,i <l.length-> ∃ c,dp (dd l) l.length (i:Int)=some c
 top:∀ c ∈ l,rO c=none
 obj:0 <=cL l [79,98,106,101,99,116]
theorem hq.chain (h:hq l) {n:Int} (aP:0 <=n) (I:n <l.length):dp (dd l) l.length n=some (dw l n)/\(dw l n).length<= 10 /\(∀ x ∈ dw l n,0 <=x/\x <l.length):=by
 obtain ⟨c,hc⟩:=h.up n.toNat (by omega)
 rw [show ((n.toNat:Nat):Int)=n by omega] at hc
 have e:dw l n=c:=by unfold dw;rw [hc];rfl
 rw [e]
 refine ⟨hc,?_,fun x ad=>?_⟩
 · have:=adP hc;rw [CE] at this;have:=h.right.len;omega
 · have:=(K1 hc x ad).1;rw [CE] at this;exact this
theorem hq.QP (h:hq l) (aI:1100 <F) (m:List (List UInt8 × Int)) {n:Int} (aP:0 <=n) (I:n <l.length):pK F ⟨l,m,dd l⟩ n=some (dw l n):=by
 obtain ⟨hc,ap,_⟩:=h.chain aP I
 exact amw (l:=l) hc (by omega) (by omega)
def l0 (l:List aq) (i:Int):List Field:=((idx l i).map (·.Fields)).getD []
def e9 (l:List aq) (n:Int):List Field:=(dw l n).reverse.flatMap (l0 l)
theorem NI (h:Right l) (i:Int):(l0 l i).length<= 6 :=by
 unfold l0
 cases ad:idx l i with
 | none=>simp
 | some x=>
   obtain ⟨_,_,aa⟩:=j0 ad
   exact h.fields x (List.mem_of_getElem? aa)
theorem NJ (h:Right l):∀ r:List Int,(r.flatMap (l0 l)).length<= 6 *r.length
 | []=>by simp
 | x::r=>by
   have I:=NI h x
   have aa:=NJ h r
   simp only [List.flatMap_cons,List.length_append,List.length_cons]
   omega
theorem Yv (h:Right l) (m:List (List UInt8 × Int)) (s:List Int):∀ (rem:List Int) (acc:List Field),(∀ x ∈ rem,0 <=x/\x <l.length)->acc.length+ 6 *rem.length<= 1000 ->vV ⟨l,m,s⟩ rem acc=some (acc++rem.flatMap (l0 l))
 | [],acc,_,_=>by simp [vV]
 | x::rem,acc,ad,ap=>by
   obtain ⟨c,hc,_⟩:=tX (l:=l) (ad x (by simp)).1 (ad x (by simp)).2
   have ag:l0 l x=c.Fields:=by unfold l0;rw [hc];rfl
   have I:=NI h x
   rw [ag] at I
   simp only [List.length_cons] at ap
   rw [vV]
   show ((idx l x).bind fun xv=>_)=_
   rw [hc,Option.bind_some]
   unfold bO
   rw [if_pos (by omega),Option.bind_some,Yv h m s rem _ (fun y hy=>ad y (by simp [hy])) (by simp only [List.length_append];omega),List.flatMap_cons,ag]
   simp
theorem hq.QQ (h:hq l) (aI:1100 <F) (m:List (List UInt8 × Int)) {n:Int} (aP:0 <=n) (I:n <l.length):rc F ⟨l,m,dd l⟩ n=some (e9 l n):=by
 obtain ⟨_,ap,hm⟩:=h.chain aP I
 unfold rc
 have:=h.QP aI m aP I
 simp only at this ⊢
 rw [this,Option.bind_some]
 unfold F_
 rw [Option.bind_some,Yv h.right m (dd l) _ [] (fun x ad=>hm x (by simpa using ad)) (by simp;omega)]
 simp [e9]
theorem hq.S7 (h:hq l) (aI:1100 <F) {n:Int} (aP:0 <=n) (I:n <l.length):xN F l n=some (e9 l n):=by
 obtain ⟨_,ap,hm⟩:=h.chain aP I
 unfold xN
 rw [KZ aI h.right I,Option.bind_some]
 have:qw l (dw l n).reverse F [] 0 =some (e9 l n):=by
  refine Jt (n:=(dw l n).reverse.length) (fun k i=>qw l (dw l n).reverse k (((dw l n).reverse.take i).flatMap (l0 l)) (i:Int)) (e9 l n) (fun k i hi=>?_) (fun k=>?_) (F:=F) (by simp;omega)
  · obtain ⟨x,ad⟩:∃ x,(dw l n).reverse[i]? =some x:=⟨(dw l n).reverse[i],List.getElem?_eq_getElem hi⟩
    have ah:=hm x (by simpa using List.mem_of_getElem? ad)
    obtain ⟨c,hc,_⟩:=tX (l:=l) ah.1 ah.2
    have ag:l0 l x=c.Fields:=by unfold l0;rw [hc];rfl
    have aa:=NI h.right x
    rw [ag] at aa
    have au:=NJ h.right ((dw l n).reverse.take i)
    simp only [List.length_take,List.length_reverse] at au hi
    show qw l (dw l n).reverse (k+ 1) (((dw l n).reverse.take i).flatMap (l0 l)) (i:Int)=_
    rw [qw,bL (by simpa using hi),cond_true,bt ad,Option.bind_some,hc,Option.bind_some]
    unfold bO
    rw [if_pos (by omega),Option.bind_some,fs (n:=(dw l n).length) hi (by omega),List.take_add_one,ad,List.flatMap_append]
    simp [ag]
  · show qw l (dw l n).reverse (k+ 1) (((dw l n).reverse.take (dw l n).reverse.length).flatMap (l0 l)) ((dw l n).reverse.length:Int)=_
    rw [qw,bK,List.take_length];rfl
 rw [this];rfl
end
end J
namespace J
section
variable {F:Nat} {l:List aq}
abbrev b6:=List (List UInt8) × List Target
def nb (nm:List UInt8) (x:List UInt8):Bool:=decide (nm=x)
def sf (p:b6) (nm:List UInt8) (t:Target):b6:=match ev (nb nm) p.1 with
 | some k=>(p.1,p.2.set k t)
 | none=>(p.1 ++[nm],p.2 ++[t])
def pb (ci:Int):List Method->Nat->b6->b6
 | [],_,p=>p
 | m::r,k,p=>pb ci r (k+ 1) (sf p m.Name ⟨ci,k⟩)
def eM (l:List aq) (i:Int):List Method:=((idx l i).map (·.bd)).getD []
def u7 (l:List aq):List Int->b6->b6
 | [],p=>p
 | ci::r,p=>u7 l r (pb ci (eM l ci) 0 p)
def gJ (l:List aq) (n:Int):b6:=u7 l (dw l n).reverse ([],[])
theorem Mx {p:b6} {nm:List UInt8} {t:Target} (h:p.1.length=p.2.length):(sf p nm t).1.length=(sf p nm t).2.length/\(sf p nm t).1.length<=p.1.length+ 1 :=by
 unfold sf
 cases ev (nb nm) p.1 with
 | some k=>simp [h]
 | none=>simp [h]
theorem Mw {ci:Int}:∀ {r:List Method} {k:Nat} {p:b6},p.1.length=p.2.length->(pb ci r k p).1.length=(pb ci r k p).2.length/\(pb ci r k p).1.length<=p.1.length+r.length
 | [],_,p,h=>⟨h,Nat.le_refl _⟩
 | m::r,k,p,h=>by
   obtain ⟨I,aa⟩:=Mx (nm:=m.Name) (t:=⟨ci,k⟩) h
   obtain ⟨au,bb⟩:=Mw (ci:=ci) (r:=r) (k:=k+ 1) I
   exact ⟨au,by simp only [pb,List.length_cons];omega⟩
theorem ar0 {cq:List (List UInt8)} (h:Small F cq.length) (nm:List UInt8):Gk F cq nm=some (((ev (nb nm) cq).map fun n:Nat=>(n:Int)).getD (-1)):=by
 unfold Gk
 have l1:wZ cq nm F 0 =some (cv ((ev (nb nm) cq).map fun n:Nat=>(n:Int))):=NG (nb nm) _ h.1 (fun k i x ad=>by
  rw [wZ,bL (List.getElem?_eq_some_iff.1 ad).1,cond_true,bt ad,Option.bind_some];rfl) (fun k=>by rw [wZ,bK];rfl) h.2
 rw [l1,jb]
 cases ev (nb nm) cq <;> rfl
theorem adq (aI:1100 <F) (ci:Int) (c:aq) (hc:c.bd.length<= 8):∀ (d i f:Nat) (p:b6),i+d=c.bd.length->d <f->p.1.length=p.2.length->p.1.length+d<= 1000 ->
 v3 F ci c f p.1 p.2 (i:Int)=some (pb ci (c.bd.drop i) i p)
 | 0,i,f,p,hi,ag,aH,_=>by
   obtain ⟨f,rfl⟩:∃ b8,f=b8+ 1 :=⟨f - 1,by omega⟩
   have:i=c.bd.length:=by omega
   subst this
   rw [v3,bK,List.drop_of_length_le (Nat.le_refl _)];rfl
 | d+ 1,i,f,p,hi,ag,aH,ap=>by
   obtain ⟨f,rfl⟩:∃ b8,f=b8+ 1 :=⟨f - 1,by omega⟩
   have cn:i <c.bd.length:=by omega
   obtain ⟨I,aa⟩:=Mx (nm:=c.bd[i].Name) (t:=⟨ci,i⟩) aH
   have next:=adq aI ci c hc d (i+ 1) f (sf p c.bd[i].Name ⟨ci,i⟩) (by omega) (by omega) I (by omega)
   rw [v3,bL cn,cond_true,bt (List.getElem?_eq_getElem cn),Option.bind_some,ar0 ⟨by omega,by omega⟩,Option.bind_some,List.drop_eq_getElem_cons cn,pb,<-next]
   unfold sf
   cases PS:ev (nb c.bd[i].Name) p.1 with
   | some k=>
     have ai:=RK PS
     simp only [Option.map_some,Option.getD_some]
     rw [decide_eq_true (show (0 :Int)<=(k:Int) by omega),cond_true,bt (List.getElem?_eq_getElem (show k <p.2.length by omega)),Option.bind_some,Option.bind_some,Option.bind_some,fs cn (by omega)]
     simp
   | none=>
     simp only [Option.map_none,Option.getD_none]
     rw [decide_eq_false (show ¬ (0 :Int)<= -1 by decide),cond_false]
     unfold bO
     rw [if_pos (by simp only [List.length_cons,List.length_nil];omega),Option.bind_some,if_pos (by simp only [List.length_cons,List.length_nil];omega),Option.bind_some,Option.bind_some,fs cn (by omega)]
theorem aa0 (h:Right l) (i:Int):(eM l i).length<= 8 :=by
 unfold eM
 cases ad:idx l i with
 | none=>simp
 | some x=>
   obtain ⟨_,_,aa⟩:=j0 ad
   exact h.methods x (List.mem_of_getElem? aa)
theorem adp (aI:1100 <F) (h:Right l) (m:List (List UInt8 × Int)) (s:List Int):∀ (rem:List Int) (p:b6),(∀ x ∈ rem,0 <=x/\x <l.length)->p.1.length=p.2.length->p.1.length+ 8 *rem.length<= 900 ->
 v0 F ⟨l,m,s⟩ rem p.1 p.2 =some (u7 l rem p)
 | [],p,_,_,_=>by simp [v0,u7]
 | x::rem,p,ad,aH,ap=>by
   obtain ⟨c,hc,_⟩:=tX (l:=l) (ad x (by simp)).1 (ad x (by simp)).2
   have hm:eM l x=c.bd:=by unfold eM;rw [hc];rfl
   have mW:=aa0 h x
   have D7:=mW
   rw [hm] at D7
   simp only [List.length_cons] at ap
   obtain ⟨dO,bE⟩:=Mw (ci:=x) (r:=eM l x) (k:=0) aH
   rw [v0]
   show (Option.bind (α:=(List (List UInt8)) × (List Target)) ((idx l x).bind fun fu=>_) _)=_
   rw [hc,Option.bind_some]
   have:=adq aI x c D7 c.bd.length 0 F p (by omega) (by omega) aH (by omega)
   rw [show ((0 :Nat):Int)= 0 from rfl] at this
   rw [this,List.drop_zero,Option.bind_some,Option.bind_some,u7,<-hm]
   exact adp aI h m s rem _ (fun y hy=>ad y (by simp [hy])) dO (by omega)
theorem hq.atV (h:hq l) (aI:1100 <F) (m:List (List UInt8 × Int)) {n:Int} (aP:0 <=n) (I:n <l.length):zv F ⟨l,m,dd l⟩ n=some (gJ l n):=by
 obtain ⟨_,ap,hm⟩:=h.chain aP I
 unfold zv
 have:=h.QP aI m aP I
 simp only at this ⊢
 rw [this,Option.bind_some]
 unfold F_
 rw [Option.bind_some,adp aI h.right m (dd l) _ ([],[]) (fun x ad=>hm x (by simpa using ad)) rfl (by simp;omega)]
 rfl
theorem ay9 (cq:List (List UInt8)) (m:Method) (h:Small F cq.length):o6 cq m F 0 =some (((ev (nb m.Name) cq).getD cq.length:Nat):Int):=by
 have key:∀ (d i f:Nat),i+d=cq.length->d <f->o6 cq m f (i:Int)=some ((i+(ev (nb m.Name) (cq.drop i)).getD d:Nat):Int):=by
  intro d
  induction d with
  | zero=>
    intro i f hi ag
    obtain ⟨f,rfl⟩:∃ b8,f=b8+ 1 :=⟨f - 1,by omega⟩
    have:i=cq.length:=by omega
    subst this
    rw [o6,bK,List.drop_of_length_le (Nat.le_refl _)];rfl
  | succ d bi=>
    intro i f hi ag
    obtain ⟨f,rfl⟩:∃ b8,f=b8+ 1 :=⟨f - 1,by omega⟩
    have cn:i <cq.length:=by omega
    rw [o6,bL cn,cond_true,bt (List.getElem?_eq_getElem cn),Option.bind_some,List.drop_eq_getElem_cons cn,ev]
    by_cases e:cq[i]=m.Name
    · rw [decide_eq_true e,if_pos (by simp [nb,e])];simp
    · rw [decide_eq_false e,if_neg (by simp [nb];exact fun h=>e h.symm)]
      simp only [Bool.not_false,cond_true]
      rw [fs cn h.1,bi (i+ 1) f (by omega) (by omega)]
      congr 2
      cases ev (nb m.Name) (cq.drop (i+ 1)) with
      | none=>simp;omega
      | some k=>simp;omega
 have:=key cq.length 0 F (by omega) h.2
 simpa using this
theorem adw (aI:1100 <F) (hk:List Int) (n:Nat) (ci:Int) (c:aq) (aB:hk[n]? =some ci) (qV:idx l ci=some c) (hc:c.bd.length<= 8):∀ (d i f:Nat) (p:b6),i+d=c.bd.length->d <f->p.1.length=p.2.length->p.1.length+d<= 1000 ->
 yk F l hk (n:Int) f p.2 p.1 (i:Int)=some ((pb ci (c.bd.drop i) i p).2,(pb ci (c.bd.drop i) i p).1)
 | 0,i,f,p,hi,ag,aH,_=>by
   obtain ⟨f,rfl⟩:∃ b8,f=b8+ 1 :=⟨f - 1,by omega⟩
   have:i=c.bd.length:=by omega
   subst this
   rw [yk,bt aB,Option.bind_some,qV,Option.bind_some,bK,List.drop_of_length_le (Nat.le_refl _)];rfl
 | d+ 1,i,f,p,hi,ag,aH,ap=>by
   obtain ⟨f,rfl⟩:∃ b8,f=b8+ 1 :=⟨f - 1,by omega⟩
   have cn:i <c.bd.length:=by omega
   obtain ⟨I,aa⟩:=Mx (nm:=c.bd[i].Name) (t:=⟨ci,i⟩) aH
   have next:=adw aI hk n ci c aB qV hc d (i+ 1) f (sf p c.bd[i].Name ⟨ci,i⟩) (by omega) (by omega) I (by omega)
   rw [yk,bt aB,Option.bind_some,qV,Option.bind_some,bL cn,cond_true,Option.bind_some,qV,Option.bind_some,bt (List.getElem?_eq_getElem cn),Option.bind_some,ay9 p.1 _ ⟨by omega,by omega⟩,Option.bind_some,List.drop_eq_getElem_cons cn,pb,<-next]
   unfold sf
   cases PS:ev (nb c.bd[i].Name) p.1 with
   | some k=>
     have ai:=RK PS
     simp only [Option.getD_some]
     rw [decide_eq_false (show ¬ ((k:Nat):Int)=(p.1.length:Int) by omega),cond_false,Option.bind_some]
     simp only [bt aB,Option.bind_some]
     rw [bt (List.getElem?_eq_getElem (show k <p.2.length by omega)),Option.bind_some,Option.bind_some,fs cn (by omega)]
     simp
   | none=>
     simp only [Option.getD_none,decide_true,cond_true]
     unfold bO
     rw [if_pos (by simp only [List.length_cons,List.length_nil];omega),Option.bind_some,if_pos (by simp only [List.length_cons,List.length_nil];omega),Option.bind_some,Option.bind_some]
     simp only [bt aB,Option.bind_some]
     rw [bt (i:=p.1.length) (x:=(⟨0,0⟩:Target)) (by rw [aH];simp),Option.bind_some,Option.bind_some,fs cn (by omega)]
     simp [aH,List.set_append]
theorem hq.ax6 (h:hq l) (aI:1100 <F) {n:Int} (aP:0 <=n) (I:n <l.length):Dy F l n=some (gJ l n):=by
 obtain ⟨_,ap,hm⟩:=h.chain aP I
 unfold Dy
 rw [KZ aI h.right I,Option.bind_some]
 have key:∀ (d i f:Nat) (p:b6),i+d=(dw l n).reverse.length->d <f->p.1.length=p.2.length->p.1.length+ 8 *d<= 900 ->yj F l (dw l n).reverse f p.2 p.1 (i:Int)=some ((u7 l ((dw l n).reverse.drop i) p).2,(u7 l ((dw l n).reverse.drop i) p).1):=by
  intro d
  induction d with
  | zero=>
    intro i f p hi ag _ _
    obtain ⟨f,rfl⟩:∃ b8,f=b8+ 1 :=⟨f - 1,by omega⟩
    have:i=(dw l n).reverse.length:=by omega
    subst this
    rw [yj,bK,List.drop_of_length_le (Nat.le_refl _)];rfl
  | succ d bi=>
    intro i f p hi ag aH IY
    obtain ⟨f,rfl⟩:∃ b8,f=b8+ 1 :=⟨f - 1,by omega⟩
    have cn:i <(dw l n).reverse.length:=by omega
    obtain ⟨ci,qV⟩:∃ x,(dw l n).reverse[i]? =some x:=⟨(dw l n).reverse[i],List.getElem?_eq_getElem cn⟩
    have ah:=hm ci (by simpa using List.mem_of_getElem? qV)
    obtain ⟨c,hc,_⟩:=tX (l:=l) ah.1 ah.2
    have EH:eM l ci=c.bd:=by unfold eM;rw [hc];rfl
    have mW:=aa0 h.right ci
    have D7:=mW
    rw [EH] at D7
    obtain ⟨dO,bE⟩:=Mw (ci:=ci) (r:=eM l ci) (k:=0) aH
    have t2:=adw (l:=l) aI (dw l n).reverse i ci c qV hc D7 c.bd.length 0 F p (by omega) (by omega) aH (by omega)
    rw [show ((0 :Nat):Int)= 0 from rfl] at t2
    have aqn:(dw l n).reverse[i]=ci:=by
     have:=List.getElem?_eq_getElem cn
     rw [qV] at this;exact (Option.some.inj this).symm
    rw [yj,bL cn,cond_true,t2,List.drop_zero,Option.bind_some,Option.bind_some,fs (n:=(dw l n).length) (by simpa using cn) (by omega),List.drop_eq_getElem_cons cn,aqn,u7,EH]
    rw [EH] at dO bE
    exact bi (i+ 1) f _ (by omega) (by omega) dO (by omega)
 have:=key (dw l n).reverse.length 0 F ([],[]) (by omega) (by simp;omega) rfl (by simp;omega)
 rw [show ((0 :Nat):Int)= 0 from rfl,List.drop_zero] at this
 simp only at this
 rw [this];rfl
end
end J
namespace J
theorem sd {α β:Type} {l:List α} (T:Nat->List β->Nat->Option (List β)) (g:α->List β) (B M:Nat) (bS:∀ x ∈ l,(g x).length<=B)
 (ao:∀ k (i:Nat) x acc,l[i]? =some x->acc.length+B<=M->T (k+ 1) acc i=T k (acc++g x) (i+ 1)) (he:∀ k acc,T (k+ 1) acc l.length=some acc) {F:Nat} (aI:l.length <F) {acc:List β} (eB:acc.length+B*l.length<=M) :
 T F acc 0 =some (acc++l.flatMap g):=by
 have key:∀ (d i k:Nat) (acc:List β),i+d=l.length->d <k->acc.length+B*d<=M->T k acc i=some (acc++(l.drop i).flatMap g):=by
  intro d
  induction d with
  | zero=>
    intro i k acc h ai _
    obtain ⟨k,rfl⟩:∃ k',k=k'+ 1 :=⟨k - 1,by omega⟩
    have hi:i=l.length:=by omega
    subst hi
    rw [he,List.drop_of_length_le (Nat.le_refl _)];simp
  | succ d bi=>
    intro i k acc h ai hm
    obtain ⟨k,rfl⟩:∃ k',k=k'+ 1 :=⟨k - 1,by omega⟩
    have hi:i <l.length:=by omega
    have ah:=bS l[i] (List.getElem_mem hi)
    rw [Nat.mul_succ] at hm
    rw [ao k i l[i] acc (List.getElem?_eq_getElem hi) (by omega),bi (i+ 1) k _ (by omega) (by omega) (by simp only [List.length_append];omega),List.drop_eq_getElem_cons hi,List.flatMap_cons,List.append_assoc]
 have:=key l.length 0 F acc (by omega) aI eB
 simpa using this
theorem abw {α β:Type} {g:α->Option β} {a:α}:[a].findSome? g=g a:=by rw [List.findSome?_cons];cases g a <;> rfl
theorem DY {α β cw:Type} (f:α->List β) (g:β->Option cw):∀ l:List α,(l.flatMap f).findSome? g=l.findSome? fun x=>(f x).findSome? g
 | []=>rfl
 | x::r=>by
   rw [List.flatMap_cons,List.findSome?_append,List.findSome?_cons,DY f g r]
   cases (f x).findSome? g <;> rfl
theorem vo {α β:Type} {g:α->List β} {B:Nat}:∀ {l:List α},(∀ x ∈ l,(g x).length<=B)->(l.flatMap g).length<=B*l.length
 | [],_=>by simp
 | x::r,h=>by
   have I:=h x (by simp)
   have aa:=vo (l:=r) (fun y hy=>h y (by simp [hy]))
   simp only [List.flatMap_cons,List.length_append,List.length_cons,Nat.mul_succ]
   omega
def ef (k:Kind):List (List UInt8):=if k.aq= [] then [] else [k.aq]
def mt (m:Method):List (List UInt8):=m.cy.flatMap ef++ef m.Returns++m.cC.map (·.aq)
def hs (c:aq):List (List UInt8):=c.Fields.flatMap (fun f=>ef f.Kind)++c.bd.flatMap mt
def qa (l:List aq):List (List UInt8):=l.flatMap hs
def jd (l:List aq) (s:List UInt8):Option Int:=if 0 <=cL l s then none else some 5
theorem s8 (k:Kind):(ef k).length<= 1 :=by unfold ef;split <;> simp
section
variable {F:Nat} {l:List aq}
theorem aa1 (h:Right l) {c:aq} (hc:c ∈ l) {m:Method} (hm:m ∈ c.bd):(mt m).length<= 9 :=by
 have I:=h.method c hc m hm
 have aa:=vo (l:=m.cy) (g:=ef) (B:=1) (fun k _=>s8 k)
 have au:=s8 m.Returns
 unfold mt
 simp only [List.length_append,List.length_map]
 omega
theorem W2 (h:Right l) {c:aq} (hc:c ∈ l):(hs c).length<= 78 :=by
 have I:=vo (l:=c.Fields) (g:=fun f=>ef f.Kind) (B:=1) (fun f _=>s8 f.Kind)
 have aa:=vo (l:=c.bd) (g:=mt) (B:=9) (fun m hm=>aa1 h hc hm)
 have au:=h.fields c hc
 have bb:=h.methods c hc
 unfold hs
 simp only [List.length_append]
 omega
theorem hY {b:Nat} {α:Type} {acc r:List α} (h:(acc.length+r.length)*b<= 140737488355328):bO b acc r=some (acc++r):=by unfold bO;rw [if_pos h]
theorem TL {acc:List (List UInt8)} (h:acc.length<= 5000) (k:Kind):zw k acc=some (acc++ef k):=by
 unfold zw ef
 by_cases e:k.aq= []
 · rw [decide_eq_true e,if_pos e];simp
 · rw [decide_eq_false e,if_neg e]
   simp only [Bool.not_false,cond_true]
   rw [hY (by simp only [List.length_cons,List.length_nil];omega)];rfl
theorem aza (aI:1100 <F) (h:Right l) (m:List (List UInt8 × Int)) (s:List Int):tw F ⟨l,m,s⟩ F [] 0 =some (qa l):=by
 have hlen:=h.len
 have:=sd (l:=l) (fun k acc i=>tw F ⟨l,m,s⟩ k acc (i:Int)) hs 78 2000 (fun c hc=>W2 h hc) (fun k i c acc ad sD=>by
  have hc:=List.mem_of_getElem? ad
  have g8:=h.fields c hc
  have mW:=h.methods c hc
  have hi:=(List.getElem?_eq_some_iff.1 ad).1
  have cp:∀ acc:List (List UInt8),acc.length<= 2000 ->tx c F acc 0 =some (acc++c.Fields.flatMap fun f=>ef f.Kind):=fun acc aD=>
   sd (l:=c.Fields) (fun k acc i=>tx c k acc (i:Int)) (fun f=>ef f.Kind) 1 3000 (fun f _=>s8 f.Kind) (fun k i f acc ad sD=>by
    have hi:=(List.getElem?_eq_some_iff.1 ad).1
    rw [tx,bL hi,cond_true,bt ad,Option.bind_some,TL (by omega),Option.bind_some,fs hi (by omega)]) (fun k acc=>by rw [tx,bK];rfl) (by omega) (by omega)
  have jp:∀ acc:List (List UInt8),acc.length<= 2100 ->pO F c F acc 0 =some (acc++c.bd.flatMap mt):=fun acc aD=>
   sd (l:=c.bd) (fun k acc i=>pO F c k acc (i:Int)) mt 9 3000 (fun m hm=>aa1 h hc hm) (fun k i m acc ad sD=>by
    have hm:=List.mem_of_getElem? ad
    have hi:=(List.getElem?_eq_some_iff.1 ad).1
    obtain ⟨bb,c0⟩:=h.method c hc m hm
    have zo:tz m F acc 0 =some (acc++m.cy.flatMap ef):=sd (l:=m.cy) (fun k acc i=>tz m k acc (i:Int)) ef 1 3100 (fun k _=>s8 k) (fun k i x acc ad sD=>by
     have hi:=(List.getElem?_eq_some_iff.1 ad).1
     rw [tz,bL hi,cond_true,bt ad,Option.bind_some,TL (by omega),Option.bind_some,fs hi (by omega)]) (fun k acc=>by rw [tz,bK];rfl) (by omega) (by omega)
    have ai:=vo (l:=m.cy) (g:=ef) (B:=1) (fun k _=>s8 k)
    have aD_:=s8 m.Returns
    have QA:∀ acc:List (List UInt8),acc.length<= 3200 ->pP m F acc 0 =some (acc++m.cC.flatMap fun h=>[h.aq]):=fun acc aD=>
     sd (l:=m.cC) (fun k acc i=>pP m k acc (i:Int)) (fun h=>[h.aq]) 1 3300 (fun k _=>by simp) (fun k i x acc ad sD=>by
      have hi:=(List.getElem?_eq_some_iff.1 ad).1
      rw [pP,bL hi,cond_true,bt ad,Option.bind_some,hY (by simp only [List.length_cons,List.length_nil];omega),Option.bind_some,fs hi (by omega)]) (fun k acc=>by rw [pP,bK];rfl) (by omega) (by omega)
    rw [pO,bL hi,cond_true,bt ad,Option.bind_some,zo,Option.bind_some,TL (k:=(⟨m.Returns.Kind,m.Returns.aq⟩:Kind)) (by simp only [List.length_append];omega),Option.bind_some,
     QA _ (by simp only [List.length_append];have:(ef (⟨m.Returns.Kind,m.Returns.aq⟩:Kind)).length<= 1 :=s8 _;omega),Option.bind_some,Option.bind_some,fs hi (by omega)]
    have e:(m.cC.flatMap fun h=>[h.aq])=m.cC.map (·.aq):=by
     induction m.cC with
     | nil=>rfl
     | cons x r bi=>rw [List.flatMap_cons,bi];rfl
    rw [e]
    unfold mt
    simp only [List.append_assoc]) (fun k acc=>by rw [pO,bK];rfl) (by omega) (by omega)
  have ai:=vo (l:=c.Fields) (g:=fun f=>ef f.Kind) (B:=1) (fun f _=>s8 f.Kind)
  rw [tw]
  have n':decide ((i:Int) <((⟨l,m,s⟩:bn).l.length:Int))=true:=bL (n:=l.length) hi
  rw [n',cond_true]
  show (Option.bind (α:=List (List UInt8)) ((idx l (i:Int)).bind fun gn=>_) _)=_
  rw [bt ad,Option.bind_some,cp acc (by omega),Option.bind_some,jp _ (by simp only [List.length_append];omega),Option.bind_some,Option.bind_some,fs hi (by omega)]
  unfold hs
  simp only [List.append_assoc]) (fun k acc=>by
   rw [tw]
   show cond (decide ((l.length:Int) <(l.length:Int))) _ _=_
   rw [bK];rfl) (F:=F) (by omega) (acc:=[]) (by simp;omega)
 simpa [qa] using this
theorem Ro (s:List UInt8):(dz (eO 0 l) s).isSome=decide (0 <=cL l s):=by
 rw [B8]
 unfold cL
 cases ev (iW s) l with
 | none=>simp
 | some i=>simp
theorem ay_ (aI:1100 <F) (h:Right l) (s:List Int):Fc F ⟨l,eO 0 l,s⟩=some (((qa l).findSome? (jd l)).getD 0):=by
 have hlen:=h.len
 unfold Fc
 have aM:=aza aI h (eO 0 l) s
 have sY:(qa l).length<= 780 :=by
  have:=vo (l:=l) (g:=hs) (B:=78) (fun c hc=>W2 h hc)
  unfold qa;omega
 rw [aM,Option.bind_some]
 have E8:v5 ⟨l,eO 0 l,s⟩ (qa l) F 0 =some (cv ((qa l).findSome? (jd l))):=each (jd l) (by omega) (fun k i x ad=>by
  rw [v5,bL (List.getElem?_eq_some_iff.1 ad).1,cond_true,bt ad,Option.bind_some]
  show cond (!(dz (eO 0 l) x).isSome) _ _=_
  rw [Ro]
  unfold jd
  by_cases e:0 <=cL l x
  · rw [decide_eq_true e,if_pos e];rfl
  · rw [decide_eq_false e,if_neg e];rfl) (fun k=>by rw [v5,bK];rfl) (by omega)
 rw [E8]
 cases (qa l).findSome? (jd l) <;> rfl
def mh (l:List aq) (k:Kind):Option Int:=(ef k).findSome? (jd l)
theorem adx {s:List UInt8}:jd l s=none\/jd l s=some 5 :=by unfold jd;split <;> simp
theorem qN {α:Type} {g:α->Option Int} {e:Int} (ay:∀ x,g x=none\/g x=some e):∀ r:List α,r.findSome? g=none\/r.findSome? g=some e
 | []=>.inl rfl
 | x::r=>by
   rw [List.findSome?_cons]
   rcases ay x with h | h
   · rw [h];exact qN ay r
   · rw [h];exact .inr rfl
theorem asl (k:Kind):mh l k=if k.aq= []\/ 0 <=cL l k.aq then none else some 5 :=by
 unfold mh ef jd
 by_cases e:k.aq= []
 · simp [e]
 · by_cases al:0 <=cL l k.aq <;> simp [e,al]
theorem Ms (h:Small F l.length) {BV:List Kind} (ai:Small F BV.length):yl F l BV=some (BV.findSome? (mh l)).isNone:=by
 unfold yl
 have l1:=each (l:=BV) (L:=u0 F BV l) (fun k=>(mh l k).map fun _=>false) ai.1 (fun k i x ad=>by
  rw [u0,bL (List.getElem?_eq_some_iff.1 ad).1,cond_true,bt ad,Option.bind_some,Option.bind_some,uW h,Option.bind_some,asl]
  by_cases e:x.aq= []
  · rw [if_pos (.inl e),decide_eq_true e];rfl
  · rw [decide_eq_false e]
    by_cases al:0 <=cL l x.aq
    · rw [if_pos (.inr al),decide_eq_false (show ¬ cL l x.aq < 0 by omega)];rfl
    · rw [if_neg (by simp [e,al]),decide_eq_true (show cL l x.aq < 0 by omega)];rfl) (fun k=>by rw [u0,bK];rfl) ai.2
 rw [l1,Ip]
 cases BV.findSome? (mh l) <;> rfl
theorem Qk {o:Option Int} (h:o=none\/o=some 5) (Y:Option (Way Int Unit)):cond (!o.isNone) (some (.out 5)) Y=gB o Y:=by rcases h with h | h <;> rw [h] <;> rfl
theorem Qs (k:Kind):mh l k=none\/mh l k=some 5 :=qN (fun _=>adx) _
theorem Gv {o cU:Option Int} {Y:Option (Way Int Unit)}:gB o (gB cU Y)=gB (o.or cU) Y:=by cases o <;> rfl
theorem ay' (aI:1100 <F) (h:Right l):uU F l F 0 =some (cv ((qa l).findSome? (jd l))):=by
 have hlen:=h.len
 have:=each (l:=l) (L:=uU F l) (fun c=>(hs c).findSome? (jd l)) (by omega) (fun k n c ad=>by
  have hc:=List.mem_of_getElem? ad
  have g8:=h.fields c hc
  have mW:=h.methods c hc
  have E8:xZ F l (n:Int) F 0 =some (cv (c.Fields.findSome? fun f=>mh l f.Kind)):=each (l:=c.Fields) (fun f=>mh l f.Kind) (by omega) (fun k i f hy=>by
   rw [xZ,bt ad,Option.bind_some,bL (List.getElem?_eq_some_iff.1 hy).1,cond_true,Option.bind_some,bt hy,Option.bind_some,Ms ⟨by omega,by omega⟩ ⟨by simp,by simp;omega⟩,Option.bind_some]
   have e:[(⟨f.Kind.Kind,f.Kind.aq⟩:Kind)].findSome? (mh l)=mh l f.Kind:=abw
   rw [e]
   exact Qk (Qs _) _) (fun k=>by rw [xZ,bt ad,Option.bind_some,bK];rfl) (by omega)
  have QE:x0 F l (n:Int) F 0 =some (cv (c.bd.findSome? fun m=>(mt m).findSome? (jd l))):=each (l:=c.bd) (fun m=>(mt m).findSome? (jd l)) (by omega) (fun k i m hy=>by
   have hm:=List.mem_of_getElem? hy
   obtain ⟨bb,c0⟩:=h.method c hc m hm
   have QF:x1 F l m F 0 =some (cv (m.cC.findSome? fun x=>jd l x.aq)):=each (l:=m.cC) (fun x=>jd l x.aq) (by omega) (fun k i x aj=>by
    rw [x1,bL (List.getElem?_eq_some_iff.1 aj).1,cond_true,bt aj,Option.bind_some,uW ⟨by omega,by omega⟩,Option.bind_some]
    unfold jd
    by_cases al:0 <=cL l x.aq
    · rw [if_pos al,decide_eq_false (show ¬ cL l x.aq < 0 by omega)];rfl
    · rw [if_neg al,decide_eq_true (show cL l x.aq < 0 by omega)];rfl) (fun k=>by rw [x1,bK];rfl) (by omega)
   have e:[(⟨m.Returns.Kind,m.Returns.aq⟩:Kind)].findSome? (mh l)=mh l m.Returns:=abw
   rw [x0,bt ad,Option.bind_some,bL (List.getElem?_eq_some_iff.1 hy).1,cond_true,Option.bind_some,bt hy,Option.bind_some,Ms ⟨by omega,by omega⟩ ⟨by omega,by omega⟩,Option.bind_some,Ms ⟨by omega,by omega⟩ ⟨by simp,by simp;omega⟩,Option.bind_some,QF,e,mz]
   rw [Qk (Qs _),Qk (qN (fun k=>Qs k) _),Gv,Gv,oO,mx]
   congr 1
   unfold mt
   rw [List.findSome?_append,List.findSome?_append,DY,List.findSome?_map]
   cases dH:m.cy.findSome? (mh l) with
   | some a=>
     have:(m.cy.findSome? fun x=>(ef x).findSome? (jd l))=some a:=dH
     rw [this];rfl
   | none=>
     have:(m.cy.findSome? fun x=>(ef x).findSome? (jd l))=none:=dH
     rw [this];rfl) (fun k=>by rw [x0,bt ad,Option.bind_some,bK];rfl) (by omega)
  rw [uU,bL (List.getElem?_eq_some_iff.1 ad).1,cond_true,E8,QE,mz,mz,Gv,oO,mx]
  congr 1
  unfold hs
  rw [List.findSome?_append,DY,DY]
  rfl) (fun k=>by rw [uU,bK];rfl) (F:=F) (by omega)
 rw [this,qa,DY]
end
end J
namespace J
theorem Jz {cJ β:Type} [DecidableEq cJ] {k:cJ} {v:β}:∀ m:List (cJ × β),(hD m k v).length=if (dz m k).isSome then m.length else m.length+ 1
 | []=>rfl
 | p::r=>by
   simp only [hD,dz]
   by_cases h:p.1 =k
   · simp [h]
   · simp only [if_neg h,List.length_cons,Jz r]
     split <;> rfl
theorem Fm {cJ β:Type} [DecidableEq cJ] {k s:cJ} {v:β}:∀ m:List (cJ × β),(dz (hD m k v) s).isSome=true ↔ s=k\/(dz m s).isSome=true
 | []=>by
   simp only [hD,dz]
   by_cases h:k=s
   · simp [h]
   · simp [h];exact fun e=>h e.symm
 | p::r=>by
   have bi:=Fm (k:=k) (s:=s) (v:=v) r
   simp only [hD]
   by_cases h:p.1 =k
   · rw [if_pos h]
     simp only [dz]
     by_cases e:k=s
     · simp [e]
     · have al: ¬ p.1 =s:=fun x=>e (h.symm.trans x)
       rw [if_neg e,if_neg al]
       constructor
       · exact fun x=>.inr x
       · rintro (x | x)
         · exact absurd x.symm e
         · exact x
   · rw [if_neg h]
     simp only [dz]
     by_cases e:p.1 =s
     · simp [e]
     · rw [if_neg e,if_neg e];exact bi
def sv (cq:List (List UInt8)):Option Int:=if cq.Nodup then none else some 6
section
variable {F:Nat} {l:List aq}
theorem adD (aI:1100 <F) {cq:List (List UInt8)} (aF:cq.length<= 1000):B0 F cq=some (decide (¬ cq.Nodup)):=by
 have key:∀ (d i k:Nat) (m:List (List UInt8 × Bool)),i+d=cq.length->d <k->(∀ s,(dz m s).isSome=true ↔ s ∈ cq.take i)->m.length<=i->(m.length=i ↔ (cq.take i).Nodup) ->
  ∃ eR,v7 cq k m (i:Int)=some eR/\eR.length<=cq.length/\(eR.length=cq.length ↔ cq.Nodup):=by
  intro d
  induction d with
  | zero=>
    intro i k m hi ai I aa au
    obtain ⟨k,rfl⟩:∃ k',k=k'+ 1 :=⟨k - 1,by omega⟩
    have:i=cq.length:=by omega
    subst this
    rw [List.take_length] at au
    exact ⟨m,by rw [v7,bK];rfl,aa,au⟩
  | succ d bi=>
    intro i k m hi ai I aa au
    obtain ⟨k,rfl⟩:∃ k',k=k'+ 1 :=⟨k - 1,by omega⟩
    have cn:i <cq.length:=by omega
    have ak:cq.take (i+ 1)=cq.take i++[cq[i]]:=by rw [List.take_add_one,List.getElem?_eq_getElem cn];rfl
    rw [v7,bL cn,cond_true,bt (List.getElem?_eq_getElem cn),Option.bind_some,fs cn (by omega)]
    refine bi (i+ 1) k _ (by omega) (by omega) (fun s=>?_) ?_ ?_
    · rw [Fm,I,ak,List.mem_append,List.mem_singleton]
      constructor
      · rintro (h | h)
        · exact .inr h
        · exact .inl h
      · rintro (h | h)
        · exact .inr h
        · exact .inl h
    · rw [Jz];split <;> omega
    · rw [Jz,ak,List.nodup_append]
      by_cases hm:(dz m cq[i]).isSome=true
      · rw [if_pos hm]
        have:=(I cq[i]).1 hm
        constructor
        · intro h;omega
        · rintro ⟨_,_,h⟩;exact absurd rfl (h _ this _ (by simp))
      · rw [if_neg hm]
        have:cq[i] ∉ cq.take i:=fun h=>hm ((I cq[i]).2 h)
        constructor
        · intro h
          exact ⟨au.1 (by omega),by simp,fun a aD b ah e=>by
           rw [List.mem_singleton] at ah;subst ah;exact this (e ▸ aD)⟩
        · rintro ⟨h,_,_⟩
          have:=au.2 h
          omega
 obtain ⟨eR,I,aa,au⟩:=key cq.length 0 F [] (by omega) (by omega) (fun s=>by simp [dz]) (by simp) (by simp)
 unfold B0
 rw [show (0 :Int)=((0 :Nat):Int) from rfl,I,Option.bind_some]
 congr 1
 by_cases aN:cq.Nodup
 · have:=au.2 aN
   rw [decide_eq_false (by omega),decide_eq_false (by simp [aN])]
 · have:eR.length≠cq.length:=fun e=>aN (au.1 e)
   rw [decide_eq_true (by omega),decide_eq_true aN]
def MZ {α:Type} (nm:α->List UInt8) (r:List α):Option Int:=(List.range r.length).findSome? fun k=>(List.range k).findSome? fun j=>if (r[j]?).map nm=(r[k]?).map nm then some 6 else none
theorem Xd {α:Type} (nm:α->List UInt8) (r:List α):MZ nm r=sv (r.map nm):=by
 have af:MZ nm r=none\/MZ nm r=some 6 :=qN (fun k=>qN (fun j=>by split <;> simp) _) _
 unfold sv
 by_cases aN:(r.map nm).Nodup
 · rw [if_pos aN]
   rcases af with h | h
   · exact h
   · exfalso
     obtain ⟨k,ai,I⟩:=List.exists_of_findSome?_eq_some h
     obtain ⟨j,az,aa⟩:=List.exists_of_findSome?_eq_some I
     simp only [List.mem_range] at ai az
     split at aa
     · rename_i e
       have:=List.pairwise_iff_getElem.1 aN j k (by simp;omega) (by simpa using ai) az
       apply this
       rw [List.getElem?_eq_getElem (by omega),List.getElem?_eq_getElem ai] at e
       simpa using e
     · cases aa
 · rw [if_neg aN]
   rcases af with h | h
   · exfalso
     apply aN
     refine List.pairwise_iff_getElem.2 fun j k az ai q2 e=>?_
     have I:=List.findSome?_eq_none_iff.1 h k (by simpa using ai)
     have aa:=List.findSome?_eq_none_iff.1 I j (by simpa using q2)
     simp only [List.length_map] at az ai
     rw [List.getElem?_eq_getElem az,List.getElem?_eq_getElem ai] at aa
     simp only [List.getElem_map] at e
     rw [if_pos (by simp [e])] at aa
     cases aa
   · exact h
theorem am_ (aI:1100 <F) (r:List Field) (aB:r.length<= 1000):xS F r F 0 =some (cv (sv (r.map (·.Name)))):=by
 rw [<-Xd]
 exact jC _ (by omega) (fun k i hi=>by
  have Qw:xT r (i:Int) F 0 =some (cv ((List.range i).findSome? fun j=>if (r[j]?).map (·.Name)=(r[i]?).map (·.Name) then some 6 else none)):=jC _ (by omega) (fun k j az=>by
   rw [xT,bL az,cond_true,bt (List.getElem?_eq_getElem (show j <r.length by omega)),Option.bind_some,bt (List.getElem?_eq_getElem hi),Option.bind_some,List.getElem?_eq_getElem (show j <r.length by omega),List.getElem?_eq_getElem hi]
   simp only [Option.map_some,Option.some.injEq]
   by_cases e:r[j].Name=r[i].Name
   · rw [decide_eq_true e,if_pos e];rfl
   · rw [decide_eq_false e,if_neg e];rfl) (fun k=>by rw [xT,bK];rfl) (by omega)
  rw [xS,bL hi,cond_true,Qw,mz,oO,mx]) (fun k=>by rw [xS,bK];rfl) (by omega)
theorem am' (aI:1100 <F) (c:aq) (aB:c.bd.length<= 1000):qy F c F 0 =some (cv (sv (c.bd.map (·.Name)))):=by
 rw [<-Xd]
 exact jC _ (by omega) (fun k i hi=>by
  have Qw:qz c (i:Int) F 0 =some (cv ((List.range i).findSome? fun j=>if (c.bd[j]?).map (·.Name)=(c.bd[i]?).map (·.Name) then some 6 else none)):=jC _ (by omega) (fun k j az=>by
   rw [qz,bL az,cond_true,bt (List.getElem?_eq_getElem (show j <c.bd.length by omega)),Option.bind_some,bt (List.getElem?_eq_getElem hi),Option.bind_some,List.getElem?_eq_getElem (show j <c.bd.length by omega),List.getElem?_eq_getElem hi]
   simp only [Option.map_some,Option.some.injEq]
   by_cases e:c.bd[j].Name=c.bd[i].Name
   · rw [decide_eq_true e,if_pos e];rfl
   · rw [decide_eq_false e,if_neg e];rfl) (fun k=>by rw [qz,bK];rfl) (by omega)
  rw [qy,bL hi,cond_true,Qw,mz,oO,mx]) (fun k=>by rw [qy,bK];rfl) (by omega)
def wE (l:List aq) (i:Nat):Option Int:=(sv ((e9 l i).map (·.Name))).or (sv ((eM l i).map (·.Name)))
theorem YD (h:hq l) {n:Int} (aP:0 <=n) (I:n <l.length):(e9 l n).length<= 60 :=by
 obtain ⟨_,ap,_⟩:=h.chain aP I
 have:=NJ h.right (dw l n).reverse
 unfold e9
 simp only [List.length_reverse] at this
 omega
theorem Xf {cq:List (List UInt8)} {Y:Option (Way Int Unit)}:cond (decide (¬ cq.Nodup)) (some (.out 6)) Y=gB (sv cq) Y:=by
 unfold sv
 by_cases h:cq.Nodup
 · rw [if_pos h,decide_eq_false (by simp [h])];rfl
 · rw [if_neg h,decide_eq_true h];rfl
theorem aaZ {i:Nat} {c:aq} (h:l[i]? =some c):eM l (i:Int)=c.bd:=by unfold eM;rw [bt h];rfl
theorem avi (aI:1100 <F) (h:hq l):x2 F l F 0 =some (cv ((List.range l.length).findSome? (wE l))):=by
 have hlen:=h.right.len
 exact jC _ (by omega) (fun k i hi=>by
  obtain ⟨c,ad⟩:∃ x,l[i]? =some x:=⟨l[i],List.getElem?_eq_getElem hi⟩
  have mW:=h.right.methods c (List.mem_of_getElem? ad)
  have Zp:=YD h (n:=(i:Int)) (by omega) (by omega)
  rw [x2,bL hi,cond_true,h.S7 aI (by omega) (by omega),Option.bind_some,am_ aI _ (by omega),mz,bt ad,Option.bind_some,am' aI c (by omega),mz,Gv,oO,mx]
  unfold wE
  rw [aaZ ad]) (fun k=>by rw [x2,bK];rfl) (by omega)
theorem avh (aI:1100 <F) (h:hq l) (m:List (List UInt8 × Int)):Fb F ⟨l,m,dd l⟩=some (((List.range l.length).findSome? (wE l)).getD 0):=by
 have hlen:=h.right.len
 have:=jC (n:=l.length) (L:=vZ F ⟨l,m,dd l⟩) (wE l) (by omega) (fun k i hi=>by
  obtain ⟨c,ad⟩:∃ x,l[i]? =some x:=⟨l[i],List.getElem?_eq_getElem hi⟩
  have mW:=h.right.methods c (List.mem_of_getElem? ad)
  have Zp:=YD h (n:=(i:Int)) (by omega) (by omega)
  have cp:tv (e9 l i) F [] 0 =some ((e9 l i).map (·.Name)):=by
   have:=sd (l:=e9 l i) (fun k acc i'=>tv (e9 l i) k acc (i':Int)) (fun f=>[f.Name]) 1 3000 (fun f _=>by simp) (fun k j x acc ad sD=>by
    have az:=(List.getElem?_eq_some_iff.1 ad).1
    rw [tv,bL az,cond_true,bt ad,Option.bind_some,hY (by simp only [List.length_cons,List.length_nil];omega),Option.bind_some,fs az (by omega)]) (fun k acc=>by rw [tv,bK];rfl) (F:=F) (by omega) (acc:=[]) (by simp;omega)
   rw [show (0 :Int)=((0 :Nat):Int) from rfl,this]
   congr 1
   rw [List.nil_append]
   induction e9 l i with
   | nil=>rfl
   | cons x r bi=>rw [List.flatMap_cons,bi];rfl
  have jp:pN c F [] 0 =some (c.bd.map (·.Name)):=by
   have:=sd (l:=c.bd) (fun k acc i'=>pN c k acc (i':Int)) (fun f=>[f.Name]) 1 3000 (fun f _=>by simp) (fun k j x acc ad sD=>by
    have az:=(List.getElem?_eq_some_iff.1 ad).1
    rw [pN,bL az,cond_true,bt ad,Option.bind_some,hY (by simp only [List.length_cons,List.length_nil];omega),Option.bind_some,fs az (by omega)]) (fun k acc=>by rw [pN,bK];rfl) (F:=F) (by omega) (acc:=[]) (by simp;omega)
   rw [show (0 :Int)=((0 :Nat):Int) from rfl,this]
   congr 1
   rw [List.nil_append]
   induction c.bd with
   | nil=>rfl
   | cons x r bi=>rw [List.flatMap_cons,bi];rfl
  rw [vZ]
  have n':decide ((i:Int) <((⟨l,m,dd l⟩:bn).l.length:Int))=true:=bL (n:=l.length) hi
  have aqk:=h.QQ aI m (n:=(i:Int)) (by omega) (by omega)
  rw [n',cond_true]
  show cW (α:=Unit) ((idx l (i:Int)).bind fun lF=>(rc F ⟨l,m,dd l⟩ (i:Int)).bind fun nq=>_) _=_
  rw [bt ad,Option.bind_some,aqk,Option.bind_some,cp,Option.bind_some,jp,Option.bind_some,adD aI (by simp;omega),Option.bind_some,adD aI (by simp;omega),Option.bind_some,Xf,Xf,Gv,oO,mx]
  unfold wE
  rw [aaZ ad]) (fun k=>by
   rw [vZ]
   show cond (decide ((l.length:Int) <(l.length:Int))) _ _=_
   rw [bK];rfl) (F:=F) (by omega)
 unfold Fb
 rw [this]
 cases (List.range l.length).findSome? (wE l) <;> rfl
theorem acX {a b:List Kind} (aD:a.length<= 1000) (ah:b.length<= 1000) (aI:1100 <F):sb F a b=some (decide (a=b)):=by
 unfold sb
 by_cases ap:a.length=b.length
 · rw [decide_eq_true (show (a.length:Int)=(b.length:Int) by omega)]
   simp only [Bool.not_true,cond_false]
   have l1:nX a b F 0 =some (cv ((List.range a.length).findSome? fun i=>if a[i]? =b[i]? then none else some false)):=jC _ (by omega) (fun k i hi=>by
    rw [nX,bL hi,cond_true,bt (List.getElem?_eq_getElem hi),Option.bind_some,bt (List.getElem?_eq_getElem (show i <b.length by omega)),Option.bind_some,List.getElem?_eq_getElem hi,List.getElem?_eq_getElem (show i <b.length by omega)]
    simp only [Option.some.injEq]
    by_cases e:a[i]=b[i]
    · rw [decide_eq_true e,if_pos e];rfl
    · rw [decide_eq_false e,if_neg e];rfl) (fun k=>by rw [nX,bK];rfl) (by omega)
   rw [l1,jb]
   cases ag:(List.range a.length).findSome? fun i=>if a[i]? =b[i]? then none else some false with
   | some e=>
     obtain ⟨i,hi,I⟩:=List.exists_of_findSome?_eq_some ag
     split at I
     · cases I
     · rename_i b5
       injection I with I
       subst I
       rw [decide_eq_false (fun e=>b5 (by rw [e]))];rfl
   | none=>
     rw [decide_eq_true];rfl
     apply List.ext_getElem?
     intro i
     by_cases hi:i <a.length
     · have:=List.findSome?_eq_none_iff.1 ag i (by simpa using hi)
       split at this
       · assumption
       · cases this
     · rw [List.getElem?_eq_none (by omega),List.getElem?_eq_none (by omega)]
 · rw [decide_eq_false (show ¬ (a.length:Int)=(b.length:Int) by omega),decide_eq_false (fun e=>ap (by rw [e]))];rfl
theorem aok {a b:List Kind} (aD:a.length<= 1000) (ah:b.length<= 1000) (aI:1100 <F):Gg F a b=some (decide (a=b)):=by
 rw [<-acX aD ah aI]
 unfold Gg sb
 have e:∀ k n,zT a b k n=nX a b k n:=by
  intro k
  induction k with
  | zero=>intro n;rfl
  | succ k bi=>intro n;rw [zT,nX];simp only [bi]
 rw [e]
def MQ (a b:Method):Bool:=decide (a.Name=b.Name) && (a.Static || b.Static || !decide (a.cy=b.cy) || !decide (a.Returns=b.Returns))
def n3 (a b:Method):Option Int:=if MQ a b then some 4 else none
def st (l:List aq) (c:aq) (u:Int):Option Int:=c.bd.findSome? fun a=>(eM l u).findSome? (n3 a)
def B3 (l:List aq) (c:aq) (i:Nat):Option Int:=(dw l i).tail.findSome? (st l c)
theorem amD (a b:Method):n3 a b=none\/n3 a b=some 4 :=by unfold n3;split <;> simp
theorem WO (c:aq) (u:Int):st l c u=none\/st l c u=some 4 :=qN (fun _=>qN (fun _=>amD _ _) _) _
theorem ao3 {α:Type} {g:α->Option Int} {e:Int} (ay:∀ x,g x=none\/g x=some e) (r:List α):r.reverse.findSome? g=r.findSome? g:=by
 rcases qN ay r with h | h
 · rw [h,List.findSome?_eq_none_iff]
   intro x ad
   exact List.findSome?_eq_none_iff.1 h x (by simpa using ad)
 · rw [h]
   rcases qN ay r.reverse with aa | aa
   · obtain ⟨x,ad,au⟩:=List.exists_of_findSome?_eq_some h
     have:=List.findSome?_eq_none_iff.1 aa x (by simpa using ad)
     rw [au] at this;cases this
   · exact aa
theorem aua (aI:1100 <F) (h:hq l) (m:List (List UInt8 × Int)):Fa F ⟨l,m,dd l⟩=some (((List.range l.length).findSome? fun i=>(l[i]?).bind fun c=>B3 l c i).getD 0):=by
 have hlen:=h.right.len
 have:=jC (n:=l.length) (L:=vW F ⟨l,m,dd l⟩) (fun i=>(l[i]?).bind fun c=>B3 l c i) (by omega) (fun k i hi=>by
  obtain ⟨c,ad⟩:∃ x,l[i]? =some x:=⟨l[i],List.getElem?_eq_getElem hi⟩
  have qX:=List.mem_of_getElem? ad
  have mW:=h.right.methods c qX
  obtain ⟨By,hL,jW⟩:=h.chain (n:=(i:Int)) (by omega) (by omega)
  obtain ⟨r,aB⟩:=TN By (by omega)
  have zo:∀ (a:Method),a ∈ c.bd-> ∀ (u:aq),u ∈ l->pM F a u F 0 =some (cv (u.bd.findSome? (n3 a))):=fun a aD u hu=>each (n3 a) (by have:=h.right.methods u hu;omega) (fun k j b ah=>by
   have Pa:=List.mem_of_getElem? ah
   have apK:=h.right.method c qX a aD
   have apQ:=h.right.method u hu b Pa
   rw [pM,bL (List.getElem?_eq_some_iff.1 ah).1,cond_true,bt ah,Option.bind_some]
   unfold Jm
   simp only
   rw [aok (by omega) (by omega) aI]
   unfold n3 MQ
   show cond _ (Option.bind (cond _ (Option.bind _ fun r=>cond r (some (decide (a.Returns=b.Returns))) _) _) _) _=_
   by_cases aF:a.Name=b.Name
   · rw [decide_eq_true aF]
     simp only [Option.bind_some,cond_true,Bool.true_and]
     cases a.Static <;> cases b.Static <;> cases decide (a.cy=b.cy) <;> cases decide (a.Returns=b.Returns) <;> rfl
   · rw [decide_eq_false aF];rfl) (fun k=>by rw [pM,bK];rfl) (by have:=h.right.methods u hu;omega)
  have jp:∀ (x:Int),0 <=x->x <l.length->vY F ⟨l,m,dd l⟩ c x F 0 =some (cv (st l c x)):=fun x aP I=>each (fun a=>(eM l x).findSome? (n3 a)) (by omega) (fun k j a aD=>by
   obtain ⟨u,hu,_⟩:=tX (l:=l) aP I
   have q6:u ∈ l:=by obtain ⟨_,_,aa⟩:=j0 hu;exact List.mem_of_getElem? aa
   have hm:eM l x=u.bd:=by unfold eM;rw [hu];rfl
   rw [vY,bL (List.getElem?_eq_some_iff.1 aD).1,cond_true,bt aD,Option.bind_some]
   show cW (α:=Unit) ((idx l x).bind fun kP=>_) _=_
   rw [hu,Option.bind_some,zo a (List.mem_of_getElem? aD) u q6,mz,oO,mx,hm]) (fun k=>by rw [vY,bK];rfl) (by omega)
  have cp:vX F ⟨l,m,dd l⟩ c (dw l i).tail F 0 =some (cv ((dw l i).tail.findSome? (st l c))):=each (st l c) (by simp;omega) (fun k j x P6=>by
   have ah:=jW x (List.mem_of_mem_tail (List.mem_of_getElem? P6))
   rw [vX,bL (List.getElem?_eq_some_iff.1 P6).1,cond_true,bt P6,Option.bind_some,jp x ah.1 ah.2,mz,oO,mx]) (fun k=>by rw [vX,bK];rfl) (by simp;omega)
  rw [vW]
  have n':decide ((i:Int) <((⟨l,m,dd l⟩:bn).l.length:Int))=true:=bL (n:=l.length) hi
  have aqH:=h.QP aI m (n:=(i:Int)) (by omega) (by omega)
  rw [n',cond_true]
  show cW (α:=Unit) ((idx l (i:Int)).bind fun hQ=>(pK F ⟨l,m,dd l⟩ (i:Int)).bind fun SR=>_) _=_
  have qY:cut (dw l i) 1 ((dw l i).length:Int)=some (dw l i).tail:=by
   unfold cut
   rw [if_pos (by rw [aB];simp only [List.length_cons];omega)]
   rw [aB];simp
  rw [bt ad,Option.bind_some,aqH,Option.bind_some,qY,Option.bind_some,cp,mz,oO,mx,ad]
  rfl) (fun k=>by
   rw [vW]
   show cond (decide ((l.length:Int) <(l.length:Int))) _ _=_
   rw [bK];rfl) (F:=F) (by omega)
 unfold Fa
 rw [this]
 cases (List.range l.length).findSome? (fun i=>(l[i]?).bind fun c=>B3 l c i) <;> rfl
theorem aub (aI:1100 <F) (h:hq l):xU F l F 0 =some (cv ((List.range l.length).findSome? fun i=>(l[i]?).bind fun c=>B3 l c i)):=by
 have hlen:=h.right.len
 exact jC _ (by omega) (fun k i hi=>by
  obtain ⟨c,ad⟩:∃ x,l[i]? =some x:=⟨l[i],List.getElem?_eq_getElem hi⟩
  have qX:=List.mem_of_getElem? ad
  have mW:=h.right.methods c qX
  obtain ⟨By,hL,jW⟩:=h.chain (n:=(i:Int)) (by omega) (by omega)
  obtain ⟨r,aB⟩:=TN By (by omega)
  have arh:(dw l i).reverse=(dw l i).tail.reverse++[(i:Int)]:=by rw [aB];simp
  have asz:xV F l (i:Int) (dw l i).reverse F 0 =some (cv ((dw l i).tail.reverse.findSome? (st l c))):=each (l:=(dw l i).tail.reverse) (st l c) (by simp;omega) (fun k u x P8=>by
   have q6:=(List.getElem?_eq_some_iff.1 P8).1
   have ah:=jW x (List.mem_of_mem_tail (by simpa using List.mem_of_getElem? P8))
   obtain ⟨w,hw,_⟩:=tX (l:=l) ah.1 ah.2
   have vJ:w ∈ l:=by obtain ⟨_,_,aa⟩:=j0 hw;exact List.mem_of_getElem? aa
   have aEj:=h.right.methods w vJ
   have hm:eM l x=w.bd:=by unfold eM;rw [hw];rfl
   have Z1:(dw l i).reverse[u]? =some x:=by rw [arh,List.getElem?_append_left q6];exact P8
   have asA:xW F l (i:Int) (dw l i).reverse (u:Int) F 0 =some (cv (st l c x)):=each (l:=c.bd) (fun a=>(eM l x).findSome? (n3 a)) (by omega) (fun k j a aD=>by
    have apM:=List.mem_of_getElem? aD
    have asF:uS F l (i:Int) (dw l i).reverse (u:Int) (j:Int) F 0 =some (cv (w.bd.findSome? (n3 a))):=each (l:=w.bd) (n3 a) (by omega) (fun k q b ah=>by
     have Pa:=List.mem_of_getElem? ah
     have apK:=h.right.method c qX a apM
     have apQ:=h.right.method w vJ b Pa
     rw [uS]
     simp only [bt Z1,Option.bind_some,hw,bL (List.getElem?_eq_some_iff.1 ah).1,cond_true,bt ad,bt aD,bt ah]
     rw [acX (by omega) (by omega) aI]
     unfold n3 MQ
     show cond _ (cond _ _ (Option.bind _ fun r=>cond (!r) _ (cond (!decide (a.Returns=b.Returns)) _ _))) _=_
     by_cases aF:a.Name=b.Name
     · rw [decide_eq_true aF]
       simp only [Option.bind_some,cond_true,Bool.true_and]
       cases a.Static <;> cases b.Static <;> cases decide (a.cy=b.cy) <;> cases decide (a.Returns=b.Returns) <;> rfl
     · rw [decide_eq_false aF];rfl) (fun k=>by rw [uS];simp only [bt Z1,Option.bind_some,hw,bK];rfl) (by omega)
    rw [xW,bt ad,Option.bind_some,bL (List.getElem?_eq_some_iff.1 aD).1,cond_true,asF,mz,oO,mx,hm]) (fun k=>by rw [xW,bt ad,Option.bind_some,bK];rfl) (by omega)
   have Ek:decide ((u:Int) <aE (((dw l i).reverse.length:Int) - 1))=true:=by
    rw [da (by omega) (by simp;omega)]
    simp only [List.length_reverse,List.length_tail] at q6
    exact decide_eq_true (by simp only [List.length_reverse];omega)
   rw [xV,Ek,cond_true,asA,mz,oO,mx]) (fun k=>by
    have Ek:decide (((dw l i).tail.reverse.length:Int) <aE (((dw l i).reverse.length:Int) - 1))=false:=by
     rw [da (by omega) (by simp;omega)]
     exact decide_eq_false (by rw [aB];simp)
    rw [xV,Ek];rfl) (by simp;omega)
  rw [xU,bL hi,cond_true,KZ aI h.right (by omega),Option.bind_some,asz,mz,oO,mx,ad,ao3 (WO c)]
  rfl) (fun k=>by rw [xU,bK];rfl) (by omega)
end
end J
namespace J
def wd (W:List Int) (i:Nat):Int:=(W[i]?).getD 0
def kM (k:aQ) (t:Int):List Field:=(k.Fields[(t - 3).toNat]?).getD []
def gR (k:aQ) (t:Int):Bool:=decide (1 <=t) && decide (t<= 2 +k.bc.length)
def isLen (k:aQ) (t n:Int):Bool:=decide (0 <=n) && decide (n<= 500) && (decide (t < 3) || decide (n=(kM k t).length))
def eK (k:aQ) (t:Int) (j:Nat):Bool:=decide (t= 2) || (decide (3 <=t) && ((kM k t)[j]?.map fun f=>!decide (f.Kind.Kind= 1)).getD false)
structure fV (k:aQ):Prop where
 fJ:k.bc.length<= 1000
 l0:k.Fields.length=k.bc.length
theorem gb {W:List Int} {i:Nat} (h:i <W.length):idx W (i:Int)=some (wd W i):=by
 rw [bt (List.getElem?_eq_getElem h)];unfold wd;rw [List.getElem?_eq_getElem h];rfl
theorem pE {W:List Int} {a:Int} {i:Nat} (e:a=(i:Int)) (h:i <W.length):idx W a=some (wd W i):=by rw [e];exact gb h
theorem ar' {k:aQ} {t:Int}:gR k t=true ↔ 1 <=t/\t<= 2 +k.bc.length:=by simp [gR]
theorem oi {k:aQ} {t n:Int}:isLen k t n=true ↔ (0 <=n/\n<= 500)/\(t < 3 \/n=(kM k t).length):=by simp [isLen]
section
variable {k:aQ}
theorem ada (h:fV k) (t:Int):sJ ⟨k⟩ t=some (gR k t):=by
 have hc:=h.fJ
 unfold sJ m2 gR
 have e:aE (aE (3 +(k.bc.length:Int)) - 1)= 2 +k.bc.length:=by rw [da (n:=3 +(k.bc.length:Int)) (by omega) (by omega),da (by omega) (by omega)];omega
 simp only [e,Option.bind_some]
 by_cases I:t= 1
 · subst I;simp;omega
 by_cases aa:t= 2
 · subst aa;simp;omega
 rw [show ((decide (t= 1)) || (decide (t= 2)))=false by simp [I,aa],cond_false,Option.some.injEq,Bool.eq_iff_iff]
 simp;omega
theorem KQ (h:fV k) {t:Int} (aM:gR k t=true) (au: ¬ t < 3):idx k.Fields (aE (t - 3))=some (kM k t):=by
 obtain ⟨I,aa⟩:=ar'.1 aM
 have hc:=h.fJ;have ag:=h.l0
 rw [da (by omega) (by omega)]
 unfold idx kM
 rw [if_pos (by omega)]
 have:(t - 3).toNat <k.Fields.length:=by omega
 rw [List.getElem?_eq_getElem this];rfl
theorem adb (h:fV k) {t:Int} (aM:gR k t=true) (n:Int):sK ⟨k⟩ t n=some (isLen k t n):=by
 unfold sK m2 isLen
 simp only [Option.bind_some]
 cases ah:(decide (0 <=n) && decide (n<= 500)) with
 | false=>simp
 | true=>
   by_cases au:t < 3
   · simp [au]
   · rw [KQ h aM au];simp [au]
theorem ade (h:fV k) {t:Int} (aM:gR k t=true) {n:Int} (aF:isLen k t n=true) {j:Nat} (az:(j:Int) <n):vz ⟨k⟩ t (j:Int)=some (eK k t j):=by
 unfold vz eK
 obtain ⟨_,ap⟩:=oi.1 aF
 by_cases aa:t= 2
 · simp [aa]
 by_cases au:t < 3
 · have: ¬ 3 <=t:=by omega
   simp [aa,this]
 · have ap:=ap.resolve_left au
   have O2:3 <=t:=by omega
   have l9:j <(kM k t).length:=by omega
   rw [KQ h aM au,Option.bind_some,bt (List.getElem?_eq_getElem l9),List.getElem?_eq_getElem l9]
   simp [aa,O2]
inductive eQ (k:aQ) (W:List Int) (to:Nat):Nat->List Int->Prop
 | nil:eQ k W to to []
 | cons {q:Nat} {r:List Int}:gR k (wd W q)=true->isLen k (wd W q) (wd W (q+ 1))=true->q+ 3 +(wd W (q+ 1)).toNat<=to->eQ k W to (q+ 3 +(wd W (q+ 1)).toNat) r->eQ k W to q ((q:Int)::r)
theorem eQ.inv {W:List Int} {to q:Nat} {L:List Int} (h:eQ k W to q L) (aS:q <to):∃ r,L=(q:Int)::r/\gR k (wd W q)=true/\isLen k (wd W q) (wd W (q+ 1))=true/\q+ 3 +(wd W (q+ 1)).toNat<=to/\eQ k W to (q+ 3 +(wd W (q+ 1)).toNat) r:=by
 cases h with
 | nil=>omega
 | cons I aa au bb=>exact ⟨_,rfl,I,aa,au,bb⟩
theorem ay5 (v:bf) (ao:fV v.S.K) {to:Nat} (gw:to<=v.H.Words.length) (g9:v.H.Words.length<= 5000):∀ (f q:Nat) (acc:List Int) (m:List (Int × Bool)),q<=to->to - q <f->acc.length+(to - q)<= 5000 ->(∀ p ∈ m,p.1 <(q:Int)) ->
 (∃ L,eQ v.S.K v.H.Words to q L/\m1 (to:Int) v f acc m (q:Int)=some (.go (acc++L,m++L.map fun a=>(a,true)))) \/
 ((∀ L,¬ eQ v.S.K v.H.Words to q L)/\ ∃ eR,m1 (to:Int) v f acc m (q:Int)=some (.out ([],false,{ v with dS:=eR }))):=by
 intro f
 induction f with
 | zero=>intro q acc m _ h;omega
 | succ f bi=>
   intro q acc m aS ag sD hm
   rw [m1]
   by_cases bx:q <to
   case neg=>
    have:q=to:=by omega
    subst this
    refine .inl ⟨[],.nil,?_⟩
    rw [bK];simp
   rw [bL bx,cond_true,da (n:=(q:Int)+ 3) (by omega) (by omega)]
   by_cases au:(to:Int) <(q:Int)+ 3
   · rw [decide_eq_true au]
     refine .inr ⟨fun L dQ=>?_,m,rfl⟩
     obtain ⟨_,_,_,_,h,_⟩:=dQ.inv bx
     omega
   rw [decide_eq_false au,cond_false,gb (by omega),Option.bind_some,da (n:=(q:Int)+ 1) (by omega) (by omega),pE (i:=q+ 1) (by omega) (by omega),Option.bind_some]
   have ak:sJ (⟨(⟨v.S.K.bc,v.S.K.a8,v.S.K.Fields,v.S.K.Names,v.S.K.a9⟩:aQ)⟩:ch) (wd v.H.Words q)=some (gR v.S.K (wd v.H.Words q)):=ada ao _
   rw [ak,Option.bind_some]
   cases aM:gR v.S.K (wd v.H.Words q) with
   | false=>
     refine .inr ⟨fun L dQ=>?_,m,rfl⟩
     obtain ⟨_,_,h,_⟩:=dQ.inv bx
     rw [aM] at h;cases h
   | true=>
     have al:sK (⟨(⟨v.S.K.bc,v.S.K.a8,v.S.K.Fields,v.S.K.Names,v.S.K.a9⟩:aQ)⟩:ch) (wd v.H.Words q) (wd v.H.Words (q+ 1))=some (isLen v.S.K (wd v.H.Words q) (wd v.H.Words (q+ 1))):=adb ao aM _
     rw [al,Option.bind_some,Bool.not_true,cond_false]
     cases ap:isLen v.S.K (wd v.H.Words q) (wd v.H.Words (q+ 1)) with
     | false=>
       refine .inr ⟨fun L dQ=>?_,m,rfl⟩
       obtain ⟨_,_,_,h,_⟩:=dQ.inv bx
       rw [ap] at h;cases h
     | true=>
       obtain ⟨⟨q9,l1⟩,_⟩:=oi.1 ap
       rw [Bool.not_true,Bool.false_or,da (n:=(q:Int)+ 3 +wd v.H.Words (q+ 1)) (by omega) (by omega)]
       by_cases Eo:(to:Int) <(q:Int)+ 3 +wd v.H.Words (q+ 1)
       · rw [decide_eq_true Eo]
         refine .inr ⟨fun L dQ=>?_,m,rfl⟩
         obtain ⟨_,_,_,_,h,_⟩:=dQ.inv bx
         omega
       rw [decide_eq_false Eo,cond_false,hY (by simp;omega),Option.bind_some,da (n:=3 +wd v.H.Words (q+ 1)) (by omega) (by omega),da (n:=(q:Int)+(3 +wd v.H.Words (q+ 1))) (by omega) (by omega)]
       have EJ:dz m (q:Int)=none:=by
        clear bi ak al
        induction m with
        | nil=>rfl
        | cons p r bi=>
          have aH:=hm p List.mem_cons_self
          rw [dz,if_neg (by omega)]
          exact bi (fun x ad=>hm x (List.mem_cons_of_mem _ ad))
       rw [Q2 EJ,show (q:Int)+(3 +wd v.H.Words (q+ 1))=((q+ 3 +(wd v.H.Words (q+ 1)).toNat:Nat):Int) by omega]
       rcases bi (q+ 3 +(wd v.H.Words (q+ 1)).toNat) (acc++[(q:Int)]) (m++[((q:Int),true)]) (by omega) (by omega) (by simp;omega) (fun p aH=>by
        rcases List.mem_append.1 aH with aH | aH
        · have:=hm p aH;omega
        · simp at aH;subst aH;simp;omega) with ⟨L,dQ,e⟩ | ⟨aF,eR,e⟩
       · refine .inl ⟨(q:Int)::L,.cons aM ap (by omega) dQ,?_⟩
         rw [e];simp
       · refine .inr ⟨fun L dQ=>?_,eR,e⟩
         obtain ⟨r,_,_,_,_,h⟩:=dQ.inv bx
         exact aF r h
theorem adt {F:Nat} (aI:6000 <F) (v:bf) (ao:fV v.S.K) {q to:Nat} (aS:q<=to) (gw:to<=v.H.Words.length) (g9:v.H.Words.length<= 5000) (hm:∀ p ∈ v.dS,p.1 <(q:Int)) :
 (∃ L,eQ v.S.K v.H.Words to q L/\k7 F v (q:Int) (to:Int)=some (L,true,{ v with dS:=v.dS++L.map fun a=>(a,true) })) \/
 ((∀ L,¬ eQ v.S.K v.H.Words to q L)/\ ∃ eR,k7 F v (q:Int) (to:Int)=some ([],false,{ v with dS:=eR })):=by
 unfold k7
 rcases ay5 v ao gw g9 F q [] v.dS aS (by omega) (by simp;omega) hm with ⟨L,dQ,e⟩ | ⟨aF,eR,e⟩
 · exact .inl ⟨L,dQ,by rw [e,oN];simp⟩
 · exact .inr ⟨aF,eR,by rw [e,ac3]⟩
end
end J
namespace J
def refs (k:aQ) (W:List Int) (q:Nat):List Int:=(List.range (wd W (q+ 1)).toNat).flatMap fun j=>if eK k (wd W q) j then [((q+ 3 +j:Nat):Int)] else []
theorem v9 {k:aQ} {W:List Int} {q:Nat} {x:Int}:x ∈ refs k W q ↔ ∃ j,j <(wd W (q+ 1)).toNat/\eK k (wd W q) j=true/\x=((q+ 3 +j:Nat):Int):=by
 unfold refs
 rw [List.mem_flatMap]
 constructor
 · rintro ⟨j,az,ad⟩
   split at ad
   · rename_i h;exact ⟨j,by simpa using az,h,by simpa using ad⟩
   · cases ad
 · rintro ⟨j,az,h,e⟩
   exact ⟨j,by simpa using az,by rw [if_pos h,e];simp⟩
section
variable {F:Nat} {k:aQ}
theorem ax8 (aI:6000 <F) (v:bf) (ao:fV v.S.K) {q:Nat} (aS:q+ 3 +(wd v.H.Words (q+ 1)).toNat<=v.H.Words.length) (g9:v.H.Words.length<= 5000) (aM:gR v.S.K (wd v.H.Words q)=true) (ap:isLen v.S.K (wd v.H.Words q) (wd v.H.Words (q+ 1))=true) :
 ob F v (q:Int)=some (refs v.S.K v.H.Words q):=by
 obtain ⟨⟨q9,l1⟩,_⟩:=oi.1 ap
 unfold ob
 rw [da (n:=(q:Int)+ 1) (by omega) (by omega),pE (i:=q+ 1) (by omega) (by omega),Option.bind_some]
 generalize aF:(wd v.H.Words (q+ 1)).toNat=n at aS
 have DQ:wd v.H.Words (q+ 1)=(n:Int):=by omega
 have m5:=ap
 rw [DQ] at m5 ⊢
 have l1:=sd (l:=List.range n) (fun k acc i=>sL (q:Int) v (n:Int) k acc (i:Int)) (fun j=>if eK v.S.K (wd v.H.Words q) j then [((q+ 3 +j:Nat):Int)] else []) 1 5000 (fun x _=>by split <;> simp) (fun f i x acc ad aD=>by
  have hi:i <n:=by have:=(List.getElem?_eq_some_iff.1 ad).1;simpa using this
  rw [List.getElem?_range hi] at ad
  simp only [Option.some.injEq] at ad
  subst ad
  rw [sL,bL hi,cond_true,gb (by omega),Option.bind_some]
  have ak:vz (⟨(⟨v.S.K.bc,v.S.K.a8,v.S.K.Fields,v.S.K.Names,v.S.K.a9⟩:aQ)⟩:ch) (wd v.H.Words q) (i:Int)=some (eK v.S.K (wd v.H.Words q) i):=ade ao aM m5 (by omega)
  rw [ak,Option.bind_some]
  show _=sL (q:Int) v (n:Int) f _ _
  cases eK v.S.K (wd v.H.Words q) i with
  | true=>
    rw [cond_true,da (n:=(q:Int)+ 3) (by omega) (by omega),da (n:=(q:Int)+ 3 +i) (by omega) (by omega),hY (by simp;omega),Option.bind_some,Option.bind_some,fs hi (by omega),if_pos rfl]
    congr 2
  | false=>
    rw [cond_false,Option.bind_some,fs hi (by omega),if_neg (by decide),List.append_nil]) (fun f acc=>by
  rw [List.length_range,sL,bK];rfl) (F:=F) (by simp;omega) (acc:=[]) (by simp;omega)
 have l1:sL (q:Int) v (n:Int) F [] 0 =_:=l1
 rw [l1,Option.bind_some,List.nil_append,refs,aF]
theorem WT (aI:10000 <F) {ls:List (List Int)} (I:ls.length<= 10) (aa:ls.flatten.length<= 10000):CD F ls=some ls.flatten:=by
 unfold CD
 have asn:∀ (d i f:Nat) (n:Int),i+d=ls.length->d <f-> 0 <=n->n+(ls.drop i).flatten.length<= 10000 ->tT ls f n (i:Int)=some (n+(ls.drop i).flatten.length):=by
  intro d
  induction d with
  | zero=>
    intro i f n h ag aF _
    obtain ⟨f,rfl⟩:∃ b8,f=b8+ 1 :=⟨f - 1,by omega⟩
    have:i=ls.length:=by omega
    subst this
    rw [tT,bK];simp
  | succ d bi=>
    intro i f n h ag aF ah
    obtain ⟨f,rfl⟩:∃ b8,f=b8+ 1 :=⟨f - 1,by omega⟩
    have hi:i <ls.length:=by omega
    rw [List.drop_eq_getElem_cons hi] at ah
    simp only [List.flatten_cons,List.length_append] at ah
    rw [tT,bL hi,cond_true,bt (List.getElem?_eq_getElem hi),Option.bind_some,da (n:=n+((ls[i]).length:Int)) (by omega) (by omega),show decide (n+((ls[i]).length:Int) < 0)=false from decide_eq_false (by omega),cond_false,Option.bind_some,fs hi (by omega),bi (i+ 1) f _ (by omega) (by omega) (by omega) (by omega),List.drop_eq_getElem_cons hi]
    simp only [List.flatten_cons,List.length_append]
    congr 1;omega
 have bj:=asn ls.length 0 F 0 (by omega) (by omega) (by omega) (by simp at aa ⊢;omega)
 have bj:tT ls F 0 0 =some (0 +((ls.drop 0).flatten.length:Int)):=bj
 rw [bj,Option.bind_some,List.drop_zero,Int.zero_add]
 have bk:KJ (ls.flatten.length:Int)=some []:=by
  unfold KJ
  rw [show decide ((ls.flatten.length:Int) < 0)=false from decide_eq_false (by omega),cond_false,Option.bind_some,da (n:=(ls.flatten.length:Int) - 0) (by omega) (by omega),Int.sub_zero]
  by_cases aP:(0 :Int) <(ls.flatten.length:Int)
  · rw [decide_eq_true aP,cond_true]
    unfold DC
    rw [if_pos ⟨aP,by omega⟩];rfl
  · rw [decide_eq_false aP];rfl
 rw [bk,Option.bind_some]
 have aso:∀ (d i f:Nat) (acc:List Int),i+d=ls.length->d <f->acc.length+(ls.drop i).flatten.length<= 10000 ->tU ls f acc (i:Int)=some (acc++(ls.drop i).flatten):=by
  intro d
  induction d with
  | zero=>
    intro i f n h ag aF
    obtain ⟨f,rfl⟩:∃ b8,f=b8+ 1 :=⟨f - 1,by omega⟩
    have:i=ls.length:=by omega
    subst this
    rw [tU,bK];simp
  | succ d bi=>
    intro i f acc h ag ah
    obtain ⟨f,rfl⟩:∃ b8,f=b8+ 1 :=⟨f - 1,by omega⟩
    have hi:i <ls.length:=by omega
    rw [List.drop_eq_getElem_cons hi] at ah
    simp only [List.flatten_cons,List.length_append] at ah
    rw [tU,bL hi,cond_true,bt (List.getElem?_eq_getElem hi),Option.bind_some,hY (by omega),Option.bind_some,fs hi (by omega),bi (i+ 1) f _ (by omega) (by omega) (by simp only [List.length_append];omega),List.drop_eq_getElem_cons hi,List.flatten_cons,List.append_assoc]
 have bk:=aso ls.length 0 F [] (by omega) (by omega) (by simp at aa ⊢;omega)
 have bk:tU ls F [] 0 =some ([]++(ls.drop 0).flatten):=bk
 rw [bk];simp
theorem all_eq (aI:10000 <F) (v:bf) (h:v.ar.length+v.aV.length<= 10000):vA F v=some (v.ar++v.aV):=by
 unfold vA
 rw [WT aI (by simp) (by simp;omega)]
 simp
def ao (W:List Int) (a:Int):Int:=wd W (a.toNat+ 2)
def wI (l:List Int) (m:List (Int × Bool)):List (Int × Bool):=l.foldl (fun m x=>hD m x true) m
theorem ab4:∀ (l:List Int) (m:List (Int × Bool)),(wI l m).length<=m.length+l.length/\((wI l m).length=m.length+l.length ↔ l.Nodup/\ ∀ x ∈ l,(dz m x).isSome=false)
 | [],m=>by simp [wI]
 | x::r,m=>by
   have bi:=ab4 r (hD m x true)
   have e:wI (x::r) m=wI r (hD m x true):=rfl
   rw [e]
   have ap:=Jz (k:=x) (v:=true) m
   rw [List.length_cons]
   cases ad:(dz m x).isSome with
   | true=>
     rw [ad,if_pos rfl] at ap
     rw [ap] at bi
     refine ⟨by omega,⟨fun h=>by omega,fun h=>?_⟩⟩
     have:=h.2 x List.mem_cons_self
     rw [ad] at this;cases this
   | false=>
     rw [ad,if_neg (by decide)] at ap
     rw [ap] at bi
     refine ⟨by omega,?_⟩
     rw [show m.length+(r.length+ 1)=m.length+ 1 +r.length by omega,bi.2,List.nodup_cons]
     constructor
     · rintro ⟨I,aa⟩
       refine ⟨⟨fun hm=>?_,I⟩,fun y hy=>?_⟩
       · have:=aa x hm
         have au:=(Fm (k:=x) (s:=x) (v:=true) m).2 (.inl rfl)
         rw [this] at au;cases au
       · rcases List.mem_cons.1 hy with rfl | hy
         · exact ad
         · cases aj:(dz m y).isSome with
           | false=>rfl
           | true=>
             have au:=(Fm (k:=x) (s:=y) (v:=true) m).2 (.inr aj)
             rw [aa y hy] at au;cases au
     · rintro ⟨⟨I,aa⟩,au⟩
       refine ⟨aa,fun y hy=>?_⟩
       cases aj:(dz (hD m x true) y).isSome with
       | false=>rfl
       | true=>
         rcases (Fm (k:=x) (s:=y) (v:=true) m).1 aj with e | e
         · subst e;exact absurd hy I
         · rw [au y (List.mem_cons_of_mem _ hy)] at e;cases e
def ku (v:bf) (a:Int):Bool:=decide (ao v.H.Words a < 1) || decide (v.H.Next<=ao v.H.Words a)
theorem apO (v:bf) (r:List Int) (aB:r.length<= 10000) (ah:∀ a ∈ r,0 <=a/\a.toNat+ 3 <=v.H.Words.length) (g9:v.H.Words.length<= 5000):∀ (d i f:Nat) (m:List (Int × Bool)),i+d=r.length->d <f ->
 sM v r f m (i:Int)=if (r.drop i).any (ku v) then some (.out 3) else some (.go (wI ((r.drop i).map (ao v.H.Words)) m)):=by
 intro d
 induction d with
 | zero=>
   intro i f m h ag
   obtain ⟨f,rfl⟩:∃ b8,f=b8+ 1 :=⟨f - 1,by omega⟩
   have:i=r.length:=by omega
   subst this
   rw [sM,bK];simp [wI]
 | succ d bi=>
   intro i f m h ag
   obtain ⟨f,rfl⟩:∃ b8,f=b8+ 1 :=⟨f - 1,by omega⟩
   have hi:i <r.length:=by omega
   obtain ⟨aP,I⟩:=ah r[i] (List.getElem_mem hi)
   rw [sM,bL hi,cond_true,bt (List.getElem?_eq_getElem hi),Option.bind_some,da (n:=r[i]+ 2) (by omega) (by omega),pE (i:=(r[i]).toNat+ 2) (by omega) (by omega),Option.bind_some,List.drop_eq_getElem_cons hi,List.any_cons]
   show cond (ku v r[i]) _ _=_
   cases ku v r[i] with
   | true=>rfl
   | false=>
     rw [cond_false,fs hi (by omega),bi (i+ 1) f _ (by omega) (by omega),Bool.false_or]
     rfl
theorem apN (aI:10000 <F) (v:bf) (h:v.ar.length+v.aV.length<= 5000) (ah:∀ a ∈ v.ar++v.aV,0 <=a/\a.toNat+ 3 <=v.H.Words.length) (g9:v.H.Words.length<= 5000) (Zx:v.dS.length=(v.ar++v.aV).length) :
 BB F v=some (if (v.ar++v.aV).any (ku v) then 3 else if ((v.ar++v.aV).map (ao v.H.Words)).Nodup then 0 else 6):=by
 unfold BB
 have e:vA F (⟨(⟨v.H.Words,v.H.ar,v.H.aV,v.H.a3,v.H.a1,v.H.aY,v.H.Next⟩:aW),(⟨(⟨v.S.K.bc,v.S.K.a8,v.S.K.Fields,v.S.K.Names,v.S.K.a9⟩:aQ)⟩:ch),v.ar,v.aV,v.dS⟩:bf)=some (v.ar++v.aV):=all_eq aI v (by omega)
 rw [e,Option.bind_some]
 have l1:=apO v (v.ar++v.aV) (by simp;omega) ah g9 (v.ar++v.aV).length 0 F [] (by omega) (by simp;omega)
 have l1:sM v (v.ar++v.aV) F [] 0 =_:=l1
 rw [l1,List.drop_zero]
 cases (v.ar++v.aV).any (ku v) with
 | true=>rfl
 | false=>
   rw [if_neg (by decide),if_neg (by decide),oN]
   obtain ⟨et,hN⟩:=ab4 ((v.ar++v.aV).map (ao v.H.Words)) []
   rw [List.length_map,List.length_nil,Nat.zero_add] at et hN
   by_cases aF:((v.ar++v.aV).map (ao v.H.Words)).Nodup
   · rw [if_pos aF]
     have:=hN.2 ⟨aF,fun _ _=>rfl⟩
     rw [decide_eq_false (by rw [this,Zx];omega)];rfl
   · rw [if_neg aF]
     have:(wI ((v.ar++v.aV).map (ao v.H.Words)) []).length≠(v.ar++v.aV).length:=fun e=>aF (hN.1 e).1
     rw [decide_eq_true (by rw [Zx];omega)];rfl
end
end J
namespace J
def u3 (l:List Int):Prop:=∀ a b,a <b->b <l.length->wd l a <wd l b
theorem TA {l:List Int} (h:∀ i,i+ 1 <l.length->wd l i <wd l (i+ 1)):u3 l:=by
 intro a b yJ
 induction b with
 | zero=>omega
 | succ b bi=>
   intro ah
   by_cases e:a=b
   · subst e;exact h a ah
   · exact Int.lt_trans (bi (by omega) (by omega)) (h b ah)
theorem TU {l:List Int} {i:Nat} (h:i <l.length):wd l i ∈ l:=by unfold wd;rw [List.getElem?_eq_getElem h];exact List.getElem_mem h
theorem nE {l:List Int} {i:Nat} {x:Int} (h:l[i]? =some x):wd l i=x:=by unfold wd;rw [h];rfl
theorem QX {l:List Int} {x:Int} (h:x ∈ l):∃ i,i <l.length/\wd l i=x:=by
 obtain ⟨i,hi,e⟩:=List.getElem_of_mem h
 exact ⟨i,hi,nE (by rw [List.getElem?_eq_getElem hi,e])⟩
theorem abR {α:Type} {p:α->Bool}:∀ {l:List α},(ev p l).isSome=l.any p
 | []=>rfl
 | x::r=>by
   rw [ev,List.any_cons]
   cases h:p x with
   | true=>rfl
   | false=>simp only [Bool.false_eq_true,if_false,Bool.false_or];rw [<-abR (l:=r)];cases ev p r <;> rfl
theorem NF {α:Type} {l:List α} {L:Nat->Int->Option (Way Int Unit)} (p:α->Bool) (ap:l.length<= 140737488355328)
 (ao:∀ k (i:Nat) x,l[i]? =some x->L (k+ 1) (i:Int)=cond (p x) (some (.out (i:Int))) (L k (aE ((i:Int)+ 1))))
 (he:∀ k,L (k+ 1) (l.length:Int)=some (.go ())) {F:Nat} (aI:l.length <F):((cj (α:=Unit) (L F 0) fun (_:Unit)=>some (-1)).bind fun r=>some (decide ((0 :Int)<=r)))=some (l.any p):=by
 rw [NG p (fun n:Nat=>(n:Int)) ap ao he aI,<-abR]
 cases ev p l with
 | none=>rfl
 | some i=>
   show some (decide ((0 :Int)<=(i:Int)))=_
   rw [decide_eq_true (by omega)];rfl
section
variable {F:Nat}
theorem ayN {l:List Int} (ap:l.length<= 10000) (t:Int):∀ (f i j:Nat),i<=j->j<=l.length->j - i <f->(∀ a,a <i->wd l a <t)->(∀ a,j<=a->a <l.length->t<=wd l a)->u3 l ->
 ∃ p:Nat,rK t l f (i:Int) (j:Int)=some (p:Int)/\p<=l.length/\(∀ a,a <p->wd l a <t)/\(∀ a,p<=a->a <l.length->t<=wd l a):=by
 intro f
 induction f with
 | zero=>intro i j _ _ h;omega
 | succ f bi=>
   intro i j yR az ag I aa ao
   rw [rK]
   by_cases h:i <j
   case neg=>
    have:i=j:=by omega
    subst this
    rw [bK]
    exact ⟨i,rfl,az,I,aa⟩
   have em:aE (tS (CP (aE ((i:Int)+(j:Int)))) 1)=(((i+j) / 2 :Nat):Int):=by
    rw [da (n:=(i:Int)+j) (by omega) (by omega)]
    unfold CP tS
    rw [da (by omega) (by omega)]
    omega
   have hm:(i+j) / 2 <j:=by omega
   have ea:i<=(i+j) / 2 :=by omega
   rw [bL h,cond_true,em,gb (by omega),Option.bind_some]
   unfold HQ HR
   rw [Option.bind_some,show (!decide (wd l ((i+j) / 2)=wd l ((i+j) / 2)))=false by simp,cond_false,Option.bind_some]
   by_cases hc:wd l ((i+j) / 2) <t
   · rw [decide_eq_true hc,cond_true,Option.bind_some]
     show ∃ p:Nat,rK t l f (aE ((((i+j) / 2 :Nat):Int)+ 1)) (j:Int)=_/\_
     rw [da (n:=(((i+j) / 2 :Nat):Int)+ 1) (by omega) (by omega),show (((i+j) / 2 :Nat):Int)+ 1 =(((i+j) / 2 + 1 :Nat):Int) by omega]
     refine bi ((i+j) / 2 + 1) j (by omega) az (by omega) (fun a aD=>?_) aa ao
     by_cases e:a=(i+j) / 2
     · subst e;exact hc
     · exact Int.lt_trans (ao a ((i+j) / 2) (by omega) (by omega)) hc
   · rw [decide_eq_false hc,cond_false,Option.bind_some]
     show ∃ p:Nat,rK t l f (i:Int) (((i+j) / 2 :Nat):Int)=_/\_
     refine bi i ((i+j) / 2) (by omega) (by omega) (by omega) I (fun a aD ah=>?_) ao
     by_cases e:a=(i+j) / 2
     · subst e;omega
     · have:=ao ((i+j) / 2) a (by omega) ah
       omega
theorem ayM (aI:10000 <F) {l:List Int} (ap:l.length<= 10000) (ao:u3 l) (t:Int) :
 ∃ p:Nat,Ga F l t=some ((p:Int),decide (t ∈ l))/\p<=l.length/\(∀ a,a <p->wd l a <t)/\(∀ a,p<=a->a <l.length->t<=wd l a):=by
 obtain ⟨p,e,aH,I,aa⟩:=ayN ap t F 0 l.length (by omega) (Nat.le_refl _) (by omega) (fun a aD=>by omega) (fun a aD ah=>by omega) ao
 refine ⟨p,?_,aH,I,aa⟩
 unfold Ga
 have e:rK t l F 0 (l.length:Int)=some (p:Int):=e
 rw [e,Option.bind_some]
 by_cases bx:p <l.length
 · rw [bL bx,cond_true,gb bx,Option.bind_some]
   by_cases aM:wd l p=t
   · rw [decide_eq_true aM,cond_true,decide_eq_true (aM ▸ TU bx)]
   · have aF: ¬ t ∈ l:=fun hm=>by
      obtain ⟨a,aD,Bk⟩:=QX hm
      by_cases Eh:a <p
      · have:=I a Eh;omega
      · have au:=aa p (Nat.le_refl _) bx
        by_cases e:a=p
        · subst e;exact aM Bk
        · have:=ao p a (by omega) aD;omega
     rw [decide_eq_false aM,cond_false,Option.bind_some,decide_eq_false aF]
     unfold KN
     rw [Option.bind_some,show (!decide (wd l p=wd l p))=false by simp,cond_false]
 · have:p=l.length:=by omega
   subst this
   have aF: ¬ t ∈ l:=fun hm=>by
    obtain ⟨a,aD,Bk⟩:=QX hm
    have:=I a aD;omega
   rw [bK,cond_false,decide_eq_false aF]
structure o' (v:bf) (a:Int):Prop where
 pos:0 <=a
 fit:a.toNat+ 3 +(wd v.H.Words (a.toNat+ 1)).toNat<=v.H.Words.length
 tag:gR v.S.K (wd v.H.Words a.toNat)=true
 len:isLen v.S.K (wd v.H.Words a.toNat) (wd v.H.Words (a.toNat+ 1))=true
structure mP (v:bf):Prop where
 ja:fV v.S.K
 h6:v.H.Words.length<= 4900
 n4:v.ar.length+v.aV.length<= 5000
 p':∀ a ∈ v.ar++v.aV,o' v a
 dS:∀ x,(dz v.dS x).getD false=decide (x ∈ v.ar++v.aV)
theorem o'.Ta {v:bf} {a:Int} (af:mP v) (h:o' v a) (aI:6000 <F):ob F v a=some (refs v.S.K v.H.Words a.toNat):=by
 have:=ax8 aI v af.ja h.fit (by have:=af.h6;omega) h.tag h.len
 rwa [show ((a.toNat:Nat):Int)=a by have:=h.pos;omega] at this
theorem o'.Kq {v:bf} {a w:Int} (h:o' v a) (hw:w ∈ refs v.S.K v.H.Words a.toNat):idx v.H.Words w=some (wd v.H.Words w.toNat):=by
 obtain ⟨j,az,_,e⟩:=v9.1 hw
 have:=h.fit
 subst e
 exact gb (by omega)
theorem Kr {v:bf} {a:Int} (af:mP v) (h:o' v a):(refs v.S.K v.H.Words a.toNat).length<= 5000 :=by
 have:(refs v.S.K v.H.Words a.toNat).length<= 1 *(List.range (wd v.H.Words (a.toNat+ 1)).toNat).length:=vo fun x _=>by split <;> simp
 have I:=h.fit;have aa:=af.h6
 rw [List.length_range] at this
 omega
def rQ (v:bf) (w:Int):Bool:=!decide (wd v.H.Words w.toNat= 0) && !decide (wd v.H.Words w.toNat ∈ v.ar++v.aV)
def ms (v:bf) (a:Int):Bool:=(refs v.S.K v.H.Words a.toNat).any (rQ v)
def free (h:aW):List Int:=h.Words.take 1 ++((h.Words.take (h.ar+ 1).toNat).drop h.a3.toNat++h.Words.drop h.a1.toNat)
theorem l3 {α:Type} {p:α->Bool} {e:Int}:∀ l:List α,l.findSome? (fun x=>if p x then some e else none)=if l.any p then some e else none
 | []=>rfl
 | x::r=>by
   rw [List.findSome?_cons,List.any_cons]
   cases p x with
   | true=>rfl
   | false=>simp only [Bool.false_eq_true,if_false,Bool.false_or];exact l3 r
theorem azG (aI:10000 <F) {v:bf} (af:mP v) (aP:0 <=v.H.ar) (I:0 <=v.H.a3/\v.H.a3<=v.H.ar+ 1 /\v.H.ar+ 1 <=v.H.Words.length) (aa:0 <=v.H.a1/\v.H.a1<=v.H.Words.length) :
 BD F v=some (if (v.ar++v.aV).any (ms v) then 5 else if (free v.H).any (fun x=>!decide (x= 0)) then 1 else 0):=by
 have hc:=af.n4;have hw:=af.h6
 unfold BD
 have e:vA F (⟨(⟨v.H.Words,v.H.ar,v.H.aV,v.H.a3,v.H.a1,v.H.aY,v.H.Next⟩:aW),(⟨(⟨v.S.K.bc,v.S.K.a8,v.S.K.Fields,v.S.K.Names,v.S.K.a9⟩:aQ)⟩:ch),v.ar,v.aV,v.dS⟩:bf)=some (v.ar++v.aV):=all_eq aI v (by omega)
 rw [e,Option.bind_some]
 have l1:vB F v (v.ar++v.aV) F 0 =some (cv ((v.ar++v.aV).findSome? fun a=>if ms v a then some 5 else none)):=each _ (by simp;omega) (fun f i a aD=>by
  have hm:=List.mem_of_getElem? aD
  have aM:=af.p' a hm
  rw [vB,bL (List.getElem?_eq_some_iff.1 aD).1,cond_true,bt aD,Option.bind_some]
  have al:ob F (⟨(⟨v.H.Words,v.H.ar,v.H.aV,v.H.a3,v.H.a1,v.H.aY,v.H.Next⟩:aW),(⟨(⟨v.S.K.bc,v.S.K.a8,v.S.K.Fields,v.S.K.Names,v.S.K.a9⟩:aQ)⟩:ch),v.ar,v.aV,v.dS⟩:bf) a=some (refs v.S.K v.H.Words a.toNat):=aM.Ta af (by omega)
  have PV:=Kr af aM
  rw [al,Option.bind_some]
  have cp:sO v (refs v.S.K v.H.Words a.toNat) F 0 =some (cv ((refs v.S.K v.H.Words a.toNat).findSome? fun w=>if rQ v w then some 5 else none)):=each _ (by omega) (fun b8 i' w ga=>by
   have ea:=List.mem_of_getElem? ga
   rw [sO,bL (List.getElem?_eq_some_iff.1 ga).1,cond_true,bt ga,Option.bind_some,aM.Kq ea,Option.bind_some,af.dS]
   unfold rQ
   cases decide (wd v.H.Words w.toNat= 0) <;> cases decide (wd v.H.Words w.toNat ∈ v.ar++v.aV) <;> rfl) (fun b8=>by rw [sO,bK];rfl) (by omega)
  rw [cp,l3]
  show _=gB (if (refs v.S.K v.H.Words a.toNat).any (rQ v) then some 5 else none) _
  cases (refs v.S.K v.H.Words a.toNat).any (rQ v) <;> rfl) (fun f=>by rw [vB,bK];rfl) (by simp;omega)
 rw [l1,l3]
 cases (v.ar++v.aV).any (ms v) with
 | true=>rfl
 | false=>
   simp only [Bool.false_eq_true,if_false,cv,oN]
   have c1:cut v.H.Words 0 1 =some (v.H.Words.take 1):=by
    unfold cut;rw [if_pos ⟨by omega,by omega,by omega⟩];rfl
   have c2:cut v.H.Words v.H.a3 (aE (v.H.ar+ 1))=some ((v.H.Words.take (v.H.ar+ 1).toNat).drop v.H.a3.toNat):=by
    rw [da (by omega) (by omega)]
    unfold cut;rw [if_pos ⟨by omega,by omega,by omega⟩]
   have c3:cut v.H.Words v.H.a1 (v.H.Words.length:Int)=some (v.H.Words.drop v.H.a1.toNat):=by
    unfold cut;rw [if_pos ⟨by omega,by omega,by omega⟩,Int.toNat_natCast,List.take_length]
   have Zp:(free v.H).length<= 10000 :=by unfold free;simp;omega
   rw [c1,c2,c3,Option.bind_some,Option.bind_some,Option.bind_some,WT aI (by simp) (by simp;omega),Option.bind_some]
   have an0:[v.H.Words.take 1,(v.H.Words.take (v.H.ar+ 1).toNat).drop v.H.a3.toNat,v.H.Words.drop v.H.a1.toNat].flatten=free v.H:=by simp [free]
   rw [an0]
   unfold KH KL
   rw [NF (l:=free v.H) (L:=wX (free v.H)) (fun x=>!decide (x= 0)) (by omega) (fun f i x ad=>by
    rw [wX,bL (List.getElem?_eq_some_iff.1 ad).1,cond_true,bt ad,Option.bind_some]
    rfl) (fun f=>by rw [wX,bK];rfl) (by omega),Option.bind_some]
   cases (free v.H).any (fun x=>!decide (x= 0)) <;> rfl
def jo (v:bf) (x:Int):Bool:=decide (0 <x) && decide (x<=v.H.ar)
def pX (v:bf) (x:Int):Bool:=!decide (x ∈ v.ar++v.aV) || jo v x || (refs v.S.K v.H.Words x.toNat).isEmpty
def gV (v:bf) (i:Nat):Bool:=(decide (0 <i) && decide (wd v.H.aY i<=wd v.H.aY (i - 1))) || pX v (wd v.H.aY i)
def nN (v:bf) (x:Int):Bool:=!decide (x ∈ v.H.aY) && (refs v.S.K v.H.Words x.toNat).any fun w=>jo v (wd v.H.Words w.toNat)
theorem au9 (aI:10000 <F) {v:bf} (af:mP v) (x:Int) (Y:Option (Way Int Unit)):(cond (!((dz v.dS x).getD false)) (some (.out 4)) ((BA v x).bind fun SL=>
 cond (SL) (some (.out 4)) ((ob F v x).bind fun SM=>
 cond (decide ((SM.length:Int)= 0)) (some (.out 4)) Y)))=gB (if pX v x then some 4 else none) Y:=by
 rw [af.dS]
 unfold pX
 by_cases hm:x ∈ v.ar++v.aV
 · rw [decide_eq_true hm,(af.p' x hm).Ta af (by omega)]
   show cond (jo v x) _ ((some _).bind _)=_
   cases jo v x with
   | true=>rfl
   | false=>
     rw [cond_false,Option.bind_some]
     cases refs v.S.K v.H.Words x.toNat with
     | nil=>rfl
     | cons a r=>rw [decide_eq_false (by simp;omega)];rfl
 · rw [decide_eq_false hm];rfl
theorem au8 (aI:10000 <F) {v:bf} (af:mP v) (aF:v.H.aY.length<= 140737488355328) (jY:v.H.aY.length <F) (arn:(∀ i,i <v.H.aY.length->gV v i=false)->v.H.aY.length<= 10000) :
 BC F v=some (if (List.range v.H.aY.length).any (gV v) || v.aV.any (nN v) then 4 else 0):=by
 have hc:=af.n4;have hw:=af.h6
 unfold BC
 have l1:q0 F v F 0 =some (cv ((List.range v.H.aY.length).findSome? fun i=>if gV v i then some 4 else none)):=jC _ aF (fun f i hi=>by
  have aB:=au9 aI af (wd v.H.aY i) (q0 F v f (aE ((i:Int)+ 1)))
  rw [q0,bL hi,cond_true,gb hi,Option.bind_some]
  unfold gV
  by_cases aP:0 <i
  · rw [show decide ((0 :Int) <(i:Int))=true from decide_eq_true (by omega),cond_true,da (n:=(i:Int) - 1) (by omega) (by omega),pE (i:=i - 1) (by omega) (by omega),Option.bind_some,decide_eq_true aP,Bool.true_and]
    cases decide (wd v.H.aY i<=wd v.H.aY (i - 1)) with
    | true=>rfl
    | false=>exact aB
  · rw [show decide ((0 :Int) <(i:Int))=false from decide_eq_false (by omega),cond_false,decide_eq_false aP,Bool.false_and,Bool.false_or]
    exact aB) (fun f=>by rw [q0,bK];rfl) jY
 rw [l1,l3]
 cases ah:(List.range v.H.aY.length).any (gV v) with
 | true=>rfl
 | false=>
   have iR:∀ i,i <v.H.aY.length->gV v i=false:=fun i hi=>by
    rw [List.any_eq_false] at ah
    simpa using ah i (by simpa using hi)
   have hlen:=arn iR
   have arp:u3 v.H.aY:=TA fun i hi=>by
    have:=iR (i+ 1) hi
    unfold gV at this
    simp only [Bool.or_eq_false_iff,Bool.and_eq_false_iff,decide_eq_false_iff_not,Nat.add_sub_cancel] at this
    rcases this.1 with h | h <;> omega
   simp only [Bool.false_eq_true,if_false,cv,oN,Bool.false_or]
   have cp:sN F v F 0 =some (cv (v.aV.findSome? fun x=>if nN v x then some 4 else none)):=each _ (by omega) (fun f i x ad=>by
    have hm:x ∈ v.ar++v.aV:=List.mem_append_right _ (List.mem_of_getElem? ad)
    have aM:=af.p' x hm
    obtain ⟨p,aH,_⟩:=ayM aI hlen arp x
    rw [sN,bL (List.getElem?_eq_some_iff.1 ad).1,cond_true,bt ad,Option.bind_some,aH,Option.bind_some]
    unfold nN
    by_cases f_:x ∈ v.H.aY
    · rw [decide_eq_true f_];rfl
    · rw [decide_eq_false f_]
      have al:ob F (⟨(⟨v.H.Words,v.H.ar,v.H.aV,v.H.a3,v.H.a1,v.H.aY,v.H.Next⟩:aW),(⟨(⟨v.S.K.bc,v.S.K.a8,v.S.K.Fields,v.S.K.Names,v.S.K.a9⟩:aQ)⟩:ch),v.ar,v.aV,v.dS⟩:bf) x=some (refs v.S.K v.H.Words x.toNat):=aM.Ta af (by omega)
      have PV:=Kr af aM
      simp only [Bool.not_false,cond_true,Bool.true_and]
      rw [al,Option.bind_some]
      unfold KG KK
      rw [NF (l:=refs v.S.K v.H.Words x.toNat) (L:=wW (refs v.S.K v.H.Words x.toNat) v) (fun w=>jo v (wd v.H.Words w.toNat)) (by omega) (fun b8 i' w ga=>by
       rw [wW,bL (List.getElem?_eq_some_iff.1 ga).1,cond_true,bt ga,Option.bind_some]
       unfold IH
       rw [aM.Kq (List.mem_of_getElem? ga)]
       rfl) (fun b8=>by rw [wW,bK];rfl) (by omega),Option.bind_some]
      cases (refs v.S.K v.H.Words x.toNat).any (fun w=>jo v (wd v.H.Words w.toNat)) <;> rfl) (fun f=>by rw [sN,bK];rfl) (by omega)
   rw [cp,l3]
   cases v.aV.any (nN v) <;> rfl
end
end J
namespace J
def JW:aQ:=⟨[],[],[],[],[]⟩
def rows {β:Type} (f:Int->β) (i:Nat):List β:=(List.range i).map fun j:Nat=>f (j:Int)
theorem Cx {β:Type} (f:Int->β) (i:Nat):rows f (i+ 1)=rows f i++[f (i:Int)]:=by simp [rows,List.range_succ]
def linked (l:List aq):aQ:=⟨l,dd l,rows (e9 l) l.length,rows (fun i=>(gJ l i).1) l.length,rows (fun i=>(gJ l i).2) l.length⟩
def A7 (l:List aq) (i:Nat):Option (aQ × Int):=if 12 <(e9 l i).length\/ 16 <(gJ l i).1.length then some (JW,2) else none
section
variable {F:Nat} {l:List aq}
theorem Wo (x y:Nat):((decide ((12 :Int) <(x:Int))) || (decide ((16 :Int) <(y:Int))))=decide (12 <x\/ 16 <y):=by
 rw [Bool.eq_iff_iff];simp;omega
theorem atU (aI:1100 <F) (h:hq l) (rC p2:Int × bn) (O1:rC.2.b1=eO 0 l) (D6:p2.2.dl=dd l) :
 mj F l rC p2 F [] [] [] 0 =some (z2 ((List.range l.length).findSome? (A7 l)) (rows (fun i=>(gJ l i).2) l.length,rows (fun i=>(gJ l i).1) l.length,rows (e9 l) l.length)):=by
 have hlen:=h.right.len
 refine Mu (n:=l.length) (fun k i=>mj F l rC p2 k (rows (fun i=>(gJ l i).2) i) (rows (fun i=>(gJ l i).1) i) (rows (e9 l) i) (i:Int)) _ _ (fun k i hi=>?_) (fun k=>?_) (F:=F) (by omega)
 · show mj F l rC p2 (k+ 1) (rows (fun i=>(gJ l i).2) i) (rows (fun i=>(gJ l i).1) i) (rows (e9 l) i) (i:Int)=_
   rw [mj,bL hi,cond_true,O1,D6,h.atV aI (eO 0 l) (by omega) (by omega),Option.bind_some,h.QQ aI (eO 0 l) (by omega) (by omega),Option.bind_some,
    hY (by simp only [rows,List.length_map,List.length_range,List.length_cons,List.length_nil];omega),Option.bind_some,hY (by simp only [rows,List.length_map,List.length_range,List.length_cons,List.length_nil];omega),Option.bind_some,
    hY (by simp only [rows,List.length_map,List.length_range,List.length_cons,List.length_nil];omega),Option.bind_some,bt (i:=i) (x:=e9 l i) (by simp [rows]),Option.bind_some,Wo,fs hi (by omega),<-Cx (e9 l),<-Cx (fun i=>(gJ l i).1),<-Cx (fun i=>(gJ l i).2)]
   unfold A7
   by_cases ah:12 <(e9 l i).length\/ 16 <(gJ l i).1.length
   · rw [decide_eq_true ah,if_pos ah];rfl
   · rw [decide_eq_false ah,if_neg ah];rfl
 · show mj F l rC p2 (k+ 1) (rows (fun i=>(gJ l i).2) l.length) (rows (fun i=>(gJ l i).1) l.length) (rows (e9 l) l.length) (l.length:Int)=_
   rw [mj,bK];rfl
theorem ax5 (aI:1100 <F) (h:hq l) :
 o5 F l F [] [] [] [] 0 =some (z2 ((List.range l.length).findSome? (A7 l)) (rows (fun i=>(gJ l i).2) l.length,rows (fun i=>(gJ l i).1) l.length,rows (e9 l) l.length,dd l)):=by
 have hlen:=h.right.len
 refine Mu (n:=l.length) (fun k i=>o5 F l k (rows (fun i=>(gJ l i).2) i) (rows (fun i=>(gJ l i).1) i) (rows (e9 l) i) ((dd l).take i) (i:Int)) _ _ (fun k i hi=>?_) (fun k=>?_) (F:=F) (by omega)
 · obtain ⟨x,ad⟩:∃ x,l[i]? =some x:=⟨l[i],List.getElem?_eq_getElem hi⟩
   have aT:(dd l).take i++[cL l x.cS]=(dd l).take (i+ 1):=by rw [List.take_add_one,TB ad];rfl
   show o5 F l (k+ 1) (rows (fun i=>(gJ l i).2) i) (rows (fun i=>(gJ l i).1) i) (rows (e9 l) i) ((dd l).take i) (i:Int)=_
   rw [o5,bL hi,cond_true,h.S7 aI (by omega) (by omega),Option.bind_some,h.ax6 aI (by omega) (by omega),Option.bind_some,Wo,bt ad,Option.bind_some,uW ⟨by omega,by omega⟩,Option.bind_some,
    hY (by simp only [List.length_take,CE,List.length_cons,List.length_nil];omega),Option.bind_some,
    hY (by simp only [rows,List.length_map,List.length_range,List.length_cons,List.length_nil];omega),Option.bind_some,hY (by simp only [rows,List.length_map,List.length_range,List.length_cons,List.length_nil];omega),Option.bind_some,
    hY (by simp only [rows,List.length_map,List.length_range,List.length_cons,List.length_nil];omega),Option.bind_some,fs hi (by omega),<-Cx (e9 l),<-Cx (fun i=>(gJ l i).1),<-Cx (fun i=>(gJ l i).2),aT]
   unfold A7
   by_cases ah:12 <(e9 l i).length\/ 16 <(gJ l i).1.length
   · rw [decide_eq_true ah,if_pos ah];rfl
   · rw [decide_eq_false ah,if_neg ah];rfl
 · show o5 F l (k+ 1) (rows (fun i=>(gJ l i).2) l.length) (rows (fun i=>(gJ l i).1) l.length) (rows (e9 l) l.length) ((dd l).take l.length) (l.length:Int)=_
   rw [o5,bK,List.take_of_length_le (by rw [CE];omega)];rfl
theorem pY {α:Type} {e:Int} (h:e≠ 0) {x y:α}:cond (!decide (e= 0)) x y=x:=by rw [decide_eq_false h];rfl
theorem po {α:Type} {x y:α}:cond (!decide ((0 :Int)= 0)) x y=y:=rfl
theorem azd {e:Int} (h:l.findSome? rO=some e):e= 4 :=by
 obtain ⟨x,_,ad⟩:=List.exists_of_findSome?_eq_some h
 unfold rO at ad
 split at ad
 · cases ad
 · injection ad with ad;exact ad.symm
theorem aue {e:Int} (h:l.findSome? (ox l)=some e):e= 5 :=by
 obtain ⟨x,_,ad⟩:=List.exists_of_findSome?_eq_some h
 unfold ox at ad
 split at ad
 · cases ad
 · injection ad with ad;exact ad.symm
theorem am3 {e:Int} (h:(List.range l.length).findSome? (su l)=some e):e= 4 :=by
 obtain ⟨x,_,ad⟩:=List.exists_of_findSome?_eq_some h
 unfold su at ad
 split at ad
 · cases ad
 · injection ad with ad;exact ad.symm
theorem azr {nm:List UInt8} (h:0 <=cL l nm):(dz (eO 0 l) nm).getD 0 =cL l nm:=by
 rw [B8]
 unfold cL at h ⊢
 cases aH:ev (iW nm) l with
 | none=>rw [aH] at h;simp at h
 | some i=>simp
theorem amx (aI:1100 <F) (ag:Fits F l):∃ e,Dw F l=some e /\
 ((e≠ 0 /\zu F l=some (JW,e)) \/
  (e= 0 /\hq l/\ ∃ rC p2:Int × bn,rC.2.b1=eO 0 l/\p2.2.dl=dd l /\
   zu F l=cj (α:=(List (List Target)) × (List (List (List UInt8))) × (List (List Field))) (mj F l rC p2 F [] [] [] 0) fun ((QI,QJ,QK):(List (List Target)) × (List (List (List UInt8))) × (List (List Field)))=>some ((⟨l,p2.2.dl,QK,QJ,QI⟩:aQ),0))):=by
 unfold Dw zu
 rw [alO ag,arW ag,Option.bind_some,Option.bind_some]
 by_cases aP:pi l= 0
 case neg=>exact ⟨pi l,by rw [pY aP],.inl ⟨aP,by rw [pY aP];rfl⟩⟩
 rw [aP,po,po]
 have eV:=amA aP
 have hlen:=eV.len
 rw [avp (by omega) eV,Option.bind_some]
 rcases auC (F:=F) (by omega) eV with ⟨hz,tB,rm⟩ | ⟨_,⟨m,tB⟩,rm⟩
 case inr=>
  unfold BX
  simp only
  rw [tB,rm]
  exact ⟨6,rfl,.inl ⟨by decide,rfl⟩⟩
 rw [rm,oN,uW ⟨by omega,by omega⟩,Option.bind_some,uW ⟨by omega,by omega⟩,Option.bind_some]
 have aqR:BX F ⟨l,[],[]⟩=some (cond (decide (0 <=cL l [79,98,106,101,99,116]) && decide (0 <=cL l [69,114,114,111,114])) 0 5,⟨l,eO 0 l,[]⟩):=by
  unfold BX
  simp only
  rw [tB,oN,Ro,Ro]
  cases decide (0 <=cL l [79,98,106,101,99,116]) <;> cases decide (0 <=cL l [69,114,114,111,114]) <;> rfl
 rw [aqR,Option.bind_some]
 by_cases PP:0 <=cL l [79,98,106,101,99,116]
 case neg=>
  rw [decide_eq_true (show cL l [79,98,106,101,99,116] < 0 by omega),decide_eq_false PP]
  exact ⟨5,rfl,.inl ⟨by decide,rfl⟩⟩
 rw [decide_eq_false (show ¬ cL l [79,98,106,101,99,116] < 0 by omega),decide_eq_true PP,cond_false]
 by_cases BF:0 <=cL l [69,114,114,111,114]
 case neg=>
  rw [decide_eq_true (show cL l [69,114,114,111,114] < 0 by omega),decide_eq_false BF]
  exact ⟨5,rfl,.inl ⟨by decide,rfl⟩⟩
 rw [decide_eq_false (show ¬ cL l [69,114,114,111,114] < 0 by omega),decide_eq_true BF,cond_false,Bool.and_self,cond_true]
 simp only [Option.bind_some,decide_true,Bool.not_true,cond_false]
 unfold Jn
 simp only
 rw [azb (by omega) eV,azc (by omega) eV,jb,jb]
 cases aM:l.findSome? rO with
 | some e=>
   have:=azd aM
   subst this
   exact ⟨4,rfl,.inl ⟨by decide,rfl⟩⟩
 | none=>
 simp only [Option.map_none,nk]
 obtain ⟨o,av,hm⟩:=auc (F:=F) (by omega) eV
 rw [aud (by omega) eV,jb,hm,<-av]
 cases o with
 | some r=>
   simp only [Option.map_some] at av
   have:=aue av.symm
   refine ⟨5,by simp only [Option.map_some,nk];rw [this],.inl ⟨by decide,?_⟩⟩
   obtain ⟨a,b⟩:=r
   simp only at this
   subst this
   rfl
 | none=>
 simp only [Option.map_none,nk,z2,oN]
 simp only [Option.map_none] at av
 rw [am2 aI eV,jb,am1 aI eV,jb]
 cases hc:(List.range l.length).findSome? (su l) with
 | some e=>
   have:=am3 hc
   subst this
   exact ⟨4,rfl,.inl ⟨by decide,rfl⟩⟩
 | none=>
 simp only [Option.map_none,nk,Option.bind_some,decide_true,Bool.not_true,cond_false]
 have aqN:∀ c ∈ l,c.cS= []\/ 0 <=cL l c.cS:=fun c hL=>by
  have:=List.findSome?_eq_none_iff.1 av.symm c hL
  unfold ox at this
  split at this
  · assumption
  · cases this
 have arB:∀ i,i <l.length-> ∃ c,dp (dd l) l.length (i:Int)=some c:=fun i hi=>by
  have:=List.findSome?_eq_none_iff.1 hc i (by simpa using hi)
  unfold su at this
  split at this
  · rename_i I;exact Option.isSome_iff_exists.1 I
  · cases this
 have jV:hq l:=⟨eV,hz,aqN,arB,fun c hL=>List.findSome?_eq_none_iff.1 aM c hL,PP⟩
 have En:cL l [69,114,114,111,114] <l.length:=MO
 obtain ⟨x,ad,_⟩:=tX (l:=l) BF En
 unfold Jo
 simp only [azr BF]
 rw [jV.S7 aI BF En,Option.bind_some,jV.QQ aI (eO 0 l) BF En,Option.bind_some,ad,Option.bind_some,Option.bind_some]
 by_cases ao:((!decide (x.cS= [79,98,106,101,99,116])) || (decide (((e9 l (cL l [69,114,114,111,114])).length:Int)= 0)))=true
 · rw [ao]
   exact ⟨4,rfl,.inl ⟨by decide,rfl⟩⟩
 rw [Bool.eq_false_iff.2 ao,cond_false,cond_false]
 have b5:0 <(e9 l (cL l [69,114,114,111,114])).length:=by
  simp only [Bool.or_eq_true,decide_eq_true_eq,not_or] at ao
  omega
 have arG:idx (e9 l (cL l [69,114,114,111,114])) 0 =some ((e9 l (cL l [69,114,114,111,114]))[0]):=by
  have:=bt (l:=e9 l (cL l [69,114,114,111,114])) (i:=0) (List.getElem?_eq_getElem b5)
  exact this
 rw [arG,Option.bind_some,Option.bind_some]
 by_cases ai:((e9 l (cL l [69,114,114,111,114]))[0]).Kind.Kind= 1
 case neg=>
  rw [decide_eq_false ai]
  exact ⟨4,rfl,.inl ⟨by decide,rfl⟩⟩
 rw [decide_eq_true ai]
 simp only [Bool.not_true,cond_false,Option.bind_some,decide_true]
 rw [ay' aI eV,jb,ay_ aI eV,Option.bind_some]
 cases gw:(qa l).findSome? (jd l) with
 | some e=>
   have:e= 5 :=by
    obtain ⟨s,_,I⟩:=List.exists_of_findSome?_eq_some gw
    rcases adx (l:=l) (s:=s) with aa | aa
    · rw [aa] at I;cases I
    · rw [aa] at I;injection I with I;exact I.symm
   subst this
   exact ⟨5,rfl,.inl ⟨by decide,rfl⟩⟩
 | none=>
 simp only [nk,Option.getD_none,decide_true,Bool.not_true,cond_false]
 rw [avi aI jV,jb,avh aI jV,Option.bind_some]
 cases PR:(List.range l.length).findSome? (wE l) with
 | some e=>
   have:e= 6 :=by
    obtain ⟨s,_,I⟩:=List.exists_of_findSome?_eq_some PR
    unfold wE sv at I
    split at I
    · split at I
      · cases I
      · simp at I;exact I.symm
    · simp at I;exact I.symm
   subst this
   exact ⟨6,rfl,.inl ⟨by decide,rfl⟩⟩
 | none=>
 simp only [nk,Option.getD_none,decide_true,Bool.not_true,cond_false]
 rw [aub aI jV,jb,aua aI jV,Option.bind_some]
 cases PH:(List.range l.length).findSome? (fun i=>(l[i]?).bind fun c=>B3 l c i) with
 | some e=>
   have:e= 4 :=by
    obtain ⟨i,_,I⟩:=List.exists_of_findSome?_eq_some PH
    cases IV:l[i]? with
    | none=>rw [IV] at I;cases I
    | some c=>
      rw [IV,Option.bind_some] at I
      unfold B3 at I
      rcases qN (WO (l:=l) c) (dw l i).tail with aa | aa
      · rw [aa] at I;cases I
      · rw [aa] at I;injection I with I;exact I.symm
   subst this
   exact ⟨4,rfl,.inl ⟨by decide,rfl⟩⟩
 | none=>
 simp only [nk,Option.getD_none,decide_true,Bool.not_true,cond_false]
 exact ⟨0,rfl,.inr ⟨rfl,jV,(0,⟨l,eO 0 l,[]⟩),(0,⟨l,eO 0 l,dd l⟩),rfl,rfl,rfl⟩⟩
theorem atT (aI:1100 <F) (ag:Fits F l):∃ r:aQ × Int,zu F l=some r/\Dx F l=some r/\(r.2 = 0 ->hq l/\r.1 =linked l)/\(r.2 ≠ 0 ->r.1 =JW):=by
 obtain ⟨e,I,aa⟩:=amx aI ag
 unfold Dx
 rw [I,Option.bind_some]
 rcases aa with ⟨he,aa⟩ | ⟨rfl,jV,rC,p2,O1,D6,aa⟩
 · exact ⟨_,aa,by rw [pY he];rfl,fun h=>absurd h he,fun _=>rfl⟩
 · rw [po,aa,atU aI jV rC p2 O1 D6,ax5 aI jV]
   cases ah:(List.range l.length).findSome? (A7 l) with
   | some r=>
     have:r=(JW,2):=by
      obtain ⟨i,_,I⟩:=List.exists_of_findSome?_eq_some ah
      unfold A7 at I
      split at I
      · injection I with I;exact I.symm
      · cases I
     subst this
     exact ⟨_,rfl,rfl,fun h=>absurd h (by decide),fun _=>rfl⟩
   | none=>
     refine ⟨_,rfl,?_,fun _=>⟨jV,?_⟩,fun h=>absurd rfl h⟩
     · simp only [z2,oN,D6]
     · simp only [D6];rfl
end
end J
namespace J
theorem k3 {α:Type} [DecidableEq α] {F:Nat} {a b:List α} (ap:a.length=b.length) {L:Nat->Int->Option (Way Bool Unit)} (aF:a.length<= 140737488355328)
 (ao:∀ k (i:Nat) x y,a[i]? =some x->b[i]? =some y->L (k+ 1) (i:Int)=cond (!decide (x=y)) (some (.out false)) (L k (aE ((i:Int)+ 1)))) (he:∀ k,L (k+ 1) (a.length:Int)=some (.go ())) (aI:a.length <F) :
 L F 0 =some (if a=b then .go () else .out false):=by
 have l1:L F 0 =some (cv ((List.range a.length).findSome? fun i=>if a[i]? =b[i]? then none else some false)):=jC _ aF (fun k i hi=>by
  rw [ao k i a[i] (b[i]'(by omega)) (List.getElem?_eq_getElem hi) (List.getElem?_eq_getElem (show i <b.length by omega)),List.getElem?_eq_getElem hi,List.getElem?_eq_getElem (show i <b.length by omega)]
  simp only [Option.some.injEq]
  by_cases e:a[i]=b[i]'(by omega)
  · rw [decide_eq_true e,if_pos e];rfl
  · rw [decide_eq_false e,if_neg e];rfl) he aI
 rw [l1]
 cases ag:(List.range a.length).findSome? fun i=>if a[i]? =b[i]? then none else some false with
 | some e=>
   obtain ⟨i,hi,I⟩:=List.exists_of_findSome?_eq_some ag
   split at I
   · cases I
   · rename_i b5
     injection I with I
     subst I
     rw [if_neg (fun e=>b5 (by rw [e]))];rfl
 | none=>
   rw [if_pos];rfl
   apply List.ext_getElem?
   intro i
   by_cases hi:i <a.length
   · have:=List.findSome?_eq_none_iff.1 ag i (by simpa using hi)
     split at this
     · assumption
     · cases this
   · rw [List.getElem?_eq_none (by omega),List.getElem?_eq_none (by omega)]
theorem NT {α β:Type} (l:List α):l.findSome? (fun _=>(none:Option β))=none:=by rw [List.findSome?_eq_none_iff];intro _ _;rfl
theorem mS {p:Prop} [Decidable p] {Y:Option Bool}:cj (α:=Unit) (some (if p then (.go ():Way Bool Unit) else .out false)) (fun _=>Y)=if p then Y else some false:=by by_cases h:p <;> simp [h]
theorem WQ {p:Prop} [Decidable p] {Y:Option (Way Bool Unit)}:cW (α:=Unit) (some (if p then (.go ():Way Bool Unit) else .out false)) (fun _=>Y)=if p then Y else some (.out false):=by by_cases h:p <;> simp [h]
theorem lj {α:Type} {a b:List α}:decide ((a.length:Int)=(b.length:Int))=decide (a.length=b.length):=by
 rw [Bool.eq_iff_iff];simp;omega
theorem pq {α:Type} [DecidableEq α] {a b:List α} (h:a.length≠b.length):decide (a=b)=false:=decide_eq_false (fun e=>h (by rw [e]))
section
variable {F:Nat}
theorem acW {a b:List Field} (aD:Small F a.length):AW F a b=some (decide (a=b)):=by
 unfold AW
 rw [lj]
 by_cases ap:a.length=b.length
 · rw [decide_eq_true ap]
   simp only [Bool.not_true,cond_false]
   rw [k3 ap aD.1 (L:=yc a b) (fun k i x y ad hy=>by rw [yc,bL (List.getElem?_eq_some_iff.1 ad).1,cond_true,bt ad,Option.bind_some,bt hy,Option.bind_some]) (fun k=>by rw [yc,bK];rfl) aD.2,mS]
   by_cases h:a=b <;> simp [h]
 · rw [decide_eq_false ap,pq ap];rfl
theorem ayF {a b:List Kind} (aD:Small F a.length):sb F a b=some (decide (a=b)):=by
 unfold sb
 rw [lj]
 by_cases ap:a.length=b.length
 · rw [decide_eq_true ap]
   simp only [Bool.not_true,cond_false]
   rw [k3 ap aD.1 (L:=nX a b) (fun k i x y ad hy=>by rw [nX,bL (List.getElem?_eq_some_iff.1 ad).1,cond_true,bt ad,Option.bind_some,bt hy,Option.bind_some]) (fun k=>by rw [nX,bK];rfl) aD.2,mS]
   by_cases h:a=b <;> simp [h]
 · rw [decide_eq_false ap,pq ap];rfl
theorem ayJ {l:List aq} (h:Fits F l):AV F l l=some true:=by
 unfold AV
 rw [decide_eq_true rfl]
 simp only [Bool.not_true,cond_false]
 have l1:x' F l l F 0 =some (cv (l.findSome? fun _=>(none:Option Bool))):=each (fun _=>none) h.1.1 (fun k i c ad=>by
  have hc:=h.2 c (List.mem_of_getElem? ad)
  have cp:ya F c c F 0 =some (cv (c.bd.findSome? fun _=>(none:Option Bool))):=each (fun _=>none) hc.methods.1 (fun k i m hy=>by
   have hm:=hc.method m (List.mem_of_getElem? hy)
   have jp:yb m m F 0 =some (cv (m.cC.findSome? fun _=>(none:Option Bool))):=each (fun _=>none) hm.vw.1 (fun k i x aj=>by
    rw [yb,bL (List.getElem?_eq_some_iff.1 aj).1,cond_true,bt aj,Option.bind_some,Option.bind_some,decide_eq_true rfl];rfl) (fun k=>by rw [yb,bK];rfl) hm.vw.2
   rw [ya,bL (List.getElem?_eq_some_iff.1 hy).1,cond_true,bt hy,Option.bind_some,Option.bind_some,ayF hm.args,Option.bind_some,jp,NT]
   simp
   rfl) (fun k=>by rw [ya,bK];rfl) hc.methods.2
  rw [x',bL (List.getElem?_eq_some_iff.1 ad).1,cond_true,bt ad,Option.bind_some,Option.bind_some,acW hc.fields,Option.bind_some,cp,NT]
  simp
  rfl) (fun k=>by rw [x',bK];rfl) h.1.2
 rw [l1,NT];rfl
structure Hp (F:Nat) (k:aQ):Prop where
 dl:Small F k.a8.length
 fields:Small F k.Fields.length
 field:∀ x ∈ k.Fields,Small F x.length
 names:Small F k.Names.length
 name:∀ x ∈ k.Names,Small F x.length
 targets:Small F k.a9.length
 target:∀ x ∈ k.a9,Small F x.length
instance:DecidableEq (List (List Field)):=inferInstance
theorem ayG {a b:aQ} (aD:Hp F a) (hc:AV F a.bc b.bc=some true) :
 AX F a b=some (decide (a.a8=b.a8/\a.Fields=b.Fields/\a.Names=b.Names/\a.a9=b.a9)):=by
 unfold AX
 rw [hc,Option.bind_some,lj,lj,lj,lj]
 have aN:∀ (_: ¬ (a.a8=b.a8/\a.Fields=b.Fields/\a.Names=b.Names/\a.a9=b.a9)),decide (a.a8=b.a8/\a.Fields=b.Fields/\a.Names=b.Names/\a.a9=b.a9)=false:=fun h=>decide_eq_false h
 by_cases I:b.a8.length=a.a8.length
 case neg=>rw [aN (fun e=>I (by rw [e.1])),decide_eq_false I];rfl
 by_cases aa:a.Fields.length=b.Fields.length
 case neg=>rw [aN (fun e=>aa (by rw [e.2.1])),decide_eq_true I,decide_eq_false aa];rfl
 by_cases au:a.Names.length=b.Names.length
 case neg=>rw [aN (fun e=>au (by rw [e.2.2.1])),decide_eq_true I,decide_eq_true aa,decide_eq_false au];rfl
 by_cases bb:a.a9.length=b.a9.length
 case neg=>rw [aN (fun e=>bb (by rw [e.2.2.2])),decide_eq_true I,decide_eq_true aa,decide_eq_true au,decide_eq_false bb];rfl
 rw [decide_eq_true I,decide_eq_true aa,decide_eq_true au,decide_eq_true bb]
 simp only [Bool.not_true,Bool.or_self,cond_false]
 have l1:=k3 (F:=F) I.symm aD.dl.1 (L:=uY a b) (fun k i x y ad hy=>by rw [uY,bL (List.getElem?_eq_some_iff.1 ad).1,cond_true,bt ad,Option.bind_some,bt hy,Option.bind_some]) (fun k=>by rw [uY,bK];rfl) aD.dl.2
 have cp:=k3 (F:=F) aa aD.fields.1 (L:=yd F a b) (fun k i x y ad hy=>by
  rw [yd,bL (List.getElem?_eq_some_iff.1 ad).1,cond_true,bt ad,Option.bind_some,bt hy,Option.bind_some,acW (aD.field x (List.mem_of_getElem? ad)),Option.bind_some]) (fun k=>by rw [yd,bK];rfl) aD.fields.2
 have jp:=k3 (F:=F) au aD.names.1 (L:=yf F a b) (fun k i x y ad hy=>by
  have jm:=aD.name x (List.mem_of_getElem? ad)
  rw [yf,bL (List.getElem?_eq_some_iff.1 ad).1,cond_true,bt ad,Option.bind_some,bt hy,Option.bind_some,lj]
  by_cases ap:x.length=y.length
  · rw [decide_eq_true ap]
    simp only [Bool.not_true,cond_false]
    rw [k3 (F:=F) ap jm.1 (L:=yg a b i) (fun k j u v hu af=>by
     rw [yg,bt ad,Option.bind_some,bL (List.getElem?_eq_some_iff.1 hu).1,cond_true,Option.bind_some,bt hu,Option.bind_some,bt hy,Option.bind_some,bt af,Option.bind_some]) (fun k=>by rw [yg,bt ad,Option.bind_some,bK];rfl) jm.2,WQ]
    by_cases h:x=y
    · rw [if_pos h,decide_eq_true h];rfl
    · rw [if_neg h,decide_eq_false h];rfl
  · rw [decide_eq_false ap,pq ap];rfl) (fun k=>by rw [yf,bK];rfl) aD.names.2
 have QA:=k3 (F:=F) bb aD.targets.1 (L:=yh F a b) (fun k i x y ad hy=>by
  have jm:=aD.target x (List.mem_of_getElem? ad)
  rw [yh,bL (List.getElem?_eq_some_iff.1 ad).1,cond_true,bt ad,Option.bind_some,bt hy,Option.bind_some,lj]
  by_cases ap:x.length=y.length
  · rw [decide_eq_true ap]
    simp only [Bool.not_true,cond_false]
    rw [k3 (F:=F) ap jm.1 (L:=yi a b i) (fun k j u v hu af=>by
     rw [yi,bt ad,Option.bind_some,bL (List.getElem?_eq_some_iff.1 hu).1,cond_true,Option.bind_some,bt hu,Option.bind_some,bt hy,Option.bind_some,bt af,Option.bind_some]) (fun k=>by rw [yi,bt ad,Option.bind_some,bK];rfl) jm.2,WQ]
    by_cases h:x=y
    · rw [if_pos h,decide_eq_true h];rfl
    · rw [if_neg h,decide_eq_false h];rfl
  · rw [decide_eq_false ap,pq ap];rfl) (fun k=>by rw [yh,bK];rfl) aD.targets.2
 rw [l1,cp,jp,QA,mS,mS,mS,mS]
 by_cases ak:a.a8=b.a8
 · by_cases al:a.Fields=b.Fields
   · by_cases aT:a.Names=b.Names
     · by_cases bU:a.a9=b.a9 <;> simp [ak,al,aT,bU]
     · simp [aT]
   · simp [al]
 · simp [ak]
end
section
variable {F:Nat} {l:List aq}
theorem ayg {β:Type} {f:Int->β} {n:Nat}:(rows f n).length=n:=by simp [rows]
end
end J
namespace J
section
variable {F:Nat}
theorem an9 {a b:List (Int)} (aD:Small F a.length):Gi F a b=some (decide (a=b)):=by
 unfold Gi
 rw [lj]
 by_cases ap:a.length=b.length
 · rw [decide_eq_true ap]
   simp only [Bool.not_true,cond_false]
   rw [k3 ap aD.1 (L:=wU a b) (fun k i x y ad hy=>by rw [wU,bL (List.getElem?_eq_some_iff.1 ad).1,cond_true,bt ad,Option.bind_some,bt hy,Option.bind_some]) (fun k=>by rw [wU,bK];rfl) aD.2,mS]
   by_cases h:a=b <;> simp [h]
 · rw [decide_eq_false ap,pq ap];rfl
theorem an7 {a b:List (Field)} (aD:Small F a.length):Gf F a b=some (decide (a=b)):=by
 unfold Gf
 rw [lj]
 by_cases ap:a.length=b.length
 · rw [decide_eq_true ap]
   simp only [Bool.not_true,cond_false]
   rw [k3 ap aD.1 (L:=wS a b) (fun k i x y ad hy=>by rw [wS,bL (List.getElem?_eq_some_iff.1 ad).1,cond_true,bt ad,Option.bind_some,bt hy,Option.bind_some]) (fun k=>by rw [wS,bK];rfl) aD.2,mS]
   by_cases h:a=b <;> simp [h]
 · rw [decide_eq_false ap,pq ap];rfl
theorem an_ {a b:List (List UInt8)} (aD:Small F a.length):Gj F a b=some (decide (a=b)):=by
 unfold Gj
 rw [lj]
 by_cases ap:a.length=b.length
 · rw [decide_eq_true ap]
   simp only [Bool.not_true,cond_false]
   rw [k3 ap aD.1 (L:=wV a b) (fun k i x y ad hy=>by rw [wV,bL (List.getElem?_eq_some_iff.1 ad).1,cond_true,bt ad,Option.bind_some,bt hy,Option.bind_some]) (fun k=>by rw [wV,bK];rfl) aD.2,mS]
   by_cases h:a=b <;> simp [h]
 · rw [decide_eq_false ap,pq ap];rfl
theorem aoa {a b:List (Target)} (aD:Small F a.length):Gh F a b=some (decide (a=b)):=by
 unfold Gh
 rw [lj]
 by_cases ap:a.length=b.length
 · rw [decide_eq_true ap]
   simp only [Bool.not_true,cond_false]
   rw [k3 ap aD.1 (L:=wT a b) (fun k i x y ad hy=>by rw [wT,bL (List.getElem?_eq_some_iff.1 ad).1,cond_true,bt ad,Option.bind_some,bt hy,Option.bind_some]) (fun k=>by rw [wT,bK];rfl) aD.2,mS]
   by_cases h:a=b <;> simp [h]
 · rw [decide_eq_false ap,pq ap];rfl
theorem an8 {a b:List (List Field)} (aD:Small F a.length) (ad:∀ x ∈ a,Small F x.length):Gb F a b=some (decide (a=b)):=by
 unfold Gb
 rw [lj]
 by_cases ap:a.length=b.length
 · rw [decide_eq_true ap]
   simp only [Bool.not_true,cond_false]
   rw [k3 ap aD.1 (L:=wP F a b) (fun k i x y I aa=>by rw [wP,bL (List.getElem?_eq_some_iff.1 I).1,cond_true,bt I,Option.bind_some,bt aa,Option.bind_some,an7 (ad x (List.mem_of_getElem? I)),Option.bind_some]) (fun k=>by rw [wP,bK];rfl) aD.2,mS]
   by_cases h:a=b <;> simp [h]
 · rw [decide_eq_false ap,pq ap];rfl
theorem an' {a b:List (List (List UInt8))} (aD:Small F a.length) (ad:∀ x ∈ a,Small F x.length):Gd F a b=some (decide (a=b)):=by
 unfold Gd
 rw [lj]
 by_cases ap:a.length=b.length
 · rw [decide_eq_true ap]
   simp only [Bool.not_true,cond_false]
   rw [k3 ap aD.1 (L:=wR F a b) (fun k i x y I aa=>by rw [wR,bL (List.getElem?_eq_some_iff.1 I).1,cond_true,bt I,Option.bind_some,bt aa,Option.bind_some,an_ (ad x (List.mem_of_getElem? I)),Option.bind_some]) (fun k=>by rw [wR,bK];rfl) aD.2,mS]
   by_cases h:a=b <;> simp [h]
 · rw [decide_eq_false ap,pq ap];rfl
theorem aob {a b:List (List Target)} (aD:Small F a.length) (ad:∀ x ∈ a,Small F x.length):Gc F a b=some (decide (a=b)):=by
 unfold Gc
 rw [lj]
 by_cases ap:a.length=b.length
 · rw [decide_eq_true ap]
   simp only [Bool.not_true,cond_false]
   rw [k3 ap aD.1 (L:=wQ F a b) (fun k i x y I aa=>by rw [wQ,bL (List.getElem?_eq_some_iff.1 I).1,cond_true,bt I,Option.bind_some,bt aa,Option.bind_some,aoa (ad x (List.mem_of_getElem? I)),Option.bind_some]) (fun k=>by rw [wQ,bK];rfl) aD.2,mS]
   by_cases h:a=b <;> simp [h]
 · rw [decide_eq_false ap,pq ap];rfl
theorem ayI {a b:aQ} (aD:Hp F a):BZ F a b=some (decide (a.a8=b.a8/\a.Fields=b.Fields/\a.Names=b.Names/\a.a9=b.a9)):=by
 unfold BZ
 rw [an9 aD.dl,Option.bind_some]
 by_cases ak:a.a8=b.a8
 case neg=>rw [decide_eq_false ak,decide_eq_false (fun e=>ak e.1)];rfl
 rw [decide_eq_true ak,cond_true,an8 aD.fields aD.field,Option.bind_some]
 by_cases al:a.Fields=b.Fields
 case neg=>rw [decide_eq_false al,decide_eq_false (fun e=>al e.2.1)];rfl
 rw [decide_eq_true al,cond_true,an' aD.names aD.name,Option.bind_some]
 by_cases aT:a.Names=b.Names
 case neg=>rw [decide_eq_false aT,decide_eq_false (fun e=>aT e.2.2.1)];rfl
 rw [decide_eq_true aT,cond_true,aob aD.targets aD.target,Option.bind_some]
 congr 1
 rw [Bool.eq_iff_iff]
 simp [ak,al,aT]
theorem amy {k:aQ} (aI:1100 <F) (hc:Fits F k.bc) (ai:Hp F k):∃ e,mi F k=some e/\qA F k=some e/\((e= 4)\/(e= 0 /\hq k.bc/\k=linked k.bc)):=by
 obtain ⟨r,I,aa,au,bb⟩:=atT aI hc
 unfold mi qA
 rw [I,aa,Option.bind_some,Option.bind_some]
 by_cases aP:r.2 = 0
 case neg=>rw [pY aP,pY aP];exact ⟨4,rfl,rfl,.inl rfl⟩
 obtain ⟨jV,e⟩:=au aP
 have s1:BZ F (⟨k.bc,k.a8,k.Fields,k.Names,k.a9⟩:aQ) (⟨r.1.bc,r.1.a8,r.1.Fields,r.1.Names,r.1.a9⟩:aQ)=some (decide (k.a8=r.1.a8/\k.Fields=r.1.Fields/\k.Names=r.1.Names/\k.a9=r.1.a9)):=ayI (a:=k) (b:=r.1) ai
 have s2:AX F (⟨k.bc,k.a8,k.Fields,k.Names,k.a9⟩:aQ) (⟨r.1.bc,r.1.a8,r.1.Fields,r.1.Names,r.1.a9⟩:aQ)=some (decide (k.a8=r.1.a8/\k.Fields=r.1.Fields/\k.Names=r.1.Names/\k.a9=r.1.a9)):=ayG (a:=k) (b:=r.1) ai (by rw [e];exact ayJ hc)
 rw [s1,s2,aP];simp only [po,Option.bind_some]
 by_cases ao:k.a8=r.1.a8/\k.Fields=r.1.Fields/\k.Names=r.1.Names/\k.a9=r.1.a9
 · rw [decide_eq_true ao]
   refine ⟨0,rfl,rfl,.inr ⟨rfl,jV,?_⟩⟩
   obtain ⟨ak,al,aT,bU⟩:=ao
   rw [e] at ak al aT bU
   obtain ⟨a,b,c,d,f⟩:=k
   simp only at ak al aT bU
   subst ak al aT bU
   rfl
 · rw [decide_eq_false ao]
   exact ⟨4,rfl,rfl,.inl rfl⟩
end
end J
namespace J
def wD (h:aW):Prop:=(3 <=h.ar/\h.ar<= 2000)/\(3 <=h.aV/\h.aV<= 2000)
def okB (h:aW):Prop:=(h.Words.length:Int)= 1 +h.ar+h.aV
def Cb (h:aW):Prop:=(1 <=h.a3/\h.a3<=h.ar+ 1)/\(h.ar+ 1 <=h.a1/\h.a1<=h.ar+h.aV+ 1)/\ 1 <=h.Next
instance (h:aW):Decidable (wD h):=inferInstanceAs (Decidable ((3 <=h.ar/\h.ar<= 2000)/\(3 <=h.aV/\h.aV<= 2000)))
instance (h:aW):Decidable (okB h):=inferInstanceAs (Decidable ((h.Words.length:Int)= 1 +h.ar+h.aV))
instance (h:aW):Decidable (Cb h):=inferInstanceAs (Decidable ((1 <=h.a3/\h.a3<=h.ar+ 1)/\(h.ar+ 1 <=h.a1/\h.a1<=h.ar+h.aV+ 1)/\ 1 <=h.Next))
def lx (h:aW):Int:=if wD h then (if okB h then (if Cb h then 0 else 3) else 1) else 3
theorem ayW (h:aW):BE h=some (lx h):=by
 unfold BE m2 lx
 simp only [Option.bind_some]
 by_cases dH:wD h
 case neg=>
  rw [if_neg dH]
  unfold wD at dH
  by_cases a:3 <=h.ar/\h.ar<= 2000
  · have b: ¬ (3 <=h.aV/\h.aV<= 2000):=fun b=>dH ⟨a,b⟩
    rw [show (decide (3 <=h.ar) && decide (h.ar<= 2000))=true by simpa using a,show (decide (3 <=h.aV) && decide (h.aV<= 2000))=false by rw [Bool.eq_false_iff];simpa using b]
    rfl
  · rw [show (decide (3 <=h.ar) && decide (h.ar<= 2000))=false by rw [Bool.eq_false_iff];simpa using a]
    rfl
 rw [if_pos dH]
 unfold wD at dH
 obtain ⟨⟨cO,dv⟩,er,e2⟩:=dH
 rw [show (decide (3 <=h.ar) && decide (h.ar<= 2000))=true by simp;omega,show (decide (3 <=h.aV) && decide (h.aV<= 2000))=true by simp;omega,
  da (n:=1 +h.ar) (by omega) (by omega),da (n:=1 +h.ar+h.aV) (by omega) (by omega),da (n:=h.ar+ 1) (by omega) (by omega),da (n:=h.ar+h.aV) (by omega) (by omega),da (n:=h.ar+h.aV+ 1) (by omega) (by omega)]
 simp only [Bool.not_true,cond_false]
 by_cases bS:okB h
 case neg=>
  rw [if_neg bS,show decide ((h.Words.length:Int)= 1 +h.ar+h.aV)=false from decide_eq_false bS];rfl
 rw [if_pos bS,show decide ((h.Words.length:Int)= 1 +h.ar+h.aV)=true from decide_eq_true bS]
 simp only [Bool.not_true,cond_false]
 by_cases hx:Cb h
 · rw [if_pos hx]
   obtain ⟨c1,c2,c3⟩:=hx
   rw [show (decide (1 <=h.a3) && decide (h.a3<=h.ar+ 1))=true by simpa using c1,show (decide (h.ar+ 1 <=h.a1) && decide (h.a1<=h.ar+h.aV+ 1))=true by simpa using c2,show decide (h.Next < 1)=false from decide_eq_false (by omega)]
   rfl
 · rw [if_neg hx]
   by_cases c1:1 <=h.a3/\h.a3<=h.ar+ 1
   · rw [show (decide (1 <=h.a3) && decide (h.a3<=h.ar+ 1))=true by simpa using c1]
     by_cases c2:h.ar+ 1 <=h.a1/\h.a1<=h.ar+h.aV+ 1
     · have c3:h.Next < 1 :=by
        rcases Int.lt_or_le h.Next 1 with c | c
        · exact c
        · exact absurd ⟨c1,c2,c⟩ hx
       rw [decide_eq_true c3,Bool.or_true];rfl
     · rw [show (decide (h.ar+ 1 <=h.a1) && decide (h.a1<=h.ar+h.aV+ 1))=false by rw [Bool.eq_false_iff];simpa using c2]
       rfl
   · rw [show (decide (1 <=h.a3) && decide (h.a3<=h.ar+ 1))=false by rw [Bool.eq_false_iff];simpa using c1]
     rfl
structure h2 (h:aW):Prop where
 A:wD h
 B:okB h
 C:Cb h
theorem Tr {h:aW}:lx h= 0 ↔ h2 h:=by
 unfold lx
 constructor
 · intro e
   split at e
   · split at e
     · split at e
       · exact ⟨‹_›,‹_›,‹_›⟩
       · cases e
     · cases e
   · cases e
 · rintro ⟨a,b,c⟩
   rw [if_pos a,if_pos b,if_pos c]
section
variable {F:Nat} {k:aQ} {W:List Int}
theorem eQ.mem {to q:Nat} {L:List Int} (h:eQ k W to q L):∀ a ∈ L,∃ n:Nat,a=(n:Int)/\q<=n/\n+ 3 +(wd W (n+ 1)).toNat<=to/\gR k (wd W n)=true/\isLen k (wd W n) (wd W (n+ 1))=true:=by
 induction h with
 | nil=>intro a aD;cases aD
 | cons I aa au _ bi=>
   intro a aD
   rcases List.mem_cons.1 aD with rfl | aD
   · exact ⟨_,rfl,Nat.le_refl _,au,I,aa⟩
   · obtain ⟨n,e,bb,c0⟩:=bi a aD
     exact ⟨n,e,by omega,c0⟩
theorem eQ.w4 {to q:Nat} {L L':List Int} (h:eQ k W to q L) (h':eQ k W to q L'):L=L':=by
 induction h generalizing L' with
 | nil=>
   cases h' with
   | nil=>rfl
   | cons _ _ _ _=>omega
 | cons _ _ au _ bi=>
   cases h' with
   | nil=>omega
   | cons _ _ _ bb=>rw [bi bb]
theorem eQ.len {to q:Nat} {L:List Int} (h:eQ k W to q L):3 *L.length+q<=to:=by
 induction h with
 | nil=>simp
 | cons _ _ au _ bi=>simp only [List.length_cons];omega
theorem adm {l:List Int} {N:Nat} (h:u3 l) (aP:∀ i,i <l.length-> 0 <=wd l i/\wd l i <N):l.length<=N:=by
 have key:∀ i,i <l.length->(i:Int)<=wd l i:=by
  intro i
  induction i with
  | zero=>intro hi;exact (aP 0 hi).1
  | succ i bi=>
    intro hi
    have:=h i (i+ 1) (by omega) hi
    have:=bi (by omega)
    omega
 rcases Nat.eq_zero_or_pos l.length with e | e
 · omega
 · have:=key (l.length - 1) (by omega)
   have:=(aP (l.length - 1) (by omega)).2
   omega
theorem QY (x:Int):∀ A:List Int,(dz (A.map fun a=>(a,true)) x).getD false=decide (x ∈ A)
 | []=>by simp [dz]
 | a::r=>by
   rw [List.map_cons,dz]
   by_cases e:a=x
   · simp [e]
   · rw [if_neg e,QY x r]
     have: ¬ x=a:=fun h=>e h.symm
     simp [this]
def view (h:aW) (k:aQ) (Y O:List Int):bf:=⟨h,⟨k⟩,Y,O,(Y++O).map fun a=>(a,true)⟩
structure hr (h:aW) (k:aQ) (Y O:List Int):Prop where
 y:eQ k h.Words h.a3.toNat 1 Y
 o:eQ k h.Words h.a1.toNat (h.ar+ 1).toNat O
theorem h2.h6 {h:aW} (ao:h2 h):h.Words.length<= 4001 :=by
 obtain ⟨⟨⟨a,b⟩,c,d⟩,e,_⟩:=ao
 unfold okB at e;omega
theorem hr.qb {h:aW} {Y O:List Int} (ai:fV k) (ao:h2 h) (ap:hr h k Y O):mP (view h k Y O):=by
 have hw:=ao.h6
 obtain ⟨⟨⟨cO,dv⟩,er,e2⟩,b,⟨c1,c2⟩,⟨c3,c4⟩,c5⟩:=ao
 unfold okB at b
 refine ⟨ai,by show h.Words.length<= 4900;omega,?_,fun a aD=>?_,fun x=>QY x _⟩
 · have:=ap.y.len;have:=ap.o.len
   show Y.length+O.length<= 5000
   omega
 · have aD:a ∈ Y++O:=aD
   rcases List.mem_append.1 aD with aD | aD
   · obtain ⟨n,rfl,I,aa,au,bb⟩:=ap.y.mem a aD
     exact ⟨by omega,by show ((n:Int).toNat)+ 3 +(wd h.Words ((n:Int).toNat+ 1)).toNat<=h.Words.length;rw [Int.toNat_natCast];omega,by rw [Int.toNat_natCast];exact au,by rw [Int.toNat_natCast];exact bb⟩
   · obtain ⟨n,rfl,I,aa,au,bb⟩:=ap.o.mem a aD
     exact ⟨by omega,by show ((n:Int).toNat)+ 3 +(wd h.Words ((n:Int).toNat+ 1)).toNat<=h.Words.length;rw [Int.toNat_natCast];omega,by rw [Int.toNat_natCast];exact au,by rw [Int.toNat_natCast];exact bb⟩
def a5 (v:bf):Int:=if (v.ar++v.aV).any (ku v) then 3 else if ((v.ar++v.aV).map (ao v.H.Words)).Nodup then 0 else 6
def kO (v:bf):Int:=if (v.ar++v.aV).any (ms v) then 5 else if (free v.H).any (fun x=>!decide (x= 0)) then 1 else 0
def wz (v:bf):Int:=if (List.range v.H.aY.length).any (gV v) || v.aV.any (nN v) then 4 else 0
def mB (v:bf):Int:=if a5 v= 0 then (if kO v= 0 then wz v else kO v) else a5 v
inductive Spec (h:aW) (k:aQ):Option bf × Int->Prop
 | size: ¬ h2 h->Spec h k (none,lx h)
 | form:h2 h->(∀ Y O,¬ hr h k Y O)->Spec h k (none,1)
 | rest {Y O:List Int}:h2 h->hr h k Y O->Spec h k (if mB (view h k Y O)= 0 then some (view h k Y O) else none,mB (view h k Y O))
theorem Rz (aI:10000 <F) {h:aW} (ai:fV k) (aF:Small F h.aY.length):∃ r,q1 F h k=some r/\Spec h k r:=by
 unfold q1
 have cF:BE (⟨h.Words,h.ar,h.aV,h.a3,h.a1,h.aY,h.Next⟩:aW)=some (lx h):=ayW h
 rw [cF,Option.bind_some]
 by_cases ao:h2 h
 case neg=>
  rw [pY (fun e=>ao (Tr.1 e))]
  exact ⟨_,rfl,.size ao⟩
 rw [Tr.2 ao,po]
 have hw:=ao.h6
 have cf:=ao
 obtain ⟨⟨⟨cO,dv⟩,er,e2⟩,b,⟨c1,c2⟩,⟨c3,c4⟩,c5⟩:=ao
 unfold okB at b
 have t1:=adt (F:=F) (by omega) (⟨h,⟨k⟩,[],[],[]⟩:bf) ai (q:=1) (to:=h.a3.toNat) (by omega) (by show _<=h.Words.length;omega) (by show h.Words.length<= 5000;omega) (fun p aH=>by cases aH)
 rw [show ((h.a3.toNat:Nat):Int)=h.a3 by omega] at t1
 rw [da (n:=h.ar+ 1) (by omega) (by omega)]
 rcases t1 with ⟨Y,qS,ak⟩ | ⟨iS,eR,ak⟩
 case inr=>
  have ak:k7 F (⟨(⟨h.Words,h.ar,h.aV,h.a3,h.a1,h.aY,h.Next⟩:aW),(⟨(⟨k.bc,k.a8,k.Fields,k.Names,k.a9⟩:aQ)⟩:ch),[],[],[]⟩:bf) 1 h.a3=some ([],false,(⟨h,⟨k⟩,[],[],eR⟩:bf)):=ak
  rw [ak,Option.bind_some]
  have t2:∃ r,k7 F (⟨(⟨h.Words,h.ar,h.aV,h.a3,h.a1,h.aY,h.Next⟩:aW),(⟨(⟨k.bc,k.a8,k.Fields,k.Names,k.a9⟩:aQ)⟩:ch),[],[],eR⟩:bf) (h.ar+ 1) h.a1=some r:=by
   unfold k7
   have key:∀ (f q:Nat) (acc:List Int) (m:List (Int × Bool)),q<=h.a1.toNat->h.a1.toNat - q <f->acc.length+(h.a1.toNat - q)<= 5000 -> ∃ r,m1 h.a1 (⟨h,⟨k⟩,[],[],eR⟩:bf) f acc m (q:Int)=some r:=by
    intro f
    induction f with
    | zero=>intro q acc m _ aS;omega
    | succ f bi=>
      intro q acc m aS ag sD
      rw [m1]
      by_cases bx:(q:Int) <h.a1
      case neg=>rw [decide_eq_false bx];exact ⟨_,rfl⟩
      rw [decide_eq_true bx,cond_true,da (n:=(q:Int)+ 3) (by omega) (by omega)]
      by_cases au:h.a1 <(q:Int)+ 3
      · rw [decide_eq_true au];exact ⟨_,rfl⟩
      rw [decide_eq_false au,cond_false]
      show ∃ r,(idx h.Words (q:Int)).bind _=some r
      rw [gb (by omega),Option.bind_some]
      show ∃ r,(idx h.Words (aE ((q:Int)+ 1))).bind _=some r
      rw [da (n:=(q:Int)+ 1) (by omega) (by omega),pE (i:=q+ 1) (by omega) (by omega),Option.bind_some]
      have ak:sJ (⟨(⟨k.bc,k.a8,k.Fields,k.Names,k.a9⟩:aQ)⟩:ch) (wd h.Words q)=some (gR k (wd h.Words q)):=ada ai _
      show ∃ r,(sJ (⟨(⟨k.bc,k.a8,k.Fields,k.Names,k.a9⟩:aQ)⟩:ch) (wd h.Words q)).bind _=some r
      rw [ak,Option.bind_some]
      cases aM:gR k (wd h.Words q) with
      | false=>exact ⟨_,rfl⟩
      | true=>
        have al:sK (⟨(⟨k.bc,k.a8,k.Fields,k.Names,k.a9⟩:aQ)⟩:ch) (wd h.Words q) (wd h.Words (q+ 1))=some (isLen k (wd h.Words q) (wd h.Words (q+ 1))):=adb ai aM _
        rw [Bool.not_true,cond_false]
        show ∃ r,(sK (⟨(⟨k.bc,k.a8,k.Fields,k.Names,k.a9⟩:aQ)⟩:ch) (wd h.Words q) (wd h.Words (q+ 1))).bind _=some r
        rw [al,Option.bind_some]
        cases ap:isLen k (wd h.Words q) (wd h.Words (q+ 1)) with
        | false=>exact ⟨_,rfl⟩
        | true=>
          obtain ⟨⟨q9,l1⟩,_⟩:=oi.1 ap
          rw [Bool.not_true,Bool.false_or,da (n:=(q:Int)+ 3 +wd h.Words (q+ 1)) (by omega) (by omega)]
          by_cases Eo:h.a1 <(q:Int)+ 3 +wd h.Words (q+ 1)
          · rw [decide_eq_true Eo];exact ⟨_,rfl⟩
          rw [decide_eq_false Eo,cond_false,hY (by simp;omega),Option.bind_some,da (n:=3 +wd h.Words (q+ 1)) (by omega) (by omega),da (n:=(q:Int)+(3 +wd h.Words (q+ 1))) (by omega) (by omega),
           show (q:Int)+(3 +wd h.Words (q+ 1))=((q+ 3 +(wd h.Words (q+ 1)).toNat:Nat):Int) by omega]
          exact bi _ _ _ (by omega) (by omega) (by simp;omega)
   obtain ⟨r,aB⟩:=key F (h.ar+ 1).toNat [] eR (by omega) (by omega) (by simp;omega)
   rw [show (((h.ar+ 1).toNat:Nat):Int)=h.ar+ 1 by omega] at aB
   have aB:m1 h.a1 (⟨(⟨h.Words,h.ar,h.aV,h.a3,h.a1,h.aY,h.Next⟩:aW),(⟨(⟨k.bc,k.a8,k.Fields,k.Names,k.a9⟩:aQ)⟩:ch),[],[],eR⟩:bf) F [] eR (h.ar+ 1)=some r:=aB
   rw [aB]
   cases r <;> exact ⟨_,rfl⟩
  obtain ⟨r,al⟩:=t2
  rw [al,Option.bind_some]
  exact ⟨_,rfl,.form cf (fun Y O ap=>iS Y ap.y)⟩
 have ak:k7 F (⟨(⟨h.Words,h.ar,h.aV,h.a3,h.a1,h.aY,h.Next⟩:aW),(⟨(⟨k.bc,k.a8,k.Fields,k.Names,k.a9⟩:aQ)⟩:ch),[],[],[]⟩:bf) 1 h.a3=some (Y,true,(⟨h,⟨k⟩,[],[],Y.map fun a=>(a,true)⟩:bf)):=ak
 rw [ak,Option.bind_some]
 have t2:=adt (F:=F) (by omega) (⟨h,⟨k⟩,[],[],Y.map fun a=>(a,true)⟩:bf) ai (q:=(h.ar+ 1).toNat) (to:=h.a1.toNat) (by omega) (by show _<=h.Words.length;omega) (by show h.Words.length<= 5000;omega) (fun p aH=>by
  obtain ⟨a,aD,rfl⟩:=List.mem_map.1 aH
  have apH:eQ k h.Words h.a3.toNat 1 Y:=qS
  obtain ⟨n,rfl,I,aa,_⟩:=apH.mem a aD
  show (n:Int) <_
  omega)
 rw [show ((h.a1.toNat:Nat):Int)=h.a1 by omega,show (((h.ar+ 1).toNat:Nat):Int)=h.ar+ 1 by omega] at t2
 rcases t2 with ⟨O,hz,al⟩ | ⟨iS,eR,al⟩
 case inr=>
  have al:k7 F (⟨(⟨h.Words,h.ar,h.aV,h.a3,h.a1,h.aY,h.Next⟩:aW),(⟨(⟨k.bc,k.a8,k.Fields,k.Names,k.a9⟩:aQ)⟩:ch),[],[],Y.map fun a=>(a,true)⟩:bf) (h.ar+ 1) h.a1=_:=al
  show ∃ r,(k7 F (⟨(⟨h.Words,h.ar,h.aV,h.a3,h.a1,h.aY,h.Next⟩:aW),(⟨(⟨k.bc,k.a8,k.Fields,k.Names,k.a9⟩:aQ)⟩:ch),[],[],Y.map fun a=>(a,true)⟩:bf) (h.ar+ 1) h.a1).bind _=some r/\_
  rw [al,Option.bind_some]
  exact ⟨_,rfl,.form cf (fun Dz AM ap=>iS AM ap.o)⟩
 have al:k7 F (⟨(⟨h.Words,h.ar,h.aV,h.a3,h.a1,h.aY,h.Next⟩:aW),(⟨(⟨k.bc,k.a8,k.Fields,k.Names,k.a9⟩:aQ)⟩:ch),[],[],Y.map fun a=>(a,true)⟩:bf) (h.ar+ 1) h.a1=some (O,true,(⟨h,⟨k⟩,[],[],(Y.map fun a=>(a,true))++O.map fun a=>(a,true)⟩:bf)):=al
 show ∃ r,(k7 F (⟨(⟨h.Words,h.ar,h.aV,h.a3,h.a1,h.aY,h.Next⟩:aW),(⟨(⟨k.bc,k.a8,k.Fields,k.Names,k.a9⟩:aQ)⟩:ch),[],[],Y.map fun a=>(a,true)⟩:bf) (h.ar+ 1) h.a1).bind _=some r/\_
 rw [al,Option.bind_some,<-List.map_append]
 have ap:hr h k Y O:=⟨qS,hz⟩
 have af:=ap.qb ai cf
 have ft:BB F (⟨(⟨h.Words,h.ar,h.aV,h.a3,h.a1,h.aY,h.Next⟩:aW),(⟨(⟨k.bc,k.a8,k.Fields,k.Names,k.a9⟩:aQ)⟩:ch),Y,O,(Y++O).map fun a=>(a,true)⟩:bf)=some (a5 (view h k Y O)):=
  apN aI (view h k Y O) af.n4 (fun a aD=>⟨(af.p' a aD).pos,by have:=(af.p' a aD).fit;omega⟩) (by have:=af.h6;omega) (by simp [view])
 have jL:BD F (⟨(⟨h.Words,h.ar,h.aV,h.a3,h.a1,h.aY,h.Next⟩:aW),(⟨(⟨k.bc,k.a8,k.Fields,k.Names,k.a9⟩:aQ)⟩:ch),Y,O,(Y++O).map fun a=>(a,true)⟩:bf)=some (kO (view h k Y O)):=
  azG aI af (by show 0 <=h.ar;omega) ⟨by show 0 <=h.a3;omega,by show h.a3<=h.ar+ 1;omega,by show h.ar+ 1 <=h.Words.length;omega⟩ ⟨by show 0 <=h.a1;omega,by show h.a1<=h.Words.length;omega⟩
 have qd:BC F (⟨(⟨h.Words,h.ar,h.aV,h.a3,h.a1,h.aY,h.Next⟩:aW),(⟨(⟨k.bc,k.a8,k.Fields,k.Names,k.a9⟩:aQ)⟩:ch),Y,O,(Y++O).map fun a=>(a,true)⟩:bf)=some (wz (view h k Y O)):=
  au8 aI af aF.1 aF.2 (fun iR=>by
   refine Nat.le_trans (adm (N:=5000) (TA fun i hi=>?_) (fun i hi=>?_)) (by omega)
   · have:=iR (i+ 1) hi
     unfold gV at this
     simp only [Bool.or_eq_false_iff,Bool.and_eq_false_iff,decide_eq_false_iff_not,Nat.add_sub_cancel] at this
     rcases this.1 with z | z
     · omega
     · have z: ¬ wd h.aY (i+ 1)<=wd h.aY i:=z
       show wd h.aY i <wd h.aY (i+ 1);omega
   · have:=iR i hi
     unfold gV pX at this
     simp only [Bool.or_eq_false_iff] at this
     have hm:wd (view h k Y O).H.aY i ∈ (view h k Y O).ar++(view h k Y O).aV:=by
      have:=this.2.1.1
      simp only [Bool.not_eq_false'] at this
      exact of_decide_eq_true this
     have aM:=af.p' _ hm
     have I:0 <=wd h.aY i:=aM.pos
     have aa:(wd h.aY i).toNat+ 3 +(wd h.Words ((wd h.aY i).toNat+ 1)).toNat<=h.Words.length:=aM.fit
     exact ⟨I,by show wd h.aY i <((5000 :Nat):Int);omega⟩)
 simp only [Bool.not_true,Bool.or_self,cond_false]
 rw [ft,Option.bind_some]
 by_cases bp:a5 (view h k Y O)= 0
 case neg=>
  rw [pY bp]
  have b_:mB (view h k Y O)=a5 (view h k Y O):=by unfold mB;rw [if_neg bp]
  have:=Spec.rest cf ap
  rw [b_,if_neg bp] at this
  exact ⟨_,rfl,this⟩
 rw [bp,po,jL,Option.bind_some]
 by_cases bI:kO (view h k Y O)= 0
 case neg=>
  rw [pY bI]
  have b_:mB (view h k Y O)=kO (view h k Y O):=by unfold mB;rw [if_pos bp,if_neg bI]
  have:=Spec.rest cf ap
  rw [b_,if_neg bI] at this
  exact ⟨_,rfl,this⟩
 rw [bI,po,qd,Option.bind_some]
 have b_:mB (view h k Y O)=wz (view h k Y O):=by unfold mB;rw [if_pos bp,if_pos bI]
 have y3:=Spec.rest cf ap
 rw [b_] at y3
 by_cases b2:wz (view h k Y O)= 0
 · rw [b2] at y3 ⊢
   rw [po]
   exact ⟨_,rfl,y3⟩
 · rw [pY b2]
   rw [if_neg b2] at y3
   exact ⟨_,rfl,y3⟩
end
end J
namespace J
theorem ad9 {W:List Int} {p j:Nat} {x:Int} (aH:p <W.length):wd (W.set p x) j=if j=p then x else wd W j:=by
 unfold wd
 rw [List.getElem?_set]
 by_cases e:j=p
 · subst e;simp [aH]
 · have: ¬ p=j:=fun h=>e h.symm
   simp [e,this]
theorem aaU {h:aW} {x:Int} (hy:0 <=h.ar) (ad:x ∈ free h):∃ i:Nat,i <h.Words.length/\(i= 0 \/(h.a3<=i/\(i:Int)<=h.ar)\/h.a1<=i)/\x=wd h.Words i:=by
 unfold free at ad
 rw [List.mem_append,List.mem_append] at ad
 rcases ad with ad | ad | ad
 · obtain ⟨i,hi,e⟩:=List.getElem_of_mem ad
   have cP:i < 1 /\i <h.Words.length:=by rw [List.length_take] at hi;omega
   refine ⟨i,cP.2,.inl (by omega),?_⟩
   rw [<-e,List.getElem_take];exact (nE (List.getElem?_eq_getElem cP.2)).symm
 · obtain ⟨i,hi,e⟩:=List.getElem_of_mem ad
   have cP:i <min (h.ar+ 1).toNat h.Words.length - h.a3.toNat:=by simpa using hi
   have aa:h.a3.toNat+i <h.Words.length:=by omega
   refine ⟨h.a3.toNat+i,aa,.inr (.inl ⟨by omega,by omega⟩),?_⟩
   rw [<-e,List.getElem_drop,List.getElem_take];exact (nE (List.getElem?_eq_getElem aa)).symm
 · obtain ⟨i,hi,e⟩:=List.getElem_of_mem ad
   have cP:i <h.Words.length - h.a1.toNat:=by simpa using hi
   have aa:h.a1.toNat+i <h.Words.length:=by omega
   refine ⟨h.a1.toNat+i,aa,.inr (.inr (by omega)),?_⟩
   rw [<-e,List.getElem_drop];exact (nE (List.getElem?_eq_getElem aa)).symm
theorem YH {h:aW} (aP:0 <=h.a3/\ 0 <=h.a1) {i:Nat} (hi:i <h.Words.length) (hc:i= 0 \/(h.a3<=i/\(i:Int)<=h.ar)\/h.a1<=i):wd h.Words i ∈ free h:=by
 have key:wd h.Words i=h.Words[i]:=nE (List.getElem?_eq_getElem hi)
 unfold free
 rw [List.mem_append,List.mem_append,key]
 rcases hc with rfl | ⟨I,aa⟩ | I
 · left
   rw [List.mem_iff_getElem?]
   exact ⟨0,by rw [List.getElem?_take,if_pos (by omega)];exact List.getElem?_eq_getElem hi⟩
 · right;left
   rw [List.mem_iff_getElem?]
   refine ⟨i - h.a3.toNat,?_⟩
   rw [List.getElem?_drop,List.getElem?_take,if_pos (by omega),show h.a3.toNat+(i - h.a3.toNat)=i by omega]
   exact List.getElem?_eq_getElem hi
 · right;right
   rw [List.mem_iff_getElem?]
   refine ⟨i - h.a1.toNat,?_⟩
   rw [List.getElem?_drop,show h.a1.toNat+(i - h.a1.toNat)=i by omega]
   exact List.getElem?_eq_getElem hi
structure dr (h:aW) (k:aQ) (Y O:List Int):Prop where
 hash:∀ a ∈ Y++O,1 <=ao h.Words a/\ao h.Words a <h.Next
 nodup:((Y++O).map (ao h.Words)).Nodup
 ref:∀ a ∈ Y++O,∀ w ∈ refs k h.Words a.toNat,wd h.Words w.toNat= 0 \/wd h.Words w.toNat ∈ Y++O
 a_:∀ i:Nat,i <h.Words.length->(i= 0 \/(h.a3<=i/\(i:Int)<=h.ar)\/h.a1<=i)->wd h.Words i= 0
 Tz:u3 h.aY
 nt:∀ x ∈ h.aY,x ∈ O/\refs k h.Words x.toNat≠ []
 must:∀ a ∈ O,¬ a ∈ h.aY-> ∀ w ∈ refs k h.Words a.toNat,¬ (0 <wd h.Words w.toNat/\wd h.Words w.toNat<=h.ar)
section
variable {F:Nat} {k:aQ} {h:aW} {Y O:List Int}
theorem hr.Dc (ao:h2 h) (ap:hr h k Y O):∀ a ∈ Y,1 <=a/\a.toNat+ 3 +(wd h.Words (a.toNat+ 1)).toNat<=h.a3.toNat:=fun a aD=>by
 obtain ⟨n,rfl,I,aa,_⟩:=ap.y.mem a aD
 exact ⟨by omega,by rw [Int.toNat_natCast];exact aa⟩
theorem hr.js (ao:h2 h) (ap:hr h k Y O):∀ a ∈ O,h.ar+ 1 <=a/\a.toNat+ 3 +(wd h.Words (a.toNat+ 1)).toNat<=h.a1.toNat:=fun a aD=>by
 obtain ⟨n,rfl,I,aa,_⟩:=ap.o.mem a aD
 have:=ao.A.1.1
 exact ⟨by omega,by rw [Int.toNat_natCast];exact aa⟩
theorem ad0 (ai:fV k) (cf:h2 h) (ap:hr h k Y O):mB (view h k Y O)= 0 ↔ dr h k Y O:=by
 have af:=ap.qb ai cf
 obtain ⟨⟨⟨cO,dv⟩,er,e2⟩,b,⟨c1,c2⟩,⟨c3,c4⟩,c5⟩:=id cf
 have hy:=ap.Dc cf;have av:=ap.js cf
 have ak:a5 (view h k Y O)= 0 ↔ (∀ a ∈ Y++O,ku (view h k Y O) a=false)/\((Y++O).map (ao h.Words)).Nodup:=by
  unfold a5
  show (if (Y++O).any (ku (view h k Y O)) then (3 :Int) else if ((Y++O).map (ao h.Words)).Nodup then 0 else 6)= 0 ↔ _
  cases ah:(Y++O).any (ku (view h k Y O)) with
  | true=>
    rw [if_pos rfl]
    refine ⟨fun e=>(by cases e),fun ⟨e,_⟩=>?_⟩
    obtain ⟨x,ad,al⟩:=List.any_eq_true.1 ah
    rw [e x ad] at al;cases al
  | false=>
    rw [if_neg (by decide)]
    rw [List.any_eq_false] at ah
    have fN:∀ a ∈ Y++O,ku (view h k Y O) a=false:=fun a aD=>by simpa using ah a aD
    split
    · rename_i aF;exact ⟨fun _=>⟨fN,aF⟩,fun _=>rfl⟩
    · rename_i aF;exact ⟨fun e=>(by cases e),fun e=>absurd e.2 aF⟩
 have al:kO (view h k Y O)= 0 ↔ (∀ a ∈ Y++O,ms (view h k Y O) a=false)/\ ∀ x ∈ free h,x= 0 :=by
  unfold kO
  show (if (Y++O).any (ms (view h k Y O)) then (5 :Int) else if (free h).any (fun x=>!decide (x= 0)) then 1 else 0)= 0 ↔ _
  cases ah:(Y++O).any (ms (view h k Y O)) with
  | true=>
    rw [if_pos rfl]
    refine ⟨fun e=>(by cases e),fun ⟨e,_⟩=>?_⟩
    obtain ⟨x,ad,al⟩:=List.any_eq_true.1 ah
    rw [e x ad] at al;cases al
  | false=>
    rw [if_neg (by decide)]
    rw [List.any_eq_false] at ah
    have fN:∀ a ∈ Y++O,ms (view h k Y O) a=false:=fun a aD=>by simpa using ah a aD
    cases ag:(free h).any (fun x=>!decide (x= 0)) with
    | true=>
      rw [if_pos rfl]
      refine ⟨fun e=>(by cases e),fun ⟨_,e⟩=>?_⟩
      obtain ⟨x,ad,al⟩:=List.any_eq_true.1 ag
      rw [e x ad] at al;cases al
    | false=>
      rw [if_neg (by decide)]
      rw [List.any_eq_false] at ag
      exact ⟨fun _=>⟨fN,fun x ad=>by simpa using ag x ad⟩,fun _=>rfl⟩
 have aT:wz (view h k Y O)= 0 ↔ (∀ i,i <h.aY.length->gV (view h k Y O) i=false)/\ ∀ a ∈ O,nN (view h k Y O) a=false:=by
  unfold wz
  show (if (List.range h.aY.length).any (gV (view h k Y O)) || O.any (nN (view h k Y O)) then (4 :Int) else 0)= 0 ↔ _
  cases ah:(List.range h.aY.length).any (gV (view h k Y O)) with
  | true=>
    rw [Bool.true_or,if_pos rfl]
    refine ⟨fun e=>(by cases e),fun ⟨e,_⟩=>?_⟩
    obtain ⟨x,ad,al⟩:=List.any_eq_true.1 ah
    rw [e x (by simpa using ad)] at al;cases al
  | false=>
    rw [Bool.false_or]
    rw [List.any_eq_false] at ah
    have fN:∀ i,i <h.aY.length->gV (view h k Y O) i=false:=fun i hi=>by simpa using ah i (by simpa using hi)
    cases ag:O.any (nN (view h k Y O)) with
    | true=>
      rw [if_pos rfl]
      refine ⟨fun e=>(by cases e),fun ⟨_,e⟩=>?_⟩
      obtain ⟨x,ad,al⟩:=List.any_eq_true.1 ag
      rw [e x ad] at al;cases al
    | false=>
      rw [if_neg (by decide)]
      rw [List.any_eq_false] at ag
      exact ⟨fun _=>⟨fN,fun x ad=>by simpa using ag x ad⟩,fun _=>rfl⟩
 have bU:mB (view h k Y O)= 0 ↔ a5 (view h k Y O)= 0 /\kO (view h k Y O)= 0 /\wz (view h k Y O)= 0 :=by
  unfold mB
  by_cases bp:a5 (view h k Y O)= 0
  · rw [if_pos bp]
    by_cases bI:kO (view h k Y O)= 0
    · rw [if_pos bI];exact ⟨fun e=>⟨bp,bI,e⟩,fun e=>e.2.2⟩
    · rw [if_neg bI];exact ⟨fun e=>absurd e bI,fun e=>absurd e.2.1 bI⟩
  · rw [if_neg bp];exact ⟨fun e=>absurd e bp,fun e=>absurd e.1 bp⟩
 rw [bU,ak,al,aT]
 have q3:∀ x,(pX (view h k Y O) x=false) ↔ x ∈ O/\refs k h.Words x.toNat≠ []:=fun x=>by
  unfold pX jo
  show ((!decide (x ∈ Y++O) || (decide (0 <x) && decide (x<=h.ar))) || (refs k h.Words x.toNat).isEmpty)=false ↔ _
  rw [Bool.or_eq_false_iff,Bool.or_eq_false_iff]
  constructor
  · rintro ⟨⟨I,aa⟩,au⟩
    have I:x ∈ Y++O:=by simp only [Bool.not_eq_false'] at I;exact of_decide_eq_true I
    refine ⟨?_,fun e=>by rw [e] at au;cases au⟩
    rcases List.mem_append.1 I with bb | bb
    · have:=hy x bb
      rw [decide_eq_true (by omega),decide_eq_true (by omega)] at aa
      cases aa
    · exact bb
  · rintro ⟨I,aa⟩
    have:=av x I
    refine ⟨⟨?_,?_⟩,?_⟩
    · rw [decide_eq_true (List.mem_append_right _ I)];rfl
    · rw [decide_eq_false (p:=x<=h.ar) (by omega),Bool.and_false]
    · cases e:refs k h.Words x.toNat with
      | nil=>exact absurd e aa
      | cons _ _=>rfl
 constructor
 · rintro ⟨⟨I,aa⟩,⟨au,bb⟩,c0,g8⟩
   refine ⟨fun a aD=>?_,aa,fun a aD w hw=>?_,fun i hi hc=>bb _ (YH ⟨by omega,by omega⟩ hi hc),TA fun i hi=>?_,fun x ad=>?_,fun a aD aF w hw=>?_⟩
   · have:=I a aD
     unfold ku at this
     rw [Bool.or_eq_false_iff,decide_eq_false_iff_not,decide_eq_false_iff_not] at this
     have t1: ¬ ao h.Words a < 1 :=this.1
     have t2: ¬ h.Next<=ao h.Words a:=this.2
     omega
   · have:=au a aD
     unfold ms at this
     rw [List.any_eq_false] at this
     have h0:=this w hw
     unfold rQ at h0
     by_cases e:wd h.Words w.toNat= 0
     · exact .inl e
     · refine .inr ?_
       by_cases al:wd h.Words w.toNat ∈ Y++O
       · exact al
       · refine absurd ?_ h0
         show (!decide (wd h.Words w.toNat= 0) && !decide (wd h.Words w.toNat ∈ Y++O))=true
         rw [decide_eq_false e,decide_eq_false al];rfl
   · have:=c0 (i+ 1) hi
     unfold gV at this
     simp only [Bool.or_eq_false_iff,Bool.and_eq_false_iff,decide_eq_false_iff_not,Nat.add_sub_cancel] at this
     rcases this.1 with z | z
     · omega
     · have z: ¬ wd h.aY (i+ 1)<=wd h.aY i:=z
       omega
   · obtain ⟨i,hi,e⟩:=QX ad
     have:=c0 i hi
     unfold gV at this
     rw [Bool.or_eq_false_iff] at this
     have h0:pX (view h k Y O) (wd h.aY i)=false:=this.2
     rw [e] at h0
     exact (q3 x).1 h0
   · rintro ⟨xE,Dd⟩
     have:=g8 a aD
     unfold nN at this
     have this:(!decide (a ∈ h.aY) && (refs k h.Words a.toNat).any fun w=>jo (view h k Y O) (wd h.Words w.toNat))=false:=this
     rw [decide_eq_false aF,Bool.not_false,Bool.true_and,List.any_eq_false] at this
     refine this w hw ?_
     show (decide (0 <wd h.Words w.toNat) && decide (wd h.Words w.toNat<=h.ar))=true
     rw [decide_eq_true xE,decide_eq_true Dd];rfl
 · intro g
   refine ⟨⟨fun a aD=>?_,g.nodup⟩,⟨fun a aD=>?_,fun x ad=>?_⟩,fun i hi=>?_,fun a aD=>?_⟩
   · have:=g.hash a aD
     show (decide (ao h.Words a < 1) || decide (h.Next<=ao h.Words a))=false
     rw [decide_eq_false (by omega),decide_eq_false (by omega)];rfl
   · show ((refs k h.Words a.toNat).any (rQ (view h k Y O)))=false
     rw [List.any_eq_false]
     intro w hw
     show ¬ (!decide (wd h.Words w.toNat= 0) && !decide (wd h.Words w.toNat ∈ Y++O))=true
     rcases g.ref a aD w hw with e | e
     · rw [decide_eq_true e];simp
     · rw [decide_eq_true e];simp
   · obtain ⟨i,hi,hc,e⟩:=aaU (by omega) ad
     rw [e];exact g.a_ i hi hc
   · show ((decide (0 <i) && decide (wd h.aY i<=wd h.aY (i - 1))) || pX (view h k Y O) (wd h.aY i))=false
     rw [(q3 _).2 (g.nt _ (TU hi)),Bool.or_false]
     by_cases aP:0 <i
     · have:=g.Tz (i - 1) i (by omega) hi
       rw [decide_eq_false (p:=wd h.aY i<=wd h.aY (i - 1)) (by omega),Bool.and_false]
     · rw [decide_eq_false aP];rfl
   · show (!decide (a ∈ h.aY) && (refs k h.Words a.toNat).any fun w=>jo (view h k Y O) (wd h.Words w.toNat))=false
     by_cases aF:a ∈ h.aY
     · rw [decide_eq_true aF];rfl
     · rw [decide_eq_false aF,Bool.not_false,Bool.true_and,List.any_eq_false]
       intro w hw e
       have e:(decide (0 <wd h.Words w.toNat) && decide (wd h.Words w.toNat<=h.ar))=true:=e
       simp only [Bool.and_eq_true,decide_eq_true_eq] at e
       exact g.must a aD aF w hw e
theorem eQ.apart {W:List Int} {to q:Nat} {L:List Int} (h:eQ k W to q L):∀ a ∈ L,∀ b ∈ L,a≠b->a.toNat+ 3 +(wd W (a.toNat+ 1)).toNat<=b.toNat\/b.toNat+ 3 +(wd W (b.toNat+ 1)).toNat<=a.toNat:=by
 induction h with
 | nil=>intro a aD;cases aD
 | cons I aa au hw bi=>
   intro a aD b ah b5
   rcases List.mem_cons.1 aD with rfl | aD
   · rcases List.mem_cons.1 ah with rfl | ah
     · exact absurd rfl b5
     · obtain ⟨n,rfl,bb,_⟩:=hw.mem b ah
       left;simp only [Int.toNat_natCast];exact bb
   · rcases List.mem_cons.1 ah with rfl | ah
     · obtain ⟨n,rfl,bb,_⟩:=hw.mem a aD
       right;simp only [Int.toNat_natCast];exact bb
     · exact bi a aD b ah b5
theorem hr.apart (ao:h2 h) (ap:hr h k Y O):∀ a ∈ Y++O,∀ b ∈ Y++O,a≠b->a.toNat+ 3 +(wd h.Words (a.toNat+ 1)).toNat<=b.toNat\/b.toNat+ 3 +(wd h.Words (b.toNat+ 1)).toNat<=a.toNat:=by
 intro a aD b ah b5
 have hc:=ao.C.1.2
 rcases List.mem_append.1 aD with aD | aD <;> rcases List.mem_append.1 ah with ah | ah
 · exact ap.y.apart a aD b ah b5
 · have:=ap.Dc ao a aD;have:=ap.js ao b ah;left;omega
 · have:=ap.js ao a aD;have:=ap.Dc ao b ah;right;omega
 · exact ap.o.apart a aD b ah b5
theorem eQ.congr {W ck:List Int} {to q:Nat} {L:List Int} (h:eQ k W to q L) (he:∀ a ∈ L,wd ck a.toNat=wd W a.toNat/\wd ck (a.toNat+ 1)=wd W (a.toNat+ 1)):eQ k ck to q L:=by
 induction h with
 | nil=>exact .nil
 | @cons q r I aa au hw bi=>
   obtain ⟨ak,al⟩:=he _ List.mem_cons_self
   simp only [Int.toNat_natCast] at ak al
   have:=bi (fun a aD=>he a (List.mem_cons_of_mem _ aD))
   rw [<-al] at this au aa
   rw [<-ak] at I aa
   exact .cons I aa au this
theorem ax7 {W ck:List Int} {q:Nat} (I:wd ck q=wd W q) (aa:wd ck (q+ 1)=wd W (q+ 1)):refs k ck q=refs k W q:=by unfold refs;rw [I,aa]
end
end J
namespace J
section
variable {F:Nat} {k:aQ}
theorem axs (h:fV k) (t:Int):AU k t=some (gR k t):=by
 have hc:=h.fJ
 unfold AU gR
 rw [da (by omega) (by omega),Option.some.injEq,Bool.eq_iff_iff]
 simp;omega
theorem axp (h:fV k) {t:Int} (aM:gR k t=true) (n:Int):AR k t n=some (isLen k t n):=by
 unfold AR fy isLen
 simp only [Option.bind_some]
 cases ah:(decide (0 <=n) && decide (n<= 500)) with
 | false=>simp
 | true=>
   by_cases au:t < 3
   · simp [au]
   · rw [KQ h aM au];simp [au]
theorem acv (h:fV k) {t:Int} (aM:gR k t=true) {n:Int} (aF:isLen k t n=true) {j:Nat} (az:(j:Int) <n):qC k t (j:Int)=some (eK k t j):=by
 unfold qC eK
 obtain ⟨_,ap⟩:=oi.1 aF
 by_cases aa:t= 2
 · simp [aa]
 by_cases au:t < 3
 · have: ¬ 3 <=t:=by omega
   simp [aa,this]
 · have ap:=ap.resolve_left au
   have O2:3 <=t:=by omega
   have l9:j <(kM k t).length:=by omega
   rw [KQ h aM au,Option.bind_some,bt (List.getElem?_eq_getElem l9),List.getElem?_eq_getElem l9]
   simp [aa,O2]
theorem eQ.le {W:List Int} {to q:Nat} {L:List Int} (h:eQ k W to q L):q<=to:=by
 cases h with
 | nil=>exact Nat.le_refl _
 | cons I aa au bb=>omega
theorem ao1 (h:aW) (ao:fV k) {to:Nat} (gw:to<=h.Words.length) (g9:h.Words.length<= 5000):∀ (f q:Nat) (acc:List Int),to - q <f->q<= 6000 ->acc.length+(to - q)<= 6000 ->
 (∃ L,eQ k h.Words to q L/\uZ h k (to:Int) f acc (q:Int)=some (.go (acc++L,(to:Int)))) \/
 ((∀ L,¬ eQ k h.Words to q L)/\(uZ h k (to:Int) f acc (q:Int)=some (.out ([],false))\/ ∃ x,uZ h k (to:Int) f acc (q:Int)=some (.go x)/\x.2 ≠(to:Int))):=by
 intro f
 induction f with
 | zero=>intro q acc h;omega
 | succ f bi=>
   intro q acc ag aS sD
   rw [uZ]
   by_cases bx:q <to
   case neg=>
    by_cases e:q=to
    · subst e
      refine .inl ⟨[],.nil,?_⟩
      rw [bK];simp
    · rw [show decide ((q:Int) <(to:Int))=false from decide_eq_false (by omega)]
      exact .inr ⟨fun L dQ=>by have:=dQ.le;omega,.inr ⟨(acc,(q:Int)),rfl,by show (q:Int)≠(to:Int);omega⟩⟩
   rw [bL bx,cond_true,da (n:=(q:Int)+ 3) (by omega) (by omega)]
   by_cases au:(to:Int) <(q:Int)+ 3
   · rw [decide_eq_true au]
     refine .inr ⟨fun L dQ=>?_,.inl rfl⟩
     obtain ⟨_,_,_,_,h,_⟩:=dQ.inv bx
     omega
   rw [decide_eq_false au,cond_false,gb (by omega),Option.bind_some]
   have ak:AU (⟨k.bc,k.a8,k.Fields,k.Names,k.a9⟩:aQ) (wd h.Words q)=some (gR k (wd h.Words q)):=axs ao _
   rw [ak,Option.bind_some]
   cases aM:gR k (wd h.Words q) with
   | false=>
     refine .inr ⟨fun L dQ=>?_,.inl rfl⟩
     obtain ⟨_,_,h,_⟩:=dQ.inv bx
     rw [aM] at h;cases h
   | true=>
     have al:AR (⟨k.bc,k.a8,k.Fields,k.Names,k.a9⟩:aQ) (wd h.Words q) (wd h.Words (q+ 1))=some (isLen k (wd h.Words q) (wd h.Words (q+ 1))):=axp ao aM _
     rw [Bool.not_true,cond_false,Option.bind_some,da (n:=(q:Int)+ 1) (by omega) (by omega),pE (i:=q+ 1) (by omega) (by omega),Option.bind_some,al,Option.bind_some]
     cases ap:isLen k (wd h.Words q) (wd h.Words (q+ 1)) with
     | false=>
       refine .inr ⟨fun L dQ=>?_,.inl rfl⟩
       obtain ⟨_,_,_,h,_⟩:=dQ.inv bx
       rw [ap] at h;cases h
     | true=>
       obtain ⟨⟨q9,l1⟩,_⟩:=oi.1 ap
       rw [Bool.not_true,cond_false,hY (by simp;omega),Option.bind_some,Option.bind_some,da (n:=3 +wd h.Words (q+ 1)) (by omega) (by omega),da (n:=(q:Int)+(3 +wd h.Words (q+ 1))) (by omega) (by omega)]
       rw [show (q:Int)+(3 +wd h.Words (q+ 1))=((q+ 3 +(wd h.Words (q+ 1)).toNat:Nat):Int) by omega]
       rcases bi (q+ 3 +(wd h.Words (q+ 1)).toNat) (acc++[(q:Int)]) (by omega) (by omega) (by simp;omega) with ⟨L,dQ,e⟩ | ⟨aF,e⟩
       · refine .inl ⟨(q:Int)::L,.cons aM ap dQ.le dQ,?_⟩
         rw [e];simp
       · refine .inr ⟨fun L dQ=>?_,e⟩
         obtain ⟨r,_,_,_,_,h⟩:=dQ.inv bx
         exact aF r h
theorem acs (aI:6000 <F) (h:aW) (ao:fV k) {to q:Nat} (aS:q<= 5000) (gw:to<=h.Words.length) (g9:h.Words.length<= 5000) :
 (∃ L,eQ k h.Words to q L/\o7 F h k (q:Int) (to:Int)=some (L,true))\/((∀ L,¬ eQ k h.Words to q L)/\ ∃ l,o7 F h k (q:Int) (to:Int)=some (l,false)):=by
 unfold o7
 rcases ao1 h ao gw g9 F q [] (by omega) (by omega) (by simp;omega) with ⟨L,dQ,e⟩ | ⟨aF,e | ⟨x,e,ad⟩⟩
 · exact .inl ⟨L,dQ,by rw [e,oN];simp⟩
 · exact .inr ⟨aF,[],by rw [e,ac3]⟩
 · exact .inr ⟨aF,x.1,by rw [e,oN];show some (x.1,decide (x.2 =(to:Int)))=_;rw [decide_eq_false ad]⟩
theorem NS {α ρ:Type} {p:α->Bool} {e:ρ}:∀ l:List α,l.findSome? (fun x=>if p x then some e else none)=if l.any p then some e else none
 | []=>rfl
 | x::r=>by
   rw [List.findSome?_cons,List.any_cons]
   cases p x with
   | true=>rfl
   | false=>simp only [Bool.false_or];exact NS r
theorem FQ {l:List Int} (ap:Small F l.length) (n:Int):kX F l n=some (decide (n ∈ l)):=by
 unfold kX
 have l1:x7 l n F 0 =some (cv (l.findSome? fun x=>if decide (x=n) then some true else none)):=each _ ap.1 (fun f i x ad=>by
  rw [x7,bL (List.getElem?_eq_some_iff.1 ad).1,cond_true,bt ad,Option.bind_some]
  cases decide (x=n) <;> rfl) (fun f=>by rw [x7,bK];rfl) ap.2
 rw [l1,NS]
 by_cases e:n ∈ l
 · rw [show (l.any fun x=>decide (x=n))=true from List.any_eq_true.2 ⟨n,e,by simp⟩,decide_eq_true e];rfl
 · rw [show (l.any fun x=>decide (x=n))=false from List.any_eq_false.2 fun x ad=>by simp;rintro rfl;exact e ad,decide_eq_false e];rfl
theorem axr (aI:6000 <F) (h:aW) (ao:fV k) {q:Nat} (aS:q+ 3 +(wd h.Words (q+ 1)).toNat<=h.Words.length) (g9:h.Words.length<= 5000) (aM:gR k (wd h.Words q)=true) (ap:isLen k (wd h.Words q) (wd h.Words (q+ 1))=true) :
 nW F h k (q:Int)=some (refs k h.Words q):=by
 obtain ⟨⟨q9,l1⟩,_⟩:=oi.1 ap
 unfold nW
 generalize aF:(wd h.Words (q+ 1)).toNat=n at aS
 have DQ:wd h.Words (q+ 1)=(n:Int):=by omega
 have m5:=ap
 rw [DQ] at m5
 have l1:=sd (l:=List.range n) (fun f acc i=>r_ (q:Int) h k f acc (i:Int)) (fun j=>if eK k (wd h.Words q) j then [((q+ 3 +j:Nat):Int)] else []) 1 5000 (fun x _=>by split <;> simp) (fun f i x acc ad aD=>by
  have hi:i <n:=by have:=(List.getElem?_eq_some_iff.1 ad).1;simpa using this
  rw [List.getElem?_range hi] at ad
  simp only [Option.some.injEq] at ad
  subst ad
  rw [r_,da (n:=(q:Int)+ 1) (by omega) (by omega),pE (i:=q+ 1) (by omega) (by omega),Option.bind_some,DQ,bL hi,cond_true,gb (by omega),Option.bind_some]
  have ak:qC (⟨k.bc,k.a8,k.Fields,k.Names,k.a9⟩:aQ) (wd h.Words q) (i:Int)=some (eK k (wd h.Words q) i):=acv ao aM m5 (by omega)
  rw [ak,Option.bind_some]
  show _=r_ (q:Int) h k f _ _
  cases eK k (wd h.Words q) i with
  | true=>
    rw [cond_true,da (n:=(q:Int)+ 3) (by omega) (by omega),da (n:=(q:Int)+ 3 +i) (by omega) (by omega),hY (by simp;omega),Option.bind_some,Option.bind_some,fs hi (by omega),if_pos rfl]
    congr 2
  | false=>
    rw [cond_false,Option.bind_some,fs hi (by omega),if_neg (by decide),List.append_nil]) (fun f acc=>by
  rw [List.length_range,r_,da (n:=(q:Int)+ 1) (by omega) (by omega),pE (i:=q+ 1) (by omega) (by omega),Option.bind_some,DQ,bK];rfl) (F:=F) (by simp;omega) (acc:=[]) (by simp;omega)
 have l1:r_ (q:Int) h k F [] 0 =_:=l1
 rw [l1,Option.bind_some,List.nil_append,refs,aF]
theorem acu (aI:6000 <F) {h:aW} (ai:fV k) (ao:h2 h):(∃ Y O,hr h k Y O/\o8 F h k=some (Y,O,true))\/((∀ Y O,¬ hr h k Y O)/\ ∃ Y O,o8 F h k=some (Y,O,false)):=by
 have hw:=ao.h6
 obtain ⟨⟨⟨cO,dv⟩,er,e2⟩,b,⟨c1,c2⟩,⟨c3,c4⟩,c5⟩:=id ao
 unfold okB at b
 unfold o8
 have t1:=acs (F:=F) aI h ai (q:=1) (to:=h.a3.toNat) (by omega) (by omega) (by omega)
 have t2:=acs (F:=F) aI h ai (q:=(h.ar+ 1).toNat) (to:=h.a1.toNat) (by omega) (by omega) (by omega)
 rw [show ((h.a3.toNat:Nat):Int)=h.a3 by omega] at t1
 rw [show ((h.a1.toNat:Nat):Int)=h.a1 by omega,show (((h.ar+ 1).toNat:Nat):Int)=h.ar+ 1 by omega] at t2
 rw [da (n:=h.ar+ 1) (by omega) (by omega)]
 have j_:∀ r,o7 F h k 1 h.a3=some r->o7 F (⟨h.Words,h.ar,h.aV,h.a3,h.a1,h.aY,h.Next⟩:aW) (⟨k.bc,k.a8,k.Fields,k.Names,k.a9⟩:aQ) 1 h.a3=some r:=fun r e=>e
 have rP:∀ r,o7 F h k (h.ar+ 1) h.a1=some r->o7 F (⟨h.Words,h.ar,h.aV,h.a3,h.a1,h.aY,h.Next⟩:aW) (⟨k.bc,k.a8,k.Fields,k.Names,k.a9⟩:aQ) (h.ar+ 1) h.a1=some r:=fun r e=>e
 rcases t1 with ⟨Y,qS,ak⟩ | ⟨tB,Y,ak⟩ <;> rcases t2 with ⟨O,hz,al⟩ | ⟨rm,O,al⟩ <;> rw [j_ _ ak,Option.bind_some,rP _ al,Option.bind_some]
 · exact .inl ⟨Y,O,⟨qS,hz⟩,rfl⟩
 · exact .inr ⟨fun Y O h=>rm _ h.o,Y,O,rfl⟩
 · exact .inr ⟨fun Y O h=>tB _ h.y,Y,O,rfl⟩
 · exact .inr ⟨fun Y O h=>tB _ h.y,Y,O,rfl⟩
end
end J
namespace J
section
variable {F:Nat} {k:aQ} {h:aW} {Y O:List Int}
theorem Qn {b:Bool} {e:Int} {K:Option (Way Int Unit)}:gB (if b=true then some e else none) K=cond b (some (.out e)) K:=by cases b <;> rfl
theorem axw (aI:10000 <F) (I:1 <=h.Next) (aF:h.Next<= 9223372036854775807) (af:mP (view h k Y O)):xP h (Y++O) F 0 =some (cv (if (Y++O).any (ku (view h k Y O)) then some 3 else none)):=by
 have hc:Y.length+O.length<= 5000 :=af.n4
 have hw:h.Words.length<= 4900 :=af.h6
 rw [<-l3]
 exact each _ (by simp;omega) (fun f i a aD=>by
  have hm:=List.mem_of_getElem? aD
  have aM:o' (view h k Y O) a:=af.p' a hm
  have aP:0 <=a:=aM.pos
  have aa:a.toNat+ 3 +(wd h.Words (a.toNat+ 1)).toNat<=h.Words.length:=aM.fit
  rw [xP,bL (List.getElem?_eq_some_iff.1 aD).1,cond_true,bt aD,Option.bind_some,da (n:=a+ 2) (by omega) (by omega),pE (i:=a.toNat+ 2) (by omega) (by omega),Option.bind_some]
  unfold fy
  rw [Option.bind_some,da (n:=h.Next - 1) (by omega) (by omega),Qn]
  congr 1
  show _=(decide (wd h.Words (a.toNat+ 2) < 1) || decide (h.Next<=wd h.Words (a.toNat+ 2)))
  rw [Bool.eq_iff_iff];simp;omega) (fun f=>by rw [xP,bK];rfl) (by simp;omega)
theorem au7 {l:List Int}:(List.range l.length).any (fun i=>(List.range i).any fun j=>decide (wd l i=wd l j))= !decide l.Nodup:=by
 rw [Bool.eq_iff_iff,List.any_eq_true]
 simp only [List.mem_range,List.any_eq_true,decide_eq_true_eq,Bool.not_eq_true',decide_eq_false_iff_not]
 rw [List.Nodup,List.pairwise_iff_getElem]
 constructor
 · rintro ⟨i,hi,j,az,e⟩ aH
   have:=aH j i (by omega) hi az
   rw [nE (List.getElem?_eq_getElem hi),nE (List.getElem?_eq_getElem (by omega:j <l.length))] at e
   exact this e.symm
 · intro aH
   apply Classical.byContradiction
   intro b5
   refine aH fun j i az hi fc e=>b5 ⟨i,hi,j,fc,?_⟩
   rw [nE (List.getElem?_eq_getElem hi),nE (List.getElem?_eq_getElem az)];exact e.symm
theorem axx (aI:10000 <F) (af:mP (view h k Y O)):uQ F h (Y++O) F 0 =some (cv (if ((Y++O).map (ao h.Words)).Nodup then none else some 6)):=by
 have hc:Y.length+O.length<= 5000 :=af.n4
 have hw:h.Words.length<= 4900 :=af.h6
 have ap:(Y++O).length<= 5000 :=by simp;omega
 have at_:∀ i,i <(Y++O).length->idx (Y++O) (i:Int)=some (wd (Y++O) i)/\idx h.Words (aE (wd (Y++O) i+ 2))=some (wd ((Y++O).map (ao h.Words)) i):=fun i hi=>by
  have ak:wd (Y++O) i=(Y++O)[i]:=nE (List.getElem?_eq_getElem hi)
  have aM:o' (view h k Y O) (Y++O)[i]:=af.p' _ (List.getElem_mem hi)
  have aP:0 <=(Y++O)[i]:=aM.pos
  have aa:(Y++O)[i].toNat+ 3 +(wd h.Words ((Y++O)[i].toNat+ 1)).toNat<=h.Words.length:=aM.fit
  refine ⟨gb hi,?_⟩
  rw [ak,da (by omega) (by omega),pE (i:=(Y++O)[i].toNat+ 2) (by omega) (by omega)]
  refine congrArg some (nE ?_).symm
  rw [List.getElem?_map,List.getElem?_eq_getElem hi];rfl
 have l1:uQ F h (Y++O) F 0 =some (cv ((List.range (Y++O).length).findSome? fun i=>if (List.range i).any (fun j=>decide (wd ((Y++O).map (ao h.Words)) i=wd ((Y++O).map (ao h.Words)) j)) then some 6 else none)):=jC _ (by omega) (fun f i hi=>by
  rw [uQ,bL hi,cond_true]
  have cp:xQ h (Y++O) (i:Int) F 0 =some (cv ((List.range i).findSome? fun j=>if decide (wd ((Y++O).map (ao h.Words)) i=wd ((Y++O).map (ao h.Words)) j) then some 6 else none)):=jC _ (by omega) (fun b8 j az=>by
   rw [xQ,bL az,cond_true,(at_ i hi).1,Option.bind_some,(at_ i hi).2,Option.bind_some,(at_ j (by omega)).1,Option.bind_some,(at_ j (by omega)).2,Option.bind_some]
   cases decide (wd ((Y++O).map (ao h.Words)) i=wd ((Y++O).map (ao h.Words)) j) <;> rfl) (fun b8=>by rw [xQ,bK];rfl) (by omega)
  rw [cp,l3]
  cases (List.range i).any (fun j=>decide (wd ((Y++O).map (ao h.Words)) i=wd ((Y++O).map (ao h.Words)) j)) <;> rfl) (fun f=>by rw [uQ,bK];rfl) (by omega)
 rw [l1,l3]
 have e:=au7 (l:=(Y++O).map (ao h.Words))
 rw [List.length_map] at e
 rw [e]
 by_cases aN:((Y++O).map (ao h.Words)).Nodup
 · rw [if_pos aN,decide_eq_true aN];rfl
 · rw [if_neg aN,decide_eq_false aN];rfl
theorem TG (aI:10000 <F) (af:mP (view h k Y O)) {a:Int} (aD:a ∈ Y++O):nW F (⟨h.Words,h.ar,h.aV,h.a3,h.a1,h.aY,h.Next⟩:aW) (⟨k.bc,k.a8,k.Fields,k.Names,k.a9⟩:aQ) a=some (refs k h.Words a.toNat):=by
 have aM:o' (view h k Y O) a:=af.p' a aD
 have hw:h.Words.length<= 4900 :=af.h6
 have:=axr (F:=F) (by omega) h af.ja (q:=a.toNat) aM.fit (by omega) aM.tag aM.len
 rwa [show ((a.toNat:Nat):Int)=a by have:=aM.pos;omega] at this
theorem axy (aI:10000 <F) (af:mP (view h k Y O)):xR F h k (Y++O) F 0 =some (cv (if (Y++O).any (ms (view h k Y O)) then some 5 else none)):=by
 have hc:Y.length+O.length<= 5000 :=af.n4
 have hw:h.Words.length<= 4900 :=af.h6
 rw [<-l3]
 exact each _ (by simp;omega) (fun f i a aD=>by
  have hm:=List.mem_of_getElem? aD
  have aM:o' (view h k Y O) a:=af.p' a hm
  have PV:(refs k h.Words a.toNat).length<= 5000 :=Kr af aM
  rw [xR,bL (List.getElem?_eq_some_iff.1 aD).1,cond_true,bt aD,Option.bind_some,TG aI af hm,Option.bind_some]
  have cp:uR F h (Y++O) (refs k h.Words a.toNat) F 0 =some (cv ((refs k h.Words a.toNat).findSome? fun w=>if rQ (view h k Y O) w then some 5 else none)):=each _ (by omega) (fun b8 i' w ga=>by
   have ea:=List.mem_of_getElem? ga
   have ad:idx h.Words w=some (wd h.Words w.toNat):=aM.Kq ea
   rw [uR,bL (List.getElem?_eq_some_iff.1 ga).1,cond_true,bt ga,Option.bind_some,ad,Option.bind_some,Option.bind_some,ad,Option.bind_some,FQ ⟨by simp;omega,by simp;omega⟩,Option.bind_some]
   show _=gB (if (!decide (wd h.Words w.toNat= 0) && !decide (wd h.Words w.toNat ∈ Y++O))=true then some 5 else none) _
   cases decide (wd h.Words w.toNat= 0) <;> cases decide (wd h.Words w.toNat ∈ Y++O) <;> rfl) (fun b8=>by rw [uR,bK];rfl) (by omega)
  rw [cp,l3]
  show _=gB (if (refs k h.Words a.toNat).any (rQ (view h k Y O)) then some 5 else none) _
  cases (refs k h.Words a.toNat).any (rQ (view h k Y O)) <;> rfl) (fun f=>by rw [xR,bK];rfl) (by simp;omega)
theorem axz (aI:10000 <F) (cf:h2 h):r8 h F 0 =some (cv (if (free h).any (fun x=>!decide (x= 0)) then some 1 else none)):=by
 have hw:=cf.h6
 obtain ⟨⟨⟨cO,dv⟩,er,e2⟩,b,⟨c1,c2⟩,⟨c3,c4⟩,c5⟩:=id cf
 have l1:r8 h F 0 =some (cv ((List.range h.Words.length).findSome? fun i=>if (!decide (wd h.Words i= 0) && (decide ((i:Int)= 0) || ((decide (h.a3<=(i:Int)) && decide ((i:Int)<=h.ar)) || decide (h.a1<=(i:Int))))) then some 1 else none)):=jC _ (by omega) (fun f i hi=>by
  rw [r8,bL hi,cond_true,gb hi,Option.bind_some]
  unfold fy
  rw [Option.bind_some]
  cases decide (wd h.Words i= 0) <;> cases decide ((i:Int)= 0) <;> cases ((decide (h.a3<=(i:Int)) && decide ((i:Int)<=h.ar)) || decide (h.a1<=(i:Int))) <;> rfl) (fun f=>by rw [r8,bK];rfl) (by omega)
 rw [l1,l3]
 refine congrArg (fun b:Bool=>some (cv (if b=true then some 1 else none))) ?_
 rw [Bool.eq_iff_iff,List.any_eq_true,List.any_eq_true]
 constructor
 · rintro ⟨i,hi,e⟩
   simp only [Bool.and_eq_true,Bool.or_eq_true,Bool.not_eq_true',decide_eq_false_iff_not,decide_eq_true_eq] at e
   rw [List.mem_range] at hi
   exact ⟨wd h.Words i,YH ⟨by omega,by omega⟩ hi (by rcases e.2 with e | e | e;exact .inl (by omega);exact .inr (.inl e);exact .inr (.inr e)),by simpa using e.1⟩
 · rintro ⟨x,ad,e⟩
   obtain ⟨i,hi,hc,rfl⟩:=aaU (by omega) ad
   refine ⟨i,List.mem_range.2 hi,?_⟩
   simp only [Bool.and_eq_true,Bool.or_eq_true,Bool.not_eq_true',decide_eq_false_iff_not,decide_eq_true_eq] at e ⊢
   exact ⟨e,by rcases hc with e | e | e;exact .inl (by omega);exact .inr (.inl e);exact .inr (.inr e)⟩
theorem abv (cf:h2 h) (ap:hr h k Y O) {x:Int}:x ∈ O ↔ x ∈ Y++O/\jo (view h k Y O) x=false:=by
 obtain ⟨⟨⟨cO,dv⟩,er,e2⟩,b,⟨c1,c2⟩,⟨c3,c4⟩,c5⟩:=id cf
 have e:jo (view h k Y O) x=(decide (0 <x) && decide (x<=h.ar)):=rfl
 rw [e]
 constructor
 · intro ad
   have:=ap.js cf x ad
   exact ⟨List.mem_append.2 (.inr ad),by simp;omega⟩
 · rintro ⟨ad,e⟩
   rcases List.mem_append.1 ad with ad | ad
   · have:=ap.Dc cf x ad
     simp at e;omega
   · exact ad
theorem axD (aI:10000 <F) (cf:h2 h) (ap:hr h k Y O) (af:mP (view h k Y O)) (x:Int) (Z:Option Int) (apI:Z=some x) (K:Option (Way Int Unit)):((kX F O x).bind fun SW=>
 cond (!SW) (some (.out 4)) (Z.bind fun Ut=>
 (nW F (⟨h.Words,h.ar,h.aV,h.a3,h.a1,h.aY,h.Next⟩:aW) (⟨k.bc,k.a8,k.Fields,k.Names,k.a9⟩:aQ) Ut).bind fun SX=>
 cond (decide ((SX.length:Int)= 0)) (some (.out 4)) K))=gB (if pX (view h k Y O) x then some 4 else none) K:=by
 have hc:Y.length+O.length<= 5000 :=af.n4
 subst apI
 rw [FQ ⟨by omega,by omega⟩,Option.bind_some,Qn]
 have e:pX (view h k Y O) x=(!decide (x ∈ Y++O) || jo (view h k Y O) x || (refs k h.Words x.toNat).isEmpty):=rfl
 rw [e]
 by_cases ad:x ∈ O
 · obtain ⟨I,aa⟩:=(abv cf ap).1 ad
   rw [decide_eq_true ad,decide_eq_true I,aa,Bool.not_true,cond_false,Option.bind_some,TG aI af I,Option.bind_some]
   cases refs k h.Words x.toNat with
   | nil=>rfl
   | cons a r=>rw [decide_eq_false (by simp;omega)];rfl
 · rw [decide_eq_false ad]
   have:(!decide (x ∈ Y++O) || jo (view h k Y O) x)=true:=by
    cases aN:decide (x ∈ Y++O) with
    | false=>rfl
    | true=>
      cases hy:jo (view h k Y O) x with
      | true=>rfl
      | false=>exact absurd ((abv cf ap).2 ⟨of_decide_eq_true aN,hy⟩) ad
   rw [this];rfl
theorem axA (aI:10000 <F) (cf:h2 h) (ap:hr h k Y O) (af:mP (view h k Y O)) (aF:Small F h.aY.length):nU F h k (Y,O,true) F 0 =some (cv (if (List.range h.aY.length).any (gV (view h k Y O)) then some 4 else none)):=by
 rw [<-l3]
 exact jC _ aF.1 (fun f i hi=>by
  rw [nU,bL hi,cond_true]
  have e:gV (view h k Y O) i=((decide (0 <i) && decide (wd h.aY i<=wd h.aY (i - 1))) || pX (view h k Y O) (wd h.aY i)):=rfl
  have aB:=axD aI cf ap af (wd h.aY i) (idx h.aY (i:Int)) (gb hi) (nU F h k (Y,O,true) f (aE ((i:Int)+ 1)))
  rw [e]
  have IX:=aF.1
  by_cases aP:0 <i
  · rw [show decide ((0 :Int) <(i:Int))=true from decide_eq_true (by omega),cond_true]
    rw [show ∀ K:Int->Option (Way Int Unit),(idx h.aY (i:Int)).bind K=K (wd h.aY i) from fun K=>by rw [gb hi];rfl]
    rw [da (n:=(i:Int) - 1) (by omega) (by omega),pE (i:=i - 1) (by omega) (by omega),Option.bind_some,decide_eq_true aP,Bool.true_and]
    cases decide (wd h.aY i<=wd h.aY (i - 1)) with
    | true=>rfl
    | false=>
      rw [cond_false,Bool.false_or,<-aB]
      rw [gb hi];rfl
  · rw [show decide ((0 :Int) <(i:Int))=false from decide_eq_false (by omega),cond_false,decide_eq_false aP,Bool.false_and,Bool.false_or,<-aB]
    rw [gb hi];rfl) (fun f=>by rw [nU,bK];rfl) aF.2
theorem axB (aI:10000 <F) (af:mP (view h k Y O)) (aF:Small F h.aY.length):qx F h k (Y,O,true) F 0 =some (cv (if O.any (nN (view h k Y O)) then some 4 else none)):=by
 have hc:Y.length+O.length<= 5000 :=af.n4
 rw [<-l3]
 exact each _ (by omega) (fun f i a aD=>by
  have hm:=List.mem_append.2 (Or.inr (a:=a ∈ Y) (List.mem_of_getElem? aD))
  have aM:o' (view h k Y O) a:=af.p' a hm
  have PV:(refs k h.Words a.toNat).length<= 5000 :=Kr af aM
  rw [qx,bL (List.getElem?_eq_some_iff.1 aD).1,cond_true,bt aD,Option.bind_some,TG aI af hm,Option.bind_some]
  have cp:o4 F h (Y,O,true) (i:Int) (refs k h.Words a.toNat) F 0 =some (cv ((refs k h.Words a.toNat).findSome? fun w=>if (!decide (a ∈ h.aY) && jo (view h k Y O) (wd h.Words w.toNat)) then some 4 else none)):=each _ (by omega) (fun b8 i' w ga=>by
   have ea:=List.mem_of_getElem? ga
   have ad:idx h.Words w=some (wd h.Words w.toNat):=aM.Kq ea
   rw [o4,bL (List.getElem?_eq_some_iff.1 ga).1,cond_true,bt ga,Option.bind_some,ad,Option.bind_some]
   unfold fy
   rw [Option.bind_some,bt aD,Option.bind_some,FQ aF,Option.bind_some,Qn]
   have e:jo (view h k Y O) (wd h.Words w.toNat)=(decide (1 <=wd h.Words w.toNat) && decide (wd h.Words w.toNat<=h.ar)):=rfl
   rw [e]
   cases (decide (1 <=wd h.Words w.toNat) && decide (wd h.Words w.toNat<=h.ar)) <;> cases decide (a ∈ h.aY) <;> rfl) (fun b8=>by rw [o4,bK];rfl) (by omega)
  rw [cp,l3]
  have e:nN (view h k Y O) a=((refs k h.Words a.toNat).any fun w=>!decide (a ∈ h.aY) && jo (view h k Y O) (wd h.Words w.toNat)):=by
   show (!decide (a ∈ h.aY) && (refs k h.Words a.toNat).any fun w=>jo (view h k Y O) (wd h.Words w.toNat))=_
   cases decide (a ∈ h.aY) with
   | true=>simp
   | false=>simp
  rw [e]
  cases (refs k h.Words a.toNat).any (fun w=>!decide (a ∈ h.aY) && jo (view h k Y O) (wd h.Words w.toNat)) <;> rfl) (fun f=>by rw [qx,bK];rfl) (by omega)
theorem axC (aI:10000 <F) (ai:fV k) (aF:Small F h.aY.length) (hi:h.Next<= 9223372036854775807):∃ r,AQ F h k=some r.2 /\Spec h k r:=by
 unfold AQ
 by_cases dH:wD h
 case neg=>
  refine ⟨(none,lx h),?_,.size fun s=>dH s.A⟩
  show _=some (lx h)
  unfold lx fy
  rw [if_neg dH,Option.bind_some,Option.bind_some]
  cases ah:(decide (3 <=h.ar) && decide (h.ar<= 2000)) with
  | false=>rfl
  | true=>
    cases Bx:(decide (3 <=h.aV) && decide (h.aV<= 2000)) with
    | false=>rfl
    | true=>exact absurd ⟨by simpa using ah,by simpa using Bx⟩ dH
 obtain ⟨⟨cO,dv⟩,er,e2⟩:=id dH
 have bZ:fy h.ar 3 2000 =some true:=by unfold fy;rw [decide_eq_true cO,decide_eq_true dv];rfl
 have ed:fy h.aV 3 2000 =some true:=by unfold fy;rw [decide_eq_true er,decide_eq_true e2];rfl
 rw [bZ,ed,Option.bind_some,Option.bind_some,Bool.not_true,cond_false,cond_false,da (n:=1 +h.ar) (by omega) (by omega),da (n:=1 +h.ar+h.aV) (by omega) (by omega)]
 by_cases bS:okB h
 case neg=>
  refine ⟨(none,lx h),?_,.size fun s=>bS s.B⟩
  show _=some (lx h)
  unfold lx
  rw [if_pos dH,if_neg bS]
  unfold okB at bS
  rw [decide_eq_false bS];rfl
 have Y7:=bS
 unfold okB at Y7
 rw [decide_eq_true Y7,Bool.not_true,cond_false,da (n:=h.ar+ 1) (by omega) (by omega),da (n:=h.ar+h.aV) (by omega) (by omega),da (n:=h.ar+h.aV+ 1) (by omega) (by omega)]
 by_cases hx:Cb h
 case neg=>
  refine ⟨(none,lx h),?_,.size fun s=>hx s.C⟩
  show _=some (lx h)
  unfold lx fy
  rw [if_pos dH,if_pos bS,if_neg hx,Option.bind_some,Option.bind_some]
  cases ah:(decide (1 <=h.a3) && decide (h.a3<=h.ar+ 1)) with
  | false=>rfl
  | true=>
    cases Bx:(decide (h.ar+ 1 <=h.a1) && decide (h.a1<=h.ar+h.aV+ 1)) with
    | false=>rfl
    | true=>
      cases Zd:decide (h.Next < 1) with
      | true=>rfl
      | false=>exact absurd ⟨by simpa using ah,by simpa using Bx,by simp at Zd;omega⟩ hx
 have cf:h2 h:=⟨dH,bS,hx⟩
 obtain ⟨⟨c1,c2⟩,⟨c3,c4⟩,c5⟩:=id hx
 have fX:fy h.a3 1 (h.ar+ 1)=some true:=by unfold fy;rw [decide_eq_true c1,decide_eq_true c2];rfl
 have gr:fy h.a1 (h.ar+ 1) (h.ar+h.aV+ 1)=some true:=by unfold fy;rw [decide_eq_true c3,decide_eq_true c4];rfl
 rw [fX,gr,Option.bind_some,Option.bind_some,Bool.not_true,cond_false,decide_eq_false (show ¬ h.Next < 1 by omega),Bool.or_self,cond_false]
 have j_:∀ r,o8 F h k=some r->o8 F (⟨h.Words,h.ar,h.aV,h.a3,h.a1,h.aY,h.Next⟩:aW) (⟨k.bc,k.a8,k.Fields,k.Names,k.a9⟩:aQ)=some r:=fun r e=>e
 rcases acu (F:=F) (by omega) ai cf with ⟨Y,O,ap,e⟩ | ⟨iS,Y,O,e⟩
 case inr=>
  refine ⟨(none,1),?_,.form cf iS⟩
  rw [j_ _ e];rfl
 have af:=ap.qb ai cf
 have hc:Y.length+O.length<= 5000 :=af.n4
 refine ⟨_,?_,.rest cf ap⟩
 show _=some (mB (view h k Y O))
 have et:bO 8 ([]:List Int) Y=some Y:=by rw [hY (by simp;omega)];rfl
 have hN:bO 8 Y O=some (Y++O):=hY (by omega)
 have l1:=axw (k:=k) (Y:=Y) (O:=O) aI c5 hi af
 have cp:=axx (F:=F) aI af
 have zo:=axy (F:=F) aI af
 have E8:=axz (F:=F) aI cf
 have QE:=axA aI cf ap af aF
 have QF:=axB aI af aF
 rw [j_ _ e,Option.bind_some]
 show (bO 8 ([]:List Int) Y).bind _=_
 rw [et,Option.bind_some]
 show (bO 8 Y O).bind _=_
 rw [hN,Option.bind_some,l1,jb]
 unfold mB a5
 show nk (if (Y++O).any (ku (view h k Y O))=true then some 3 else none) _=some (if (if (Y++O).any (ku (view h k Y O))=true then (3 :Int) else if ((Y++O).map (ao h.Words)).Nodup then 0 else 6)= 0 then _ else (if (Y++O).any (ku (view h k Y O))=true then (3 :Int) else if ((Y++O).map (ao h.Words)).Nodup then 0 else 6))
 cases (Y++O).any (ku (view h k Y O)) with
 | true=>rfl
 | false=>
   rw [if_neg Bool.false_ne_true,if_neg Bool.false_ne_true]
   show cj _ _=_
   rw [cp,jb]
   by_cases aN:((Y++O).map (ao h.Words)).Nodup
   case neg=>rw [if_neg aN,if_neg aN];rfl
   rw [if_pos aN,if_pos aN,if_pos rfl]
   show cj _ _=_
   rw [zo,jb]
   unfold kO
   show nk (if (Y++O).any (ms (view h k Y O))=true then some 5 else none) _=some (if (if (Y++O).any (ms (view h k Y O))=true then (5 :Int) else if (free h).any (fun x=>!decide (x= 0))=true then 1 else 0)= 0 then _ else (if (Y++O).any (ms (view h k Y O))=true then (5 :Int) else if (free h).any (fun x=>!decide (x= 0))=true then 1 else 0))
   cases (Y++O).any (ms (view h k Y O)) with
   | true=>rfl
   | false=>
     rw [if_neg Bool.false_ne_true,if_neg Bool.false_ne_true]
     show cj _ _=_
     rw [E8,jb]
     cases (free h).any (fun x=>!decide (x= 0)) with
     | true=>rfl
     | false=>
       rw [if_neg Bool.false_ne_true,if_neg Bool.false_ne_true,if_pos rfl]
       show cj _ _=_
       rw [QE,jb]
       unfold wz
       show nk (if (List.range h.aY.length).any (gV (view h k Y O))=true then some 4 else none) _=some (if ((List.range h.aY.length).any (gV (view h k Y O)) || O.any (nN (view h k Y O)))=true then (4 :Int) else 0)
       cases (List.range h.aY.length).any (gV (view h k Y O)) with
       | true=>rfl
       | false=>
         rw [if_neg Bool.false_ne_true,Bool.false_or]
         show cj _ _=_
         rw [QF,jb]
         cases O.any (nN (view h k Y O)) <;> rfl
theorem Spec.w4 {r h4:Option bf × Int} (s:Spec h k r) (s':Spec h k h4):r=h4:=by
 cases s with
 | size aF=>cases s' with
   | size _=>rfl
   | form av _=>exact absurd av aF
   | rest av _=>exact absurd av aF
 | form av iS=>cases s' with
   | size aF=>exact absurd av aF
   | form _ _=>rfl
   | rest _ ap=>exact absurd ap (iS _ _)
 | rest av ap=>cases s' with
   | size aF=>exact absurd av aF
   | form _ iS=>exact absurd ap (iS _ _)
   | rest _ m5=>
     obtain rfl:=ap.y.w4 m5.y
     obtain rfl:=ap.o.w4 m5.o
     rfl
end
end J
namespace J
section
variable {k:aQ} {h:aW} {Y O:List Int}
theorem hr.fit (cf:h2 h) (ap:hr h k Y O):∀ a ∈ Y++O,1 <=a/\a.toNat+ 3 +(wd h.Words (a.toNat+ 1)).toNat<=h.Words.length/\(a.toNat+ 3 +(wd h.Words (a.toNat+ 1)).toNat<=h.a3.toNat\/(h.ar+ 1 <=a/\a.toNat+ 3 +(wd h.Words (a.toNat+ 1)).toNat<=h.a1.toNat)):=by
 intro a aD
 have bS:(h.Words.length:Int)= 1 +h.ar+h.aV:=cf.B
 obtain ⟨⟨c1,c2⟩,⟨c3,c4⟩,_⟩:=cf.C
 obtain ⟨⟨cO,_⟩,er,_⟩:=cf.A
 rcases List.mem_append.1 aD with aD | aD
 · obtain ⟨I,aa⟩:=ap.Dc cf a aD;exact ⟨I,by omega,.inl aa⟩
 · obtain ⟨I,aa⟩:=ap.js cf a aD;exact ⟨by omega,by omega,.inr ⟨I,aa⟩⟩
theorem hr.zU (ap:hr h k Y O):∀ a ∈ Y++O,gR k (wd h.Words a.toNat)=true/\isLen k (wd h.Words a.toNat) (wd h.Words (a.toNat+ 1))=true:=by
 intro a aD
 rcases List.mem_append.1 aD with aD | aD
 · obtain ⟨n,rfl,_,_,au⟩:=ap.y.mem a aD;exact au
 · obtain ⟨n,rfl,_,_,au⟩:=ap.o.mem a aD;exact au
theorem dr.set (cf:h2 h) (ap:hr h k Y O) (g:dr h k Y O) {a:Int} (aD:a ∈ Y++O) {n:Nat} (aF:n <(wd h.Words (a.toNat+ 1)).toNat) {value:Int}
 (af:eK k (wd h.Words a.toNat) n=true->value= 0 \/value ∈ Y++O) {nt:List Int} (I:u3 nt) (aa:∀ x ∈ nt,x ∈ h.aY\/(x=a/\a ∈ O/\eK k (wd h.Words a.toNat) n=true)) (au:∀ x ∈ h.aY,x ∈ nt)
 (bb:eK k (wd h.Words a.toNat) n=true->a ∈ O-> 0 <value->value<=h.ar->a ∈ nt) :
 h2 (⟨h.Words.set (a.toNat+ 3 +n) value,h.ar,h.aV,h.a3,h.a1,nt,h.Next⟩:aW)/\hr (⟨h.Words.set (a.toNat+ 3 +n) value,h.ar,h.aV,h.a3,h.a1,nt,h.Next⟩:aW) k Y O /\
 dr (⟨h.Words.set (a.toNat+ 3 +n) value,h.ar,h.aV,h.a3,h.a1,nt,h.Next⟩:aW) k Y O:=by
 obtain ⟨f1,f2,f3⟩:=ap.fit cf a aD
 have aH:a.toNat+ 3 +n <h.Words.length:=by omega
 have hw:∀ j,wd (h.Words.set (a.toNat+ 3 +n) value) j=if j=a.toNat+ 3 +n then value else wd h.Words j:=fun j=>ad9 aH
 have head:∀ b ∈ Y++O,wd (h.Words.set (a.toNat+ 3 +n) value) b.toNat=wd h.Words b.toNat/\wd (h.Words.set (a.toNat+ 3 +n) value) (b.toNat+ 1)=wd h.Words (b.toNat+ 1)/\wd (h.Words.set (a.toNat+ 3 +n) value) (b.toNat+ 2)=wd h.Words (b.toNat+ 2):=by
  intro b ah
  rw [hw,hw,hw]
  by_cases e:b=a
  · subst e
    rw [if_neg (by omega),if_neg (by omega),if_neg (by omega)];exact ⟨rfl,rfl,rfl⟩
  · have:=ap.apart cf b ah a aD e
    rw [if_neg (by omega),if_neg (by omega),if_neg (by omega)];exact ⟨rfl,rfl,rfl⟩
 have bS:(h.Words.length:Int)= 1 +h.ar+h.aV:=cf.B
 obtain ⟨⟨c1,c2⟩,⟨c3,c4⟩,c5⟩:=id cf.C
 have aB:∀ b ∈ Y++O,refs k (h.Words.set (a.toNat+ 3 +n) value) b.toNat=refs k h.Words b.toNat:=fun b ah=>ax7 (head b ah).1 (head b ah).2.1
 have yQ:∀ b ∈ Y++O,ao (h.Words.set (a.toNat+ 3 +n) value) b=ao h.Words b:=fun b ah=>(head b ah).2.2
 have IW:(Y++O).map (ao (h.Words.set (a.toNat+ 3 +n) value))=(Y++O).map (ao h.Words):=List.map_congr_left yQ
 have vx:∀ b ∈ Y++O,∀ w ∈ refs k h.Words b.toNat,w.toNat=a.toNat+ 3 +n->b=a/\eK k (wd h.Words a.toNat) n=true:=by
  intro b ah w ga e
  obtain ⟨j,az,sQ,rfl⟩:=v9.1 ga
  simp only [Int.toNat_natCast] at e
  have HX:b=a:=by
   by_cases HX:b=a
   · exact HX
   · have:=ap.apart cf b ah a aD HX;omega
  subst HX
  have:j=n:=by omega
  subst this
  exact ⟨rfl,sQ⟩
 refine ⟨⟨cf.A,?_,cf.C⟩,⟨ap.y.congr fun b ah=>?_,ap.o.congr fun b ah=>?_⟩,⟨fun b ah=>?_,?_,fun b ah w ga=>?_,fun i hi hc=>?_,I,fun x ad=>?_,fun b ah ZF w ga=>?_⟩⟩
 · show ((h.Words.set (a.toNat+ 3 +n) value).length:Int)=_;rw [List.length_set];exact bS
 · obtain ⟨ft,jL,_⟩:=head b (List.mem_append_left _ ah);exact ⟨ft,jL⟩
 · obtain ⟨ft,jL,_⟩:=head b (List.mem_append_right _ ah);exact ⟨ft,jL⟩
 · show 1 <=ao (h.Words.set (a.toNat+ 3 +n) value) b/\ao (h.Words.set (a.toNat+ 3 +n) value) b <h.Next
   rw [yQ b ah];exact g.hash b ah
 · show ((Y++O).map (ao (h.Words.set (a.toNat+ 3 +n) value))).Nodup
   rw [IW];exact g.nodup
 · have ga:w ∈ refs k (h.Words.set (a.toNat+ 3 +n) value) b.toNat:=ga
   rw [aB b ah] at ga
   show wd (h.Words.set (a.toNat+ 3 +n) value) w.toNat= 0 \/wd (h.Words.set (a.toNat+ 3 +n) value) w.toNat ∈ Y++O
   rw [hw]
   by_cases e:w.toNat=a.toNat+ 3 +n
   · rw [if_pos e];exact af (vx b ah w ga e).2
   · rw [if_neg e];exact g.ref b ah w ga
 · have hi:i <(h.Words.set (a.toNat+ 3 +n) value).length:=hi
   rw [List.length_set] at hi
   have hc:i= 0 \/(h.a3<=i/\(i:Int)<=h.ar)\/h.a1<=i:=hc
   show wd (h.Words.set (a.toNat+ 3 +n) value) i= 0
   rw [hw,if_neg (by omega)]
   exact g.a_ i hi hc
 · show x ∈ O/\refs k (h.Words.set (a.toNat+ 3 +n) value) x.toNat≠ []
   rcases aa x ad with ad | ⟨rfl,hz,az⟩
   · obtain ⟨ft,jL⟩:=g.nt x ad
     rw [aB x (List.mem_append_right _ ft)];exact ⟨ft,jL⟩
   · refine ⟨hz,?_⟩
     rw [aB x aD]
     intro e
     have:((x.toNat+ 3 +n:Nat):Int) ∈ refs k h.Words x.toNat:=v9.2 ⟨n,aF,az,rfl⟩
     rw [e] at this;cases this
 · have fN:b ∈ Y++O:=List.mem_append_right _ ah
   have ga:w ∈ refs k (h.Words.set (a.toNat+ 3 +n) value) b.toNat:=ga
   rw [aB b fN] at ga
   show ¬ (0 <wd (h.Words.set (a.toNat+ 3 +n) value) w.toNat/\wd (h.Words.set (a.toNat+ 3 +n) value) w.toNat<=h.ar)
   rw [hw]
   by_cases e:w.toNat=a.toNat+ 3 +n
   · rw [if_pos e]
     obtain ⟨rfl,az⟩:=vx b fN w ga e
     rintro ⟨xE,Dd⟩
     exact ZF (bb az ah xE Dd)
   · rw [if_neg e]
     exact g.must b ah (fun hm=>ZF (au b hm)) w ga
end
end J
namespace J
structure Good (F:Nat) (h:aW) (k:aQ) (Y O:List Int):Prop where
 pi:mi F k=some 0
 ja:fV k
 s:h2 h
 l:hr h k Y O
 ok:dr h k Y O
section
variable {F:Nat} {k:aQ} {h:aW} {Y O:List Int}
theorem Good.Rq (g:Good F h k Y O):h.aY.length<= 5000 :=by
 refine adm (N:=5000) g.ok.Tz (fun i hi=>?_)
 obtain ⟨I,_⟩:=g.ok.nt _ (TU hi)
 obtain ⟨f1,f2,_⟩:=g.l.fit g.s _ (List.mem_append_right Y I)
 have:=g.s.h6
 omega
theorem Good.open (aI:10000 <F) (g:Good F h k Y O):jE F h k=some (some (view h k Y O),0):=by
 unfold jE
 have ak:mi F (⟨k.bc,k.a8,k.Fields,k.Names,k.a9⟩:aQ)=some 0 :=g.pi
 have aF:=g.Rq
 obtain ⟨r,al,gZ⟩:=Rz aI g.ja (h:=h) ⟨by omega,by omega⟩
 have al:q1 F (⟨h.Words,h.ar,h.aV,h.a3,h.a1,h.aY,h.Next⟩:aW) (⟨k.bc,k.a8,k.Fields,k.Names,k.a9⟩:aQ)=some r:=al
 rw [ak,Option.bind_some,po,al,Option.bind_some]
 cases gZ with
 | size ao=>exact absurd g.s ao
 | form _ ag=>exact absurd g.l (ag Y O)
 | @rest Dz AM _ ap=>
   have Ic:=ap.y.w4 g.l.y
   have pn:=ap.o.w4 g.l.o
   subst Ic pn
   rw [(ad0 g.ja g.s g.l).2 g.ok];rfl
theorem avm (aI:10000 <F) (qW:∃ e,mi F k=some e/\(e≠ 0 \/(e= 0 /\fV k))) (aF:Small F h.aY.length) :
 ∃ r,jE F h k=some r/\((r.2 ≠ 0 /\r.1 =none)\/ ∃ Y O,Good F h k Y O/\r=(some (view h k Y O),0)):=by
 obtain ⟨e,ak,he⟩:=qW
 unfold jE
 have anb:mi F (⟨k.bc,k.a8,k.Fields,k.Names,k.a9⟩:aQ)=some e:=ak
 rw [anb,Option.bind_some]
 rcases he with he | ⟨rfl,ai⟩
 · rw [pY he];exact ⟨_,rfl,.inl ⟨he,rfl⟩⟩
 obtain ⟨r,al,gZ⟩:=Rz aI ai aF
 have al:q1 F (⟨h.Words,h.ar,h.aV,h.a3,h.a1,h.aY,h.Next⟩:aW) (⟨k.bc,k.a8,k.Fields,k.Names,k.a9⟩:aQ)=some r:=al
 rw [po,al,Option.bind_some]
 refine ⟨_,rfl,?_⟩
 cases gZ with
 | size ao=>exact .inl ⟨fun e=>ao (Tr.1 e),rfl⟩
 | form _ ag=>exact .inl ⟨by decide,rfl⟩
 | @rest Dz AM ao ap=>
   by_cases q:mB (view h k Dz AM)= 0
   · exact .inr ⟨Dz,AM,⟨ak,ai,ao,ap,(ad0 ai ao ap).1 q⟩,by rw [q];rfl⟩
   · exact .inl ⟨q,by rw [if_neg q]⟩
theorem Good.dS (_:Good F h k Y O) (a:Int):Bz (view h k Y O) a=some (decide (a ∈ Y++O)):=by
 unfold Bz
 show some ((dz ((Y++O).map fun a=>(a,true)) a).getD false)=_
 rw [QY]
end
end J
namespace J
theorem ayE {F:Nat} {l:List Int} (h:Small F l.length):mO F l l=some true:=by
 unfold mO
 have l1:=Jt (n:=l.length) (fun k i=>sa l l k (i:Int)) (.go ()) (fun k i hi=>by
  obtain ⟨x,ad⟩:∃ x,l[i]? =some x:=⟨l[i],List.getElem?_eq_getElem hi⟩
  rw [sa,bL hi,cond_true,bt ad,Option.bind_some,Option.bind_some,decide_eq_true rfl]
  show sa l l k _=_
  rw [fs hi h.1]) (fun k=>by rw [sa,bK];rfl) h.2
 have l1:sa l l F 0 =some (.go ()):=l1
 rw [l1,decide_eq_true rfl]
 rfl
end J
namespace J
open Go Go.Proofs.YteeliipnilghaaaGreat
theorem tV {n:Nat} (h:n<=reachBytes):Small 140737488356000 n:=by
 have:reachBytes= 140737488351232 :=rfl
 unfold Small
 omega
theorem ny {n:Nat} (k:Nat) (h:n*(k+ 1)<=reachBytes):Small 140737488356000 n:=
 tV (Nat.le_trans (Nat.le_mul_of_pos_right n (Nat.succ_pos k)) h)
theorem aoP {m:Method} (h:Hs reachBytes m):m.Fits 140737488356000 :=
 ⟨tV h.1,ny 23 h.2.2.1.1,fun k ai=>tV (h.2.2.1.2 k ai).2,tV h.2.2.2.1.2,ny 39 h.2.2.2.2.2.2.2.1,fun x ad=>tV (h.2.2.2.2.2.2.2.2 x ad).2.2.2⟩
theorem aoO {c:aq} (h:Dp reachBytes c):c.Fits 140737488356000 :=
 ⟨tV h.1,tV h.2.1,ny 39 h.2.2.1.1,fun f ag=>⟨tV (h.2.2.1.2 f ag).1,tV (h.2.2.1.2 f ag).2.2⟩,ny 127 h.2.2.2.1,fun m hm=>aoP (h.2.2.2.2 m hm)⟩
theorem aoQ {l:List aq} (h:l.length* 80 <=reachBytes/\ ∀ x ∈ l,Dp reachBytes x):Fits 140737488356000 l:=
 ⟨ny 79 h.1,fun c hc=>aoO (h.2 c hc)⟩
theorem atS {k:aQ} (h:Hr reachBytes k):Hp 140737488356000 k:=
 ⟨ny 7 h.2.1.1,ny 23 h.2.2.1.1,fun x ad=>ny 39 (h.2.2.1.2 x ad).1,ny 23 h.2.2.2.1.1,fun x ad=>ny 15 (h.2.2.2.1.2 x ad).1,ny 23 h.2.2.2.2.1,fun x ad=>ny 15 (h.2.2.2.2.2 x ad).1⟩
end J
namespace J
theorem ayV {k:aQ} (jV:hq k.bc) (e:k=linked k.bc):fV k:=by
 have:=jV.right.len
 exact ⟨by omega,by rw [e];exact ayg⟩
theorem amz {k:aQ} (I:Go.Proofs.YteeliipnilghaaaGreat.Hr Go.reachBytes k):∃ e,mi 140737488356000 k=some e/\qA 140737488356000 k=some e/\(e≠ 0 \/(e= 0 /\fV k)):=by
 obtain ⟨e,c1,c2,c3⟩:=amy (F:=140737488356000) (by omega) (aoQ I.1) (atS I)
 refine ⟨e,c1,c2,?_⟩
 rcases c3 with rfl | ⟨rfl,jV,ai⟩
 · exact .inl (by decide)
 · exact .inr ⟨rfl,ayV jV ai⟩
theorem abx {F:Nat} {h:aW} {k:aQ} (aI:10000 <F) (qW:∃ e,mi F k=some e/\qA F k=some e/\(e≠ 0 \/(e= 0 /\fV k))) (aF:Small F h.aY.length) (hi:h.Next<= 9223372036854775807) :
 ∃ r,jE F h k=some r/\uX F h k=some r.2 /\((r.2 ≠ 0 /\r.1 =none)\/ ∃ Y O,Good F h k Y O/\r=(some (view h k Y O),0)):=by
 obtain ⟨e,c1,c2,c3⟩:=qW
 obtain ⟨r,ak,aB⟩:=avm aI ⟨e,c1,c3⟩ aF
 refine ⟨r,ak,?_,aB⟩
 have amj:mi F (⟨k.bc,k.a8,k.Fields,k.Names,k.a9⟩:aQ)=some e:=c1
 have amk:qA F (⟨k.bc,k.a8,k.Fields,k.Names,k.a9⟩:aQ)=some e:=c2
 unfold uX
 unfold jE at ak
 rw [amj,Option.bind_some] at ak
 rw [amk,Option.bind_some]
 rcases c3 with c3 | ⟨rfl,ai⟩
 · rw [pY c3] at ak
   obtain rfl:=Option.some.inj ak
   rw [decide_eq_false c3];rfl
 · rw [po] at ak
   obtain ⟨cd,dF,s1⟩:=Rz aI ai aF
   obtain ⟨c7,dc,s2⟩:=axC aI ai aF hi
   have dF:q1 F (⟨h.Words,h.ar,h.aV,h.a3,h.a1,h.aY,h.Next⟩:aW) (⟨k.bc,k.a8,k.Fields,k.Names,k.a9⟩:aQ)=some cd:=dF
   have dc:AQ F (⟨h.Words,h.ar,h.aV,h.a3,h.a1,h.aY,h.Next⟩:aW) (⟨k.bc,k.a8,k.Fields,k.Names,k.a9⟩:aQ)=some c7.2 :=dc
   obtain rfl:=s1.w4 s2
   rw [dF,Option.bind_some] at ak
   obtain rfl:=Option.some.inj ak
   rw [show decide ((0 :Int)= 0)=true from rfl,cond_true,dc];rfl
end J
namespace Go.Proofs.YteeliipnilghaaaGreat
open J
def cK (y:Int) (o:List Int) (a:Int):List Int:=if (1 <=a/\a<=y)/\a ∉ o then o++[a] else o
structure Ord (Y o:List Int):Prop where
 oD:o.Nodup
 sub:∀ a ∈ o,a ∈ Y
theorem aa5:∀ {o Y:List Int},o.Nodup->(∀ a ∈ o,a ∈ Y)->o.length<=Y.length
 | [],Y,_,_=>Nat.zero_le _
 | a::r,Y,aF,ao=>by
   have aF:=List.nodup_cons.1 aF
   have aD:a ∈ Y:=ao a (by simp)
   have I:=aa5 (o:=r) (Y:=Y.erase a) aF.2 fun b ah=>(List.mem_erase_of_ne fun e=>by subst e;exact aF.1 ah).2 (ao b (by simp [ah]))
   rw [List.length_erase_of_mem aD] at I
   have:0 <Y.length:=List.length_pos_of_mem aD
   simp only [List.length_cons]
   omega
theorem Ord.len {Y o:List Int} (h:Ord Y o):o.length<=Y.length:=aa5 h.oD h.sub
theorem Ord.nil {Y:List Int}:Ord Y []:=⟨List.nodup_nil,fun _ h=>by simp at h⟩
theorem Ord.cK {Y o:List Int} {y a:Int} (h:Ord Y o) (aD:1 <=a->a<=y->a ∈ Y):Ord Y (cK y o a):=by
 unfold Go.Proofs.YteeliipnilghaaaGreat.cK
 split
 · rename_i I
   refine ⟨List.nodup_append.2 ⟨h.oD,by simp,fun b ah c hc e=>?_⟩,fun b ah=>?_⟩
   · cases List.mem_singleton.1 hc
     subst e
     exact I.2 ah
   · rcases List.mem_append.1 ah with ah | ah
     · exact h.sub b ah
     · cases List.mem_singleton.1 ah
       exact aD I.1.1 I.1.2
 · exact h
theorem Ord.fold {Y:List Int} {y:Int}:∀ {l o:List Int},Ord Y o->(∀ a ∈ l,1 <=a->a<=y->a ∈ Y)->Ord Y (l.foldl (Go.Proofs.YteeliipnilghaaaGreat.cK y) o)
 | [],o,h,_=>h
 | a::r,o,h,aD=>Ord.fold (l:=r) (o:=Go.Proofs.YteeliipnilghaaaGreat.cK y o a) (h.cK (aD a (by simp))) fun b ah=>aD b (by simp [ah])
theorem S2 {y a:Int} {o:List Int}:∃ t,cK y o a=o++t:=by
 unfold cK
 split
 · exact ⟨_,rfl⟩
 · exact ⟨[],by simp⟩
theorem yA {y:Int}:∀ {l o:List Int},∃ t,l.foldl (cK y) o=o++t
 | [],o=>⟨[],by simp⟩
 | a::r,o=>by
   obtain ⟨t,h⟩:=S2 (y:=y) (a:=a) (o:=o)
   obtain ⟨u,aa⟩:=yA (y:=y) (l:=r) (o:=cK y o a)
   exact ⟨t++u,by rw [List.foldl_cons,aa,h,List.append_assoc]⟩
end Go.Proofs.YteeliipnilghaaaGreat
namespace Go.Proofs.YteeliipnilghaaaGreat
open J
def fq (k:aQ) (W:List Int) (a:Int):List Int:=(refs k W a.toNat).map fun w=>wd W w.toNat
def scan (k:aQ) (W:List Int) (y:Int):Nat->Nat->List Int->List Int
 | 0,_,o=>o
 | d+ 1,i,o=>match o[i]? with
   | some a=>scan k W y d (i+ 1) ((fq k W a).foldl (cK y) o)
   | none=>o
section
variable {F:Nat} {h:aW} {k:aQ} {Y O:List Int} {ak gM:List Int} {al aT bU dn kp:Int}
theorem ux (g:J.Good F h k Y O) {v:Int} (af:v= 0 \/v ∈ Y++O) (I:1 <=v) (aa:v<=h.ar):v ∈ Y:=by
 rcases af with af | af
 · omega
 · rcases List.mem_append.1 af with af | af
   · exact af
   · have:=(g.l.js g.s v af).1;omega
theorem wO (g:J.Good F h k Y O) {a:Int} (aD:a ∈ Y++O):∀ v ∈ fq k h.Words a,v= 0 \/v ∈ Y++O:=fun v af=>by
 obtain ⟨w,hw,rfl⟩:=List.mem_map.1 af
 exact g.ok.ref a aD w hw
theorem WR (ai:fV k) (g:J.Good F h k Y O):Y.length<= 5000 :=by
 have:=(g.l.qb ai g.s).n4
 have:Y.length+O.length<= 5000 :=this
 omega
def order (k:aQ) (h:aW) (Y roots:List Int):List Int:=scan k h.Words h.ar (Y.length+ 1) 0 ((h.aY.flatMap (fq k h.Words)).foldl (cK h.ar) (roots.foldl (cK h.ar) []))
theorem acZ (g:J.Good F h k Y O):∀ {d i:Nat} {o:List Int},Ord Y o->Ord Y (scan k h.Words h.ar d i o)
 | 0,i,o,av=>av
 | d+ 1,i,o,av=>by
   unfold scan
   split
   · rename_i a aD
     exact acZ g (av.fold fun v af=>ux g (wO g (List.mem_append_left O (av.sub _ (List.mem_of_getElem? aD))) v af))
   · exact av
theorem abz (g:J.Good F h k Y O) {roots:List Int} (aB:∀ a ∈ roots,a= 0 \/a ∈ Y++O):Ord Y (roots.foldl (cK h.ar) []):=Ord.nil.fold fun v af=>ux g (aB v af)
theorem RC (g:J.Good F h k Y O) {roots:List Int} (aB:∀ a ∈ roots,a= 0 \/a ∈ Y++O):Ord Y ((h.aY.flatMap (fq k h.Words)).foldl (cK h.ar) (roots.foldl (cK h.ar) [])):=(abz g aB).fold fun v af=>by
 obtain ⟨a,aD,af⟩:=List.mem_flatMap.1 af
 exact ux g (wO g (List.mem_append_right Y (g.ok.nt a aD).1) v af)
theorem J2 (g:J.Good F h k Y O) {roots:List Int} (aB:∀ a ∈ roots,a= 0 \/a ∈ Y++O):Ord Y (order k h Y roots):=acZ g (RC g aB)
end
end Go.Proofs.YteeliipnilghaaaGreat
namespace Go.Proofs.YteeliipnilghaaaGreat
open J
def sz (W:List Int) (a:Int):Nat:=3 +(wd W (a.toNat+ 1)).toNat
def news (W:List Int):Nat->List Int->List Int
 | _,[]=>[]
 | t,a::r=>(t:Int)::news W (t+sz W a) r
def bH (W:List Int):Nat->List Int->Nat
 | t,[]=>t
 | t,a::r=>bH W (t+sz W a) r
theorem wA {W:List Int}:∀ {o:List Int} {t:Nat},(news W t o).length=o.length
 | [],_=>rfl
 | a::r,t=>by simp [news,wA (o:=r)]
theorem JS {W:List Int} {b:Int}:∀ {o:List Int} {t:Nat},news W t (o++[b])=news W t o++[(bH W t o:Int)]
 | [],t=>rfl
 | a::r,t=>by simp [news,bH,JS (o:=r)]
theorem CJ {W:List Int} {b:Int}:∀ {o:List Int} {t:Nat},bH W t (o++[b])=bH W t o+sz W b
 | [],t=>rfl
 | a::r,t=>by simp [bH,CJ (o:=r)]
theorem j9 {W:List Int}:∀ {o:List Int} {t:Nat},t<=bH W t o
 | [],t=>Nat.le_refl _
 | a::r,t=>Nat.le_trans (Nat.le_add_right _ _) (j9 (o:=r))
theorem CK {W:List Int} {p:List Int}:∀ {o:List Int} {t:Nat},bH W t (o++p)=bH W (bH W t o) p
 | [],t=>rfl
 | a::r,t=>by simp [bH,CK (o:=r)]
def pos:List Int->Int->Option Nat
 | [],_=>none
 | b::r,a=>if b=a then some 0 else (pos r a).map (· + 1)
theorem FG:∀ {o:List Int} {a:Int} {j:Nat},pos o a=some j->o[j]? =some a
 | [],a,j,h=>by simp [pos] at h
 | b::r,a,j,h=>by
   unfold pos at h
   split at h
   · rename_i e
     cases h
     simp [e]
   · obtain ⟨i,I,rfl⟩:=Option.map_eq_some_iff.1 h
     simpa using FG I
theorem tN:∀ {o:List Int} {a:Int},pos o a=none ↔ a ∉ o
 | [],a=>by simp [pos]
 | b::r,a=>by
   unfold pos
   split
   · rename_i e;simp [e]
   · rename_i e
     rw [Option.map_eq_none_iff,tN]
     simp only [List.mem_cons,not_or]
     exact ⟨fun h=>⟨fun e'=>e e'.symm,h⟩,fun h=>h.2⟩
def eb (o cq:List Int) (a:Int):Int:=if a= 0 then a else match pos o a with
 | some j=>(cq[j]?).getD 0
 | none=>a
section
variable {F:Nat}
theorem avw {o:List Int} {a:Int} (ap:o.length<= 140737488355328):∀ (d i f:Nat),i+d=o.length->d <f->x_ F f o a (i:Int)=some (match pos (o.drop i) a with
 | some j=>.inl ((((i+j:Nat):Int),()),())
 | none=>.inr ((),())):=by
 intro d
 induction d with
 | zero=>
   intro i f h ag
   obtain ⟨f,rfl⟩:∃ b8,f=b8+ 1 :=⟨f - 1,by omega⟩
   have:i=o.length:=by omega
   subst this
   rw [x_,bK,cond_false,List.drop_length]
   rfl
 | succ d bi=>
   intro i f h ag
   obtain ⟨f,rfl⟩:∃ b8,f=b8+ 1 :=⟨f - 1,by omega⟩
   have hi:i <o.length:=by omega
   have ad:o[i]? =some o[i]:=List.getElem?_eq_getElem hi
   rw [x_,bL hi,cond_true,bt ad,Option.bind_some,List.drop_eq_getElem_cons hi]
   by_cases e:o[i]=a
   · rw [decide_eq_true e,cond_true,pos,if_pos e]
     rfl
   · rw [decide_eq_false e,cond_false,fs hi ap,bi (i+ 1) f (by omega) (by omega),pos,if_neg e]
     cases pos (o.drop (i+ 1)) a with
     | none=>rfl
     | some j=>simp only [Option.map_some,Option.some.injEq,Sum.inl.injEq,Prod.mk.injEq,and_true];omega
theorem avx {o:List Int} {a:Int} (ap:o.length<= 5000) (aI:10000 <F):x9 F o a=some ((match pos o a with
 | some j=>(j:Int)
 | none=>-1,()),()):=by
 unfold x9
 have e:x_ F F o a 0 =_:=avw (o:=o) (a:=a) (by omega) o.length 0 F (by omega) (by omega)
 rw [e,List.drop_zero]
 cases pos o a with
 | none=>rfl
 | some j=>simp [dD]
end
end Go.Proofs.YteeliipnilghaaaGreat
namespace Go.Proofs.YteeliipnilghaaaGreat
open J
def val (k:aQ) (W o cq:List Int) (q i:Nat):Int:=if 3 <=i/\eK k (wd W q) (i - 3)=true then eb o cq (wd W (q+i)) else wd W (q+i)
theorem nD {a b:Nat} (h:a+b<= 100000):J.aE ((a:Int)+(b:Int))=((a+b:Nat):Int):=by rw [da (by omega) (by omega)];omega
theorem kN {a:Nat} (h:a<= 100000):J.aE ((a:Int)+ 1)=((a+ 1 :Nat):Int):=by rw [da (by omega) (by omega)];omega
theorem azx {x:Int} {n:Nat} (aP:0 <=x) (h:n= 3 +x.toNat) (aF:n<= 100000):J.aE (3 +x)=(n:Int):=by rw [da (by omega) (by omega)];omega
end Go.Proofs.YteeliipnilghaaaGreat
namespace Go.Proofs.YteeliipnilghaaaGreat
open J
def laid (k:aQ) (W o cq Z:List Int):Nat->List Int->Prop
 | _,[]=>True
 | t,a::r=>(∀ m,m <sz W a->wd Z (t+m)=val k W o cq a.toNat m)/\laid k W o cq Z (t+sz W a) r
end Go.Proofs.YteeliipnilghaaaGreat
namespace Go.Proofs.YteeliipnilghaaaGreat
open J
theorem ady {W:List Int}:∀ {o:List Int} {t:Nat},bH W t o=t+(o.map (sz W)).sum
 | [],t=>rfl
 | a::r,t=>by rw [bH,ady (o:=r),List.map_cons,List.sum_cons];omega
theorem XT {f:Int->Nat}:∀ {Y:List Int} {a:Int},a ∈ Y->(Y.map f).sum=f a+((Y.erase a).map f).sum
 | [],a,h=>by simp at h
 | b::r,a,h=>by
   by_cases e:b=a
   · subst e;simp
   · rw [List.erase_cons_tail (by simpa using e),List.map_cons,List.sum_cons,List.map_cons,List.sum_cons]
     have:a ∈ r:=by
      rcases List.mem_cons.1 h with h | h
      · exact absurd h.symm e
      · exact h
     have:=XT (f:=f) this
     omega
theorem adn {f:Int->Nat}:∀ {o Y:List Int},o.Nodup->(∀ a ∈ o,a ∈ Y)->(o.map f).sum<=(Y.map f).sum
 | [],Y,_,_=>Nat.zero_le _
 | a::r,Y,aF,ao=>by
   have aF:=List.nodup_cons.1 aF
   have aD:a ∈ Y:=ao a (by simp)
   have I:=adn (f:=f) (o:=r) (Y:=Y.erase a) aF.2 fun b ah=>(List.mem_erase_of_ne fun e=>by subst e;exact aF.1 ah).2 (ao b (by simp [ah]))
   rw [List.map_cons,List.sum_cons,XT aD]
   omega
theorem azA {k:aQ} {W:List Int} {to q:Nat} {L:List Int} (h:J.eQ k W to q L):q+(L.map (sz W)).sum=to:=by
 induction h with
 | nil=>simp
 | @cons q r I aa au bb bi=>
   rw [List.map_cons,List.sum_cons]
   have:sz W (q:Int)= 3 +(wd W (q+ 1)).toNat:=by unfold sz;rw [Int.toNat_natCast]
   omega
theorem ayc {F:Nat} {h:aW} {k:aQ} {Y O o:List Int} (g:J.Good F h k Y O) (av:Ord Y o) (ap:0 <=h.ar+h.aV+ 1 - h.a1 - (h.a3 - 1)):bH h.Words h.a1.toNat o<=h.Words.length:=by
 rw [ady]
 have I:=adn (f:=sz h.Words) av.oD av.sub
 have aa:=azA g.l.y
 obtain ⟨⟨⟨bZ,ed⟩,fX,gr⟩,jR,⟨sj,pc⟩,⟨kn,sk⟩,si⟩:=g.s
 unfold okB at jR
 omega
end Go.Proofs.YteeliipnilghaaaGreat
namespace Go.Proofs.YteeliipnilghaaaGreat
open J
theorem ad8 {l ds:List Int} {p j:Nat} (h:p+ds.length<=l.length):wd (fp l p ds) j=if p<=j/\j <p+ds.length then wd ds (j - p) else wd l j:=by
 unfold wd fp
 have aH:(l.take p).length=p:=by rw [List.length_take];omega
 by_cases I:j <p
 · rw [if_neg (by omega),List.append_assoc,List.getElem?_append_left (by omega),List.getElem?_take_of_lt I]
 · by_cases aa:j <p+ds.length
   · rw [if_pos (by omega),List.append_assoc,List.getElem?_append_right (by omega),aH,List.getElem?_append_left (by omega)]
   · rw [if_neg (by omega),List.getElem?_append_right (by rw [List.length_append];omega),List.length_append,aH,List.getElem?_drop]
     rw [show p+ds.length+(j - (p+ds.length))=j by omega]
section
variable {F:Nat} {c1:List aq} {c2:List Int} {c3:List (List J.Field)} {c4:List (List (List UInt8))} {c5:List (List J.Target)} {y ol yt nx:Int} {nt W:List Int} {m:List (Int × Int)}
theorem aul {a ot:Int} (h:a= 0 \/y <a):rZ F a c1 c2 c3 c4 c5 y ol yt ot nt nx W m=some ((a,()),((),c1,c2,c3,c4,c5,(),()),((),y,ol,yt,ot,nt,nx,()),W,m,()):=by
 unfold rZ
 have:(decide (a= 0) || decide (y <a))=true:=by
  rcases h with h | h
  · rw [decide_eq_true h,Bool.true_or]
  · rw [decide_eq_true h,Bool.or_true]
 rw [this,cond_true]
theorem auj {a ot to:Int} (aP:a≠ 0) (I:a<=y) (hm:dz m a=some to):rZ F a c1 c2 c3 c4 c5 y ol yt ot nt nx W m=some ((to,()),((),c1,c2,c3,c4,c5,(),()),((),y,ol,yt,ot,nt,nx,()),W,m,()):=by
 unfold rZ
 rw [decide_eq_false aP,decide_eq_false (by omega),Bool.false_or,cond_false,hm]
 rfl
theorem auk {q t n:Nat} (aP:1 <=q) (I:(q:Int)<=y) (hm:dz m (q:Int)=none) (ap:0 <=wd W (q+ 1)) (dI:n= 3 +(wd W (q+ 1)).toNat) (aS:q+n<=W.length) (aM:t+n<=W.length) (g9:W.length<= 5000) :
 ∃ ck,rZ F (q:Int) c1 c2 c3 c4 c5 y ol yt (t:Int) nt nx W m=some (((t:Int),()),((),c1,c2,c3,c4,c5,(),()),((),y,ol,yt,((t+n:Nat):Int),nt,nx,()),ck,hD m (q:Int) (t:Int),()) /\
   ck.length=W.length/\ ∀ p,wd ck p=if t<=p/\p <t+n then wd W (q+(p - t)) else wd W p:=by
 have aq6:q<= 100000 :=by omega
 have aqQ:n<= 100000 :=by omega
 have aq7:q+n<= 100000 :=by omega
 have BN:t+n<= 100000 :=by omega
 have m7:q+ 1 <W.length:=by omega
 refine ⟨fp W t ((W.take (q+n)).drop q),?_,?_,fun p=>?_⟩
 · unfold rZ
   rw [decide_eq_false (show ¬ (q:Int)= 0 by omega),decide_eq_false (show ¬ y <(q:Int) by omega),Bool.false_or,cond_false,hm]
   rw [Option.isSome_none,cond_false,kN aq6,gb m7,Option.bind_some,azx ap dI aqQ,nD aq7,nD BN]
   rw [if_pos (by omega),Option.bind_some,if_pos (by omega),Option.bind_some]
   unfold tL
   rw [if_pos (decide_eq_true (by omega)),Option.bind_some,Int.toNat_natCast,Int.toNat_natCast,Int.toNat_natCast]
   have e:((W.take (q+n)).drop q).take ((W.length:Int) - (t:Int)).toNat=(W.take (q+n)).drop q:=by
    apply List.take_of_length_le
    rw [List.length_drop,List.length_take]
    omega
   rw [e]
 · apply Cf
   rw [List.length_drop,List.length_take]
   omega
 · have hlen:((W.take (q+n)).drop q).length=n:=by rw [List.length_drop,List.length_take];omega
   rw [ad8 (by omega),hlen]
   by_cases aH:t<=p/\p <t+n
   · rw [if_pos aH,if_pos aH]
     unfold wd
     rw [List.getElem?_drop,List.getElem?_take_of_lt (by omega)]
   · rw [if_neg aH,if_neg aH]
end
end Go.Proofs.YteeliipnilghaaaGreat
namespace Go.Proofs.YteeliipnilghaaaGreat
open J
theorem QZ:∀ {o cq:List Int} {v:Int},cq.length=o.length->dz (o.zip cq) v=(match pos o v with | some j=>cq[j]? | none=>none)
 | [],cq,v,_=>rfl
 | b::r,[],v,h=>by simp at h
 | b::r,n::cq,v,h=>by
   rw [List.zip_cons_cons,dz,pos]
   by_cases e:b=v
   · rw [if_pos e,if_pos e]
     rfl
   · rw [if_neg e,if_neg e,QZ (by simpa using h)]
     cases pos r v <;> rfl
theorem aaY:∀ {o cq:List Int} {b x:Int},cq.length=o.length->b ∉ o->hD (o.zip cq) b x=(o++[b]).zip (cq++[x])
 | [],[],b,x,_,_=>rfl
 | [],n::cq,b,x,h,_=>by simp at h
 | c::r,[],b,x,h,_=>by simp at h
 | c::r,n::cq,b,x,h,ah=>by
   simp only [List.mem_cons,not_or] at ah
   rw [List.zip_cons_cons,hD,if_neg (fun e=>ah.1 e.symm),aaY (by simpa using h) ah.2]
   rfl
def base (W:List Int):Nat->List Int->Nat->Int
 | _,[],_=>0
 | t,a::r,p=>if t<=p/\p <t+sz W a then wd W (a.toNat+(p - t)) else base W (t+sz W a) r p
def e7 (W:List Int) (t0:Nat) (o:List Int) (p:Nat):Int:=if p <t0 then wd W p else base W t0 o p
theorem MC {W:List Int} {b:Int}:∀ {o:List Int} {t p:Nat},t<=p->base W t (o++[b]) p=if bH W t o<=p/\p <bH W t o+sz W b then wd W (b.toNat+(p - bH W t o)) else base W t o p
 | [],t,p,_=>rfl
 | a::r,t,p,h=>by
   have hle:=j9 (W:=W) (o:=r) (t:=t+sz W a)
   rw [List.cons_append,base,base,bH]
   by_cases I:t<=p/\p <t+sz W a
   · rw [if_pos I,if_pos I,if_neg (by omega)]
   · rw [if_neg I,if_neg I,MC (by omega)]
theorem Wl {W:List Int}:∀ {o:List Int} {t p:Nat},bH W t o<=p->base W t o p= 0
 | [],t,p,_=>rfl
 | a::r,t,p,h=>by
   have hle:=j9 (W:=W) (o:=r) (t:=t+sz W a)
   rw [bH] at h
   rw [base,if_neg (by omega),Wl h]
theorem avD {o:List Int} {b v:Int}:∀ {j:Nat},pos o v=some j->pos (o++[b]) v=some j:=by
 induction o with
 | nil=>intro j h;simp [pos] at h
 | cons c r bi=>
   intro j h
   rw [List.cons_append,pos]
   rw [pos] at h
   by_cases e:c=v
   · rw [if_pos e] at h ⊢;exact h
   · rw [if_neg e] at h ⊢
     obtain ⟨i,I,rfl⟩:=Option.map_eq_some_iff.1 h
     rw [bi I];rfl
theorem abS:∀ {o:List Int} {b:Int},b ∉ o->pos (o++[b]) b=some o.length
 | [],b,_=>by simp [pos]
 | c::r,b,h=>by
   simp only [List.mem_cons,not_or] at h
   rw [List.cons_append,pos,if_neg (fun e=>h.1 e.symm),abS h.2];rfl
theorem adA {o cq:List Int} {b x v:Int} (ap:cq.length=o.length) (af:v= 0 \/v ∈ o\/v≠b):eb (o++[b]) (cq++[x]) v=eb o cq v:=by
 unfold eb
 by_cases aP:v= 0
 · rw [if_pos aP,if_pos aP]
 · rw [if_neg aP,if_neg aP]
   cases aH:pos o v with
   | some j=>
     rw [avD aH]
     have:=(List.getElem?_eq_some_iff.1 (FG aH)).1
     dsimp only
     rw [List.getElem?_append_left (by omega)]
   | none=>
     have aF:=tN.1 aH
     have:pos (o++[b]) v=none:=tN.2 (by
      simp only [List.mem_append,List.mem_singleton,not_or]
      refine ⟨aF,?_⟩
      rcases af with af | af | af
      · exact absurd af aP
      · exact absurd af aF
      · exact af)
     rw [this]
theorem azj {o cq:List Int} {b x:Int} (ap:cq.length=o.length) (ah:b≠ 0) (aF:b ∉ o):eb (o++[b]) (cq++[x]) b=x:=by
 unfold eb
 rw [if_neg ah,abS aF]
 dsimp only
 rw [List.getElem?_append_right (by omega),ap,Nat.sub_self]
 rfl
theorem adB {o cq:List Int} {v:Int} (aF:v ∉ o):eb o cq v=v:=by
 unfold eb
 split
 · rfl
 · rw [tN.2 aF]
structure Inv (W:List Int) (y:Int) (t0:Nat) (o:List Int) (D:Nat->Bool) (ck:List Int):Prop where
 len:ck.length=W.length
 qc:∀ p,p <W.length->wd ck p=if D p=true then eb o (news W t0 o) (e7 W t0 o p) else e7 W t0 o p
 yx:∀ p,D p=true->y <(p:Int)/\p <bH W t0 o/\(e7 W t0 o p= 0 \/y <e7 W t0 o p\/e7 W t0 o p ∈ o)
end Go.Proofs.YteeliipnilghaaaGreat
