/- Part 6 of the proof that is ended in the last text: small logic, what the functions compute, walks, plain laws. -/
import Derived.Test.YteeliipnilghaaaGreatZc5
import Derived.KernelRfl
namespace J
def hH (f:Field):Option Int:=if gJ f.Name then (if kindOk f.Kind then none else some 7) else some 1
def gL (e:Int):Option Int:=if e= 0 then none else some e
def gV (m:Method):Option Int:=gL (za m)
def AA (c:al):Int:=
 if gJ c.Name && (decide (c.cO= []) || gJ c.cO) then
  if 6 <c.Fields.length\/ 8 <c.bb.length then 2
  else (c.Fields.findSome? hH).getD ((c.bb.findSome? gV).getD 0)
 else 1
def o' (c:al):Option Int:=gL (AA c)
def qu (l:List al):Int:=if 10 <l.length then 2 else (l.findSome? o').getD 0
def nf {ρ:Type} (o:Option ρ) (y:Option ρ):Option ρ:=match o with
 | some e=>some e
 | none=>y
theorem Q0 {e:Int} {Y:Option (Way Int Unit)}:cond (!decide (e= 0)) (some (.out e)) Y=gy (gL e) Y:=by
 unfold gL gy
 by_cases h:e= 0
 · rw [if_pos h,decide_eq_true h];rfl
 · rw [if_neg h,decide_eq_false h];rfl
theorem Wa {a b:Nat} (x y:Nat):((decide ((x:Int) <(a:Int))) || (decide ((y:Int) <(b:Int))))=decide (x <a\/y <b):=by
 rw [Bool.eq_iff_iff];simp
theorem mw {o:Option Int} {k:Unit->Option (Way Int Unit)}:cS (α:=Unit) (some (cn o)) k=gy o (k ()):=by cases o <;> rfl
theorem jc {ρ:Type} {o:Option ρ} {k:Unit->Option ρ}:cd (α:=Unit) (some (cn o)) k=nf o (k ()):=by cases o <;> rfl
theorem oJ {o:Option Int} {Y:Option (Way Int Unit)} {k:Unit->Option (Way Int Unit)}:cS (α:=Unit) (gy o Y) k=gy o (cS (α:=Unit) Y k):=by cases o <;> rfl
section
variable {F:Nat}
theorem aqT {c:al} (h:c.Fits F):Er F c=some (AA c):=by
 have af:∀ {x:Field} (_:x ∈ c.Fields) (Y:Option (Way Int Unit)),((mc F x.Name).bind fun E'=>
  cond (!E') (some (.out 1)) ((sK F (⟨x.Kind.Kind,x.Kind.al⟩:Kind)).bind fun E8=>
  cond (!E8) (some (.out 7)) Y))=gy (hH x) Y:=by
  intro x ad Y
  rw [Bj (h.field x ad).1,PO (k:=(⟨x.Kind.Kind,x.Kind.al⟩:Kind)) (h.field x ad).2]
  unfold hH
  simp only [Option.bind_some]
  show cond (!gJ x.Name) _ (cond (!kindOk x.Kind) _ _)=_
  cases gJ x.Name <;> cases kindOk x.Kind <;> rfl
 have hm:∀ {x:Method} (_:x ∈ c.bb) (Y:Option (Way Int Unit)),((yO F (⟨x.Name,x.Static,x.cr,(⟨x.Returns.Kind,x.Returns.al⟩:Kind),x.g4,x.g2,x.Code,x.cw⟩:Method)).bind fun oC=>
  cond (!decide (oC= 0)) (some (.out oC)) Y)=gy (gV x) Y:=by
  intro x ad Y
  have:=aqU (F:=F) (m:=(⟨x.Name,x.Static,x.cr,(⟨x.Returns.Kind,x.Returns.al⟩:Kind),x.g4,x.g2,x.Code,x.cw⟩:Method)) (h.method x ad)
  rw [this,Option.bind_some]
  exact Q0
 have l1:yM F c F 0 =some (cn (c.Fields.findSome? hH)):=each hH h.fields.1 (fun k i x ad=>by
  rw [yM,bF (List.getElem?_eq_some_iff.1 ad).1,cond_true,bm ad,Option.bind_some];exact af (List.mem_of_getElem? ad) _) (fun k=>by rw [yM,bE];rfl) h.fields.2
 have jp:sJ F c F 0 =some (cn (c.Fields.findSome? hH)):=each hH h.fields.1 (fun k i x ad=>by
  rw [sJ,bF (List.getElem?_eq_some_iff.1 ad).1,cond_true,bm ad,Option.bind_some];exact af (List.mem_of_getElem? ad) _) (fun k=>by rw [sJ,bE];rfl) h.fields.2
 have cj:yN F c F 0 =some (cn (c.bb.findSome? gV)):=each gV h.methods.1 (fun k i x ad=>by
  rw [yN,bF (List.getElem?_eq_some_iff.1 ad).1,cond_true,bm ad,Option.bind_some];exact hm (List.mem_of_getElem? ad) _) (fun k=>by rw [yN,bE];rfl) h.methods.2
 have y1:pz F c F 0 =some (cn (c.bb.findSome? gV)):=each gV h.methods.1 (fun k i x ad=>by
  rw [pz,bF (List.getElem?_eq_some_iff.1 ad).1,cond_true,bm ad,Option.bind_some];exact hm (List.mem_of_getElem? ad) _) (fun k=>by rw [pz,bE];rfl) h.methods.2
 unfold Er AA
 rw [Bj h.name,Bj h.super,l1,cj,jp,y1]
 simp only [Option.bind_some,jc,show (6 :Int)=((6 :Nat):Int) from rfl,show (8 :Int)=((8 :Nat):Int) from rfl,Wa]
 cases gJ c.Name with
 | false=>rfl
 | true=>
   simp only [Bool.not_true,cond_false,Bool.true_and]
   have Eb:∀ p:Bool,p=decide (6 <c.Fields.length\/ 8 <c.bb.length)->cond p (some (2 :Int)) (nf (c.Fields.findSome? hH) (nf (c.bb.findSome? gV) (some 0))) =
    some (if 6 <c.Fields.length\/ 8 <c.bb.length then 2 else (c.Fields.findSome? hH).getD ((c.bb.findSome? gV).getD 0)):=by
    intro p aD
    subst aD
    by_cases bu:6 <c.Fields.length\/ 8 <c.bb.length
    · rw [if_pos bu,decide_eq_true bu];rfl
    · rw [if_neg bu,decide_eq_false bu]
      cases c.Fields.findSome? hH with
      | some e=>rfl
      | none=>cases c.bb.findSome? gV <;> rfl
   by_cases ao:c.cO= []
   · rw [decide_eq_true ao]
     simp only [Bool.not_true,cond_false,Bool.true_or,if_true]
     exact Eb _ rfl
   · rw [decide_eq_false ao]
     simp only [Bool.not_false,cond_true,Bool.false_or]
     cases gJ c.cO with
     | false=>rfl
     | true=>
       simp only [Bool.not_true,cond_false,if_true]
       exact Eb _ rfl
theorem aqS {l:List al} (h:Fits F l):Ep F l=some (qu l):=by
 have l1:vi F l F 0 =some (cn (l.findSome? o')):=each o' h.1.1 (fun k i x ad=>by
  rw [vi,bF (List.getElem?_eq_some_iff.1 ad).1,cond_true,bm ad,Option.bind_some,aqT (c:=(⟨x.Name,x.cO,x.Fields,x.bb⟩:al)) (h.2 x (List.mem_of_getElem? ad)),Option.bind_some]
  exact Q0) (fun k=>by rw [vi,bE];rfl) h.1.2
 unfold Ep qu
 rw [l1,jc]
 by_cases ak:10 <l.length
 · rw [if_pos ak,decide_eq_true (show (10 :Int) <(l.length:Int) by omega)];rfl
 · rw [if_neg ak,decide_eq_false (show ¬ (10 :Int) <(l.length:Int) by omega)]
   cases l.findSome? o' <;> rfl
theorem akO {l:List al} (h:Fits F l):CR F l=some (qu l):=by
 have body:∀ {c:al} (_:c.Fits F),Ac F c F 0 =some (cn (c.Fields.findSome? hH))/\ua F c F 0 =some (cn (c.Fields.findSome? hH))/\Ad F c F 0 =some (cn (c.bb.findSome? gV))/\ub F c F 0 =some (cn (c.bb.findSome? gV)):=by
  intro c hc
  have af:∀ {x:Field} (_:x ∈ c.Fields) (i:Int) (_:idx c.Fields i=some x) (Y:Option (Way Int Unit)),((mJ F x.Name).bind fun E'=>
   cond (!E') (some (.out 1)) ((idx c.Fields i).bind fun x=>(rY F (⟨x.Kind.Kind,x.Kind.al⟩:Kind)).bind fun E8=>
   cond (!E8) (some (.out 7)) Y))=gy (hH x) Y:=by
   intro x ad i hi Y
   rw [xI (hc.field x ad).1,hi]
   unfold hH
   simp only [Option.bind_some]
   rw [L2 (k:=(⟨x.Kind.Kind,x.Kind.al⟩:Kind)) (hc.field x ad).2,Option.bind_some]
   show cond (!gJ x.Name) _ (cond (!kindOk x.Kind) _ _)=_
   cases gJ x.Name <;> cases kindOk x.Kind <;> rfl
  have hm:∀ {x:Method} (_:x ∈ c.bb) (Y:Option (Way Int Unit)),((xx F x).bind fun oC=>
   cond (!decide (oC= 0)) (some (.out oC)) Y)=gy (gV x) Y:=by
   intro x ad Y
   rw [akP (hc.method x ad),Option.bind_some]
   exact Q0
  refine ⟨each hH hc.fields.1 (fun k i x ad=>?_) (fun k=>by rw [Ac,bE];rfl) hc.fields.2,each hH hc.fields.1 (fun k i x ad=>?_) (fun k=>by rw [ua,bE];rfl) hc.fields.2,
   each gV hc.methods.1 (fun k i x ad=>?_) (fun k=>by rw [Ad,bE];rfl) hc.methods.2,each gV hc.methods.1 (fun k i x ad=>?_) (fun k=>by rw [ub,bE];rfl) hc.methods.2⟩
  · rw [Ac,bF (List.getElem?_eq_some_iff.1 ad).1,cond_true,bm ad,Option.bind_some];rw [<-bm ad];exact af (List.mem_of_getElem? ad) _ (bm ad) _
  · rw [ua,bF (List.getElem?_eq_some_iff.1 ad).1,cond_true,bm ad,Option.bind_some];rw [<-bm ad];exact af (List.mem_of_getElem? ad) _ (bm ad) _
  · rw [Ad,bF (List.getElem?_eq_some_iff.1 ad).1,cond_true,bm ad,Option.bind_some];exact hm (List.mem_of_getElem? ad) _
  · rw [ub,bF (List.getElem?_eq_some_iff.1 ad).1,cond_true,bm ad,Option.bind_some];exact hm (List.mem_of_getElem? ad) _
 have l1:xh F l F 0 =some (cn (l.findSome? o')):=each o' h.1.1 (fun k i c ad=>by
  have hc:=h.2 c (List.mem_of_getElem? ad)
  obtain ⟨eb,gE,gk,kj⟩:=body hc
  rw [xh,bF (List.getElem?_eq_some_iff.1 ad).1,cond_true,bm ad,Option.bind_some,xI hc.name,xI hc.super,eb,gk,gE,kj]
  simp only [Option.bind_some,mw,show (6 :Int)=((6 :Nat):Int) from rfl,show (8 :Int)=((8 :Nat):Int) from rfl,Wa]
  unfold o' AA
  cases gJ c.Name with
  | false=>rfl
  | true=>
    simp only [Bool.not_true,cond_false,Bool.true_and]
    have Eb:∀ (p:Bool) (Y:Option (Way Int Unit)),p=decide (6 <c.Fields.length\/ 8 <c.bb.length)->cS (α:=Unit) (cond p (some (.out (2 :Int))) (gy (c.Fields.findSome? hH) (gy (c.bb.findSome? gV) (some (.go ()))))) (fun _=>Y) =
     gy (gL (if 6 <c.Fields.length\/ 8 <c.bb.length then 2 else (c.Fields.findSome? hH).getD ((c.bb.findSome? gV).getD 0))) Y:=by
     intro p Y aD
     subst aD
     by_cases bu:6 <c.Fields.length\/ 8 <c.bb.length
     · rw [if_pos bu,decide_eq_true bu];rfl
     · rw [if_neg bu,decide_eq_false bu,cond_false]
       have apn:∀ e,c.Fields.findSome? hH=some e->gL e=some e:=by
        intro e he
        obtain ⟨x,_,ad⟩:=List.exists_of_findSome?_eq_some he
        unfold hH at ad
        split at ad
        · split at ad
          · cases ad
          · injection ad with ad;subst ad;rfl
        · injection ad with ad;subst ad;rfl
       have Ph:∀ e,c.bb.findSome? gV=some e->gL e=some e:=by
        intro e he
        obtain ⟨x,_,ad⟩:=List.exists_of_findSome?_eq_some he
        unfold gV at ad
        unfold gL at ad ⊢
        split at ad
        · cases ad
        · rename_i aA;injection ad with ad;subst ad;rw [if_neg aA]
       cases af:c.Fields.findSome? hH with
       | some e=>simp only [Option.getD_some,apn e af];rfl
       | none=>
         cases hm:c.bb.findSome? gV with
         | some e=>simp only [Option.getD_some,Option.getD_none,Ph e hm];rfl
         | none=>rfl
    by_cases ao:c.cO= []
    · rw [decide_eq_true ao]
      simp only [Bool.not_true,cond_false,Bool.true_or,if_true]
      exact Eb _ _ rfl
    · rw [decide_eq_false ao]
      simp only [Bool.not_false,cond_true,Bool.false_or]
      cases gJ c.cO with
      | false=>rfl
      | true=>
        simp only [Bool.not_true,cond_false,if_true]
        exact Eb _ _ rfl) (fun k=>by rw [xh,bE];rfl) h.1.2
 unfold CR qu
 rw [l1,jc]
 by_cases ak:10 <l.length
 · rw [if_pos ak,decide_eq_true (show (10 :Int) <(l.length:Int) by omega)];rfl
 · rw [if_neg ak,decide_eq_false (show ¬ (10 :Int) <(l.length:Int) by omega)]
   cases l.findSome? o' <;> rfl
end
structure Right (l:List al):Prop where
 len:l.length<= 10
 name:∀ c ∈ l,gJ c.Name=true
 fields:∀ c ∈ l,c.Fields.length<= 6
 methods:∀ c ∈ l,c.bb.length<= 8
 method:∀ c ∈ l,∀ m ∈ c.bb,m.cr.length<= 4 /\m.cw.length<= 4
theorem asQ {m:Method} (h:za m= 0):m.cr.length<= 4 /\m.cw.length<= 4 :=by
 unfold za at h
 split at h
 · split at h
   · exact absurd h (by decide)
   · rename_i I;exact ⟨by omega,by omega⟩
 · exact absurd h (by decide)
theorem atS {e:Int} (h:gL e=none):e= 0 :=by
 unfold gL at h
 split at h
 · assumption
 · cases h
theorem atT {e x:Int} (h:gL e=some x):x≠ 0 :=by
 unfold gL at h
 split at h
 · cases h
 · rename_i aj;injection h with h;subst h;exact aj
theorem aq4 {s:List UInt8} (h:gJ s=true):s≠ []:=by
 unfold gJ at h
 simp only [Bool.and_eq_true,decide_eq_true_eq] at h
 exact h.1.2
theorem alA {l:List al} (h:qu l= 0):Right l:=by
 unfold qu at h
 by_cases ak:10 <l.length
 · rw [if_pos ak] at h;exact absurd h (by decide)
 · rw [if_neg ak] at h
   have aA:∀ c ∈ l,AA c= 0 :=by
    intro c hc
    cases af:l.findSome? o' with
    | some e=>
      rw [af] at h
      simp only [Option.getD_some] at h
      subst h
      obtain ⟨x,_,ad⟩:=List.exists_of_findSome?_eq_some af
      unfold o' gL at ad
      split at ad
      · cases ad
      · rename_i aj;injection ad with ad;exact absurd ad aj
    | none=>
      have:=List.findSome?_eq_none_iff.1 af c hc
      unfold o' gL at this
      split at this
      · assumption
      · cases this
   have key:∀ c ∈ l,gJ c.Name=true/\c.Fields.length<= 6 /\c.bb.length<= 8 /\ ∀ m ∈ c.bb,m.cr.length<= 4 /\m.cw.length<= 4 :=by
    intro c hc
    have aN:=aA c hc
    unfold AA at aN
    split at aN
    · rename_i I
      simp only [Bool.and_eq_true] at I
      split at aN
      · exact absurd aN (by decide)
      · rename_i aa
        refine ⟨I.1,by omega,by omega,fun m hm=>?_⟩
        cases af:c.Fields.findSome? hH with
        | some e=>
          rw [af] at aN
          simp only [Option.getD_some] at aN
          subst aN
          obtain ⟨x,_,ad⟩:=List.exists_of_findSome?_eq_some af
          unfold hH at ad
          split at ad
          · split at ad
            · cases ad
            · injection ad with ad;exact absurd ad (by decide)
          · injection ad with ad;exact absurd ad (by decide)
        | none=>
          rw [af] at aN
          simp only [Option.getD_none] at aN
          cases dV:c.bb.findSome? gV with
          | some e=>
            rw [dV] at aN
            simp only [Option.getD_some] at aN
            subst aN
            obtain ⟨x,_,ad⟩:=List.exists_of_findSome?_eq_some dV
            exact absurd rfl (atT ad)
          | none=>exact asQ (atS (List.findSome?_eq_none_iff.1 dV m hm))
    · exact absurd aN (by decide)
   exact ⟨by omega,fun c hc=>(key c hc).1,fun c hc=>(key c hc).2.1,fun c hc=>(key c hc).2.2.1,fun c hc=>(key c hc).2.2.2⟩
end J
namespace J
def ei {α:Type} (p:α->Bool):List α->Option Nat
 | []=>none
 | x::r=>if p x then some 0 else (ei p r).map (· + 1)
theorem E4 {α:Type} {p:α->Bool}:∀ {l:List α} {i:Nat},ei p l=some i-> ∃ x,l[i]? =some x/\p x=true/\ ∀ j y,j <i->l[j]? =some y->p y=false
 | [],i,h=>by simp [ei] at h
 | x::r,i,h=>by
   simp only [ei] at h
   split at h
   · rename_i aD
     injection h with h
     subst h
     exact ⟨x,rfl,aD,fun j y aC=>absurd aC (by omega)⟩
   · rename_i aD
     cases ay:ei p r with
     | none=>rw [ay] at h;cases h
     | some k=>
       rw [ay] at h
       simp only [Option.map_some,Option.some.injEq] at h
       subst h
       obtain ⟨y,I,aa,aq⟩:=E4 ay
       refine ⟨y,by simpa using I,aa,fun j z aC aj=>?_⟩
       cases j with
       | zero=>
         simp only [List.getElem?_cons_zero,Option.some.injEq] at aj
         subst aj
         simpa using aD
       | succ j=>exact aq j z (by omega) (by simpa using aj)
theorem Ri {α:Type} {p:α->Bool}:∀ {l:List α},ei p l=none-> ∀ x ∈ l,p x=false
 | [],_,x,ad=>by cases ad
 | y::r,h,x,ad=>by
   simp only [ei] at h
   split at h
   · cases h
   · rename_i aD
     have ay:ei p r=none:=by simpa using h
     rcases List.mem_cons.1 ad with rfl | e
     · simpa using aD
     · exact Ri ay x e
theorem aum {α:Type} {p:α->Bool} {l:List α} {i:Nat} {x:α} (hi:l[i]? =some x) (aD:p x=true) (ah:∀ j y,j <i->l[j]? =some y->p y=false):ei p l=some i:=by
 cases h:ei p l with
 | none=>have:=Ri h x (List.mem_of_getElem? hi);rw [aD] at this;cases this
 | some j=>
   obtain ⟨y,I,aa,aq⟩:=E4 h
   rcases Nat.lt_trichotomy i j with e | e | e
   · have:=aq i x e hi;rw [aD] at this;cases this
   · rw [e]
   · have:=ah j y e I;rw [aa] at this;cases this
theorem Rh {α:Type} {p:α->Bool} {l:List α} {i:Nat} (h:ei p l=some i):i <l.length:=by
 obtain ⟨x,I,_⟩:=E4 h
 exact (List.getElem?_eq_some_iff.1 I).1
theorem Ni {α ρ:Type} {l:List α} {L:Nat->Int->Option (Way ρ Unit)} (p:α->Bool) (f:Nat->ρ) (ak:l.length<= 140737488355328)
 (ao:∀ k (i:Nat) x,l[i]? =some x->L (k+ 1) (i:Int)=cond (p x) (some (.out (f i))) (L k (aE ((i:Int)+ 1))))
 (he:∀ k,L (k+ 1) (l.length:Int)=some (.go ())) {F:Nat} (az:l.length <F):L F 0 =some (cn ((ei p l).map f)):=by
 have key:∀ (d i k:Nat),i+d=l.length->d <k->L k (i:Int)=some (cn ((ei p (l.drop i)).map fun j=>f (i+j))):=by
  intro d
  induction d with
  | zero=>
    intro i k h ai
    obtain ⟨k,rfl⟩:∃ k',k=k'+ 1 :=⟨k - 1,by omega⟩
    have hi:i=l.length:=by omega
    subst hi
    rw [he];simp [cn,ei]
  | succ d ba=>
    intro i k h ai
    obtain ⟨k,rfl⟩:∃ k',k=k'+ 1 :=⟨k - 1,by omega⟩
    have hi:i <l.length:=by omega
    rw [ao k i l[i] (List.getElem?_eq_getElem hi),List.drop_eq_getElem_cons hi,ei]
    cases aw:p l[i] with
    | true=>simp [cn]
    | false=>
      simp only [cond_false,Bool.false_eq_true,if_false]
      rw [eK hi ak,ba (i+ 1) k (by omega) (by omega)]
      congr 2
      rw [Option.map_map]
      congr 1
      funext j
      simp only [Function.comp]
      congr 1
      omega
 have:=key l.length 0 F (by omega) az
 simpa using this
def iY (nm:List UInt8) (c:al):Bool:=decide (c.Name=nm)
def cG (l:List al) (nm:List UInt8):Int:=((ei (iY nm) l).map fun n:Nat=>(n:Int)).getD (-1)
theorem ui {F:Nat} {l:List al} (h:Small F l.length) (nm:List UInt8):mI F l nm=some (cG l nm):=by
 unfold mI cG
 have l1:xA l nm F 0 =some (cn ((ei (iY nm) l).map fun n:Nat=>(n:Int))):=Ni (iY nm) _ h.1 (fun k i x ad=>by
  rw [xA,bF (List.getElem?_eq_some_iff.1 ad).1,cond_true,bm ad,Option.bind_some];rfl) (fun k=>by rw [xA,bE];rfl) h.2
 rw [l1,jc]
 cases ei (iY nm) l <;> rfl
theorem Mp {l:List al} {nm:List UInt8}:cG l nm <l.length:=by
 unfold cG
 cases h:ei (iY nm) l with
 | none=>simp only [Option.map_none,Option.getD_none];omega
 | some i=>have:=Rh h;simp only [Option.map_some,Option.getD_some];omega
theorem alB {l:List al} {nm:List UInt8}:cG l nm < 0 ↔ ei (iY nm) l=none:=by
 unfold cG
 cases h:ei (iY nm) l with
 | none=>simp
 | some i=>simp only [Option.map_some,Option.getD_some];constructor <;> intro h <;> first | omega | cases h
theorem B6 {α:Type} {l:List α} {i:Nat} {x:α} (h:l[i]? =some x):l.set i x=l:=by
 obtain ⟨ak,e⟩:=List.getElem?_eq_some_iff.1 h
 rw [<-e,List.set_getElem_self]
theorem Hf {α:Type} {b:Nat} {l:List α} (h:l.length*b<= 140737488355328):(bR b ([]:List α) l).bind (fun l=>some l)=some l:=by
 unfold bR
 rw [if_pos (by simpa using h)]
 simp
theorem aub {F:Nat} {l:List al} (az:100 <F) (h:Right l):EF F l=some l:=by
 have c2:∀ (eD:List Method),eD.length<= 8 ->(∀ m ∈ eD,m.cr.length<= 4 /\m.cw.length<= 4)->q3 F eD (eD.length:Int) 0 =some eD:=by
  intro eD aCP hm
  refine I3 (n:=eD.length) (fun k i=>q3 k eD (eD.length:Int) (i:Int)) eD (fun k i hi=>?_) (fun k=>?_) (F:=F) (by omega)
  · obtain ⟨x,ad⟩:∃ x,eD[i]? =some x:=⟨eD[i],List.getElem?_eq_getElem hi⟩
    have ah:=hm x (List.mem_of_getElem? ad)
    show q3 (k+ 1) eD (eD.length:Int) (i:Int)=_
    rw [q3,bF hi,cond_true,bm ad,Option.bind_some]
    unfold S3 S2
    rw [Hf (by omega),Option.bind_some,Hf (by omega),Option.bind_some,Option.bind_some,Option.bind_some]
    have e1:eD.set (i:Int).toNat (⟨x.Name,x.Static,x.cr,(⟨x.Returns.Kind,x.Returns.al⟩:Kind),x.g4,x.g2,x.Code,x.cw⟩:Method)=eD:=B6 (i:=i) ad
    simp only [e1,bm ad,Option.bind_some]
    rw [eK hi (by omega)]
  · show q3 (k+ 1) eD (eD.length:Int) (eD.length:Int)=_
    rw [q3,bE];rfl
 unfold EF
 have c1:pK F l F [] 0 =some l:=by
  refine I3 (n:=l.length) (fun k i=>pK F l k (l.take i) (i:Int)) l (fun k i hi=>?_) (fun k=>?_) (F:=F) (by have:=h.len;omega)
  · obtain ⟨x,ad⟩:∃ x,l[i]? =some x:=⟨l[i],List.getElem?_eq_getElem hi⟩
    have hZ:=List.mem_of_getElem? ad
    have af:=h.fields x hZ
    have hm:=h.methods x hZ
    have hlen:=h.len
    show pK F l (k+ 1) (l.take i) (i:Int)=_
    rw [pK,bF hi,cond_true,bm ad,Option.bind_some]
    unfold S1 S4
    rw [Hf (by omega),Option.bind_some,Hf (by omega),Option.bind_some,c2 x.bb hm (h.method x hZ),Option.bind_some]
    unfold bR
    rw [if_pos (by simp only [List.length_take,List.length_cons,List.length_nil];omega)]
    simp only [Option.bind_some]
    rw [eK hi (by omega)]
    have e:l.take i++[(⟨x.Name,x.cO,x.Fields,x.bb⟩:al)]=l.take (i+ 1):=by
     rw [List.take_add_one,ad];rfl
    rw [e]
  · show pK F l (k+ 1) (l.take l.length) (l.length:Int)=_
    rw [pK,bE,List.take_length];rfl
 rw [c1];rfl
def eF:Nat->List al->List (List UInt8 × Int)
 | _,[]=>[]
 | k,c::r=>(c.Name,(k:Int))::eF (k+ 1) r
theorem BC (nm:List UInt8):∀ (l:List al) (k:Nat),du (eF k l) nm=(ei (iY nm) l).map fun n:Nat=>((n+k:Nat):Int)
 | [],k=>rfl
 | c::r,k=>by
   simp only [eF,du,ei,iY]
   by_cases h:c.Name=nm
   · simp [h]
   · simp only [h,if_false,decide_false,Bool.false_eq_true]
     rw [BC nm r (k+ 1),Option.map_map]
     congr 1
     funext j
     simp only [Function.comp]
     congr 1
     omega
theorem aah (c:al):∀ (l:List al) (k:Nat),eF k (l++[c])=eF k l++[(c.Name,((k+l.length:Nat):Int))]
 | [],k=>by simp [eF]
 | d::r,k=>by
   simp only [List.cons_append,eF,List.length_cons]
   rw [aah c r (k+ 1)]
   congr 4
   omega
theorem Qz {cD β:Type} [DecidableEq cD] {k:cD} {v:β}:∀ {m:List (cD × β)},du m k=none->hA m k v=m++[(k,v)]
 | [],_=>rfl
 | p::r,h=>by
   simp only [du] at h
   split at h
   · cases h
   · rename_i b2
     simp only [hA,if_neg b2,List.cons_append]
     rw [Qz h]
def xf (l:List al):Prop:=∀ (i j:Nat) (x y:al),l[i]? =some x->l[j]? =some y->x.Name=y.Name->i=j
theorem at3 {l:List al} (h:xf l) {i:Nat} {x:al} (hi:l[i]? =some x):cG l x.Name=(i:Int):=by
 unfold cG
 rw [aum (i:=i) hi (by simp [iY]) (fun j y aC hy=>by
  simp only [iY,decide_eq_false_iff_not]
  intro e
  have:=h j i y x hy hi e
  omega)]
 rfl
theorem ath {F:Nat} {l:List al} (az:100 <F) (h:Right l) :
 (xf l/\na ⟨l,[],[]⟩ F [] 0 =some (.go (eF 0 l))/\rV F l F 0 =some (.go ())) \/
 (¬ xf l/\(∃ m,na ⟨l,[],[]⟩ F [] 0 =some (.out (6,m)))/\rV F l F 0 =some (.out 6)):=by
 have hlen:=h.len
 have fa:rV F l F 0 =some (cn ((List.range l.length).findSome? fun i:Nat=>(l[i]?).bind fun x:al=>if cG l x.Name=(i:Int) then none else some 6)):=jA _ (by omega) (fun k i hi=>by
  obtain ⟨x,ad⟩:∃ x,l[i]? =some x:=⟨l[i],List.getElem?_eq_getElem hi⟩
  rw [rV,bF hi,cond_true,bm ad,Option.bind_some,ui ⟨by omega,by omega⟩,Option.bind_some,ad,Option.bind_some]
  by_cases e:cG l x.Name=(i:Int)
  · rw [if_pos e,decide_eq_true e];rfl
  · rw [if_neg e,decide_eq_false e];rfl) (fun k=>by rw [rV,bE];rfl) (by omega)
 have key:∀ (d i k:Nat),i+d=l.length->d <k->xf (l.take i) ->
  (xf l/\na ⟨l,[],[]⟩ k (eF 0 (l.take i)) i=some (.go (eF 0 l)))\/(¬ xf l/\ ∃ m,na ⟨l,[],[]⟩ k (eF 0 (l.take i)) i=some (.out (6,m))):=by
  intro d
  induction d with
  | zero=>
    intro i k hi ai ap
    obtain ⟨k,rfl⟩:∃ k',k=k'+ 1 :=⟨k - 1,by omega⟩
    have e:i=l.length:=by omega
    subst e
    rw [List.take_length] at ap ⊢
    left
    refine ⟨ap,?_⟩
    rw [na,bE];rfl
  | succ d ba=>
    intro i k hi ai ap
    obtain ⟨k,rfl⟩:∃ k',k=k'+ 1 :=⟨k - 1,by omega⟩
    have cA:i <l.length:=by omega
    obtain ⟨x,ad⟩:∃ x,l[i]? =some x:=⟨l[i],List.getElem?_eq_getElem cA⟩
    rw [na,bF cA,cond_true,bm ad,Option.bind_some,BC]
    cases aD:ei (iY x.Name) (l.take i) with
    | some j=>
      right
      obtain ⟨y,I,aa,_⟩:=E4 aD
      refine ⟨fun hJ=>?_,_,rfl⟩
      have fb:j <i:=by have:=(List.getElem?_eq_some_iff.1 I).1;simp only [List.length_take] at this;omega
      have hy:l[j]? =some y:=by rw [List.getElem?_take] at I;rw [if_pos fb] at I;exact I
      have:=hJ j i y x hy ad (by simpa [iY] using aa)
      omega
    | none=>
      simp only [Option.map_none,Option.isSome_none,cond_false]
      have apX:du (eF 0 (l.take i)) x.Name=none:=by rw [BC,aD];rfl
      rw [Qz apX,eK cA (by omega)]
      have e1:l.take (i+ 1)=l.take i++[x]:=by rw [List.take_add_one,ad];rfl
      have e2:eF 0 (l.take i)++[(x.Name,(i:Int))]=eF 0 (l.take (i+ 1)):=by
       rw [e1,aah]
       congr 4
       simp only [List.length_take];omega
      rw [e2]
      refine ba (i+ 1) k (by omega) (by omega) ?_
      intro a b u v aK ah PD
      rw [List.getElem?_take] at aK ah
      split at aK
      · split at ah
        · rename_i aCI fK
          have ap5:=Ri aD
          have gm:∀ (q:Nat) (z:al),q <i->l[q]? =some z->z.Name≠x.Name:=fun q z aQ aj e=>by
           have:=ap5 z (List.mem_of_getElem? (i:=q) (by rw [List.getElem?_take,if_pos aQ];exact aj))
           simp [iY,e] at this
          by_cases aoN:a=i
          · by_cases yo:b=i
            · omega
            · subst aoN
              rw [ad] at aK;injection aK with aK;subst aK
              exact absurd PD.symm (gm b v (by omega) ah)
          · by_cases yo:b=i
            · subst yo
              rw [ad] at ah;injection ah with ah;subst ah
              exact absurd PD (gm a u (by omega) aK)
            · exact ap a b u v (by rw [List.getElem?_take,if_pos (by omega)];exact aK) (by rw [List.getElem?_take,if_pos (by omega)];exact ah) PD
        · cases ah
      · cases aK
 have aN:=key l.length 0 F (by omega) (by omega) (fun i j x y hi=>by simp at hi)
 have cW:eF 0 (l.take 0)= []:=by simp [eF]
 rw [cW] at aN
 rcases aN with ⟨hJ,I⟩ | ⟨hJ,I⟩
 · left
   refine ⟨hJ,I,?_⟩
   rw [fa]
   have:((List.range l.length).findSome? fun i:Nat=>(l[i]?).bind fun x:al=>if cG l x.Name=(i:Int) then none else some (6 :Int))=none:=by
    rw [List.findSome?_eq_none_iff]
    intro i hi
    obtain ⟨x,ad⟩:∃ x,l[i]? =some x:=⟨l[i]'(by simpa using hi),List.getElem?_eq_getElem _⟩
    rw [ad,Option.bind_some,if_pos (at3 hJ ad)]
   rw [this];rfl
 · right
   refine ⟨hJ,I,?_⟩
   rw [fa]
   cases af:((List.range l.length).findSome? fun i:Nat=>(l[i]?).bind fun x:al=>if cG l x.Name=(i:Int) then none else some (6 :Int)) with
   | some e=>
     obtain ⟨i,_,hi⟩:=List.exists_of_findSome?_eq_some af
     cases ad:l[i]? with
     | none=>rw [ad] at hi;cases hi
     | some x=>
       rw [ad,Option.bind_some] at hi
       split at hi
       · cases hi
       · injection hi with hi;subst hi;rfl
   | none=>
     exfalso
     apply hJ
     have iR:∀ (i:Nat) (x:al),l[i]? =some x->cG l x.Name=(i:Int):=by
      intro i x ad
      have:=List.findSome?_eq_none_iff.1 af i (by have:=(List.getElem?_eq_some_iff.1 ad).1;simpa using this)
      rw [ad,Option.bind_some] at this
      split at this
      · assumption
      · cases this
     intro i j x y ad hy e
     have I:=iR i x ad
     have aa:=iR j y hy
     rw [e] at I
     omega
end J
namespace J
def zG {ρ σ:Type} (o:Option ρ) (a:σ):Way ρ σ:=match o with
 | some r=>.out r
 | none=>.go a
def ac7 {ρ σ:Type} (o:Option ρ) (y:Option (Way ρ σ)):Option (Way ρ σ):=match o with
 | some r=>some (.out r)
 | none=>y
theorem L6 {ρ σ:Type} {n:Nat} (T:Nat->Nat->Option (Way ρ σ)) (g:Nat->Option ρ) (fin:σ) (ao:∀ k i,i <n->T (k+ 1) i=ac7 (g i) (T k (i+ 1))) (he:∀ k,T (k+ 1) n=some (.go fin)) {F:Nat} (az:n <F) :
 T F 0 =some (zG ((List.range n).findSome? g) fin):=by
 have key:∀ (d i k:Nat),i+d=n->d <k->T k i=some (zG (((List.range n).drop i).findSome? g) fin):=by
  intro d
  induction d with
  | zero=>
    intro i k h ai
    obtain ⟨k,rfl⟩:∃ k',k=k'+ 1 :=⟨k - 1,by omega⟩
    have hi:i=n:=by omega
    subst hi
    rw [he,List.drop_of_length_le (by simp)];rfl
  | succ d ba=>
    intro i k h ai
    obtain ⟨k,rfl⟩:∃ k',k=k'+ 1 :=⟨k - 1,by omega⟩
    have hi:i <n:=by omega
    rw [ao k i hi,List.drop_eq_getElem_cons (by simpa using hi),List.findSome?_cons]
    simp only [List.getElem_range]
    cases aw:g i with
    | some r=>rfl
    | none=>
      simp only [ac7]
      exact ba (i+ 1) k (by omega) (by omega)
 have:=key n 0 F (by omega) az
 simpa using this
theorem HQ {α β cp:Type} (g:α->Option β) (f:β->cp):∀ l:List α,l.findSome? (fun c=>(g c).map f)=(l.findSome? g).map f
 | []=>rfl
 | c::r=>by
   simp only [List.findSome?_cons]
   cases g c with
   | some e=>rfl
   | none=>simp only [Option.map_none];exact HQ g f r
def c' (l:List al):List Int:=l.map fun c=>cG l c.cO
theorem S8 {l:List al} {i:Nat} {x:al} (h:l[i]? =some x):(c' l)[i]? =some (cG l x.cO):=by simp [c',h]
def rA (c:al):Option Int:=if (decide (c.Name= [79,98,106,101,99,116])) == (decide (c.cO= [])) then none else some 4
def oo (l:List al) (c:al):Option Int:=if c.cO= []\/ 0 <=cG l c.cO then none else some 5
section
variable {F:Nat} {l:List al}
theorem axV (az:100 <F) (h:Right l):xq l F 0 =some (cn (l.findSome? rA)):=each rA (by have:=h.len;omega) (fun k i x ad=>by
 rw [xq,bF (List.getElem?_eq_some_iff.1 ad).1,cond_true,bm ad,Option.bind_some,Option.bind_some]
 unfold rA
 cases (decide (x.Name= [79,98,106,101,99,116])) == (decide (x.cO= [])) <;> rfl) (fun k=>by rw [xq,bE];rfl) (by have:=h.len;omega)
theorem axU (az:100 <F) (h:Right l) (m:List (List UInt8 × Int)) (s:List Int):s9 ⟨l,m,s⟩ F 0 =some (cn ((l.findSome? rA).map fun e=>(e,(⟨l,m,s⟩:bj)))):=by
 have:=each (l:=l) (L:=s9 ⟨l,m,s⟩) (fun c=>(rA c).map fun e=>(e,(⟨l,m,s⟩:bj))) (by have:=h.len;omega) (fun k i x ad=>by
  rw [s9]
  show cond (decide ((i:Int) <(l.length:Int))) ((idx l (i:Int)).bind _) _=_
  rw [bF (List.getElem?_eq_some_iff.1 ad).1,cond_true,bm ad,Option.bind_some]
  unfold rA
  cases (decide (x.Name= [79,98,106,101,99,116])) == (decide (x.cO= [])) <;> rfl) (fun k=>by
   rw [s9]
   show cond (decide ((l.length:Int) <(l.length:Int))) _ _=_
   rw [bE];rfl) (F:=F) (by have:=h.len;omega)
 rw [this,HQ]
theorem asW (az:100 <F) (h:Right l):ug F l F 0 =some (cn (l.findSome? (oo l))):=each (oo l) (by have:=h.len;omega) (fun k i x ad=>by
 have hlen:=h.len
 rw [ug,bF (List.getElem?_eq_some_iff.1 ad).1,cond_true,bm ad,Option.bind_some,Option.bind_some,ui ⟨by omega,by omega⟩,Option.bind_some]
 unfold oo
 by_cases ao:x.cO= []
 · rw [if_pos (.inl ao),decide_eq_true ao];rfl
 · rw [decide_eq_false ao]
   by_cases hc:0 <=cG l x.cO
   · rw [if_pos (.inr hc),decide_eq_false (show ¬ cG l x.cO < 0 by omega)];rfl
   · rw [if_neg (by simp [ao,hc]),decide_eq_true (show cG l x.cO < 0 by omega)];rfl) (fun k=>by rw [ug,bE];rfl) (by have:=h.len;omega)
theorem alC (h:Right l):cG l []= -1 :=by
 unfold cG
 cases aD:ei (iY []) l with
 | none=>rfl
 | some i=>
   obtain ⟨x,I,aa,_⟩:=E4 aD
   have:=aq4 (h.name x (List.mem_of_getElem? I))
   simp [iY] at aa
   exact absurd aa this
theorem asV (az:100 <F) (h:Right l):∃ o:Option (Int × bj),o.map (·.1)=l.findSome? (oo l)/\ld ⟨l,eF 0 l,[]⟩ F [] 0 =some (zG o (c' l)):=by
 have hlen:=h.len
 refine ⟨(List.range l.length).findSome? fun i=>((l[i]?).bind (oo l)).map fun e=>(e,(⟨l,eF 0 l,(c' l).take i⟩:bj)),?_,?_⟩
 · have e1:∀ (n:Nat),n<=l.length->((List.range' (l.length - n) n).findSome? fun i=>((l[i]?).bind (oo l)).map fun e=>(e,(⟨l,eF 0 l,(c' l).take i⟩:bj))).map (·.1)=(l.drop (l.length - n)).findSome? (oo l):=by
    intro n
    induction n with
    | zero=>intro _;simp
    | succ n ba=>
      intro aA
      have hi:l.length - (n+ 1) <l.length:=by omega
      rw [List.range'_succ,List.findSome?_cons,List.drop_eq_getElem_cons hi,List.findSome?_cons,List.getElem?_eq_getElem hi,Option.bind_some]
      cases oo l l[l.length - (n+ 1)] with
      | some e=>rfl
      | none=>
        simp only [Option.map_none]
        rw [show l.length - (n+ 1)+ 1 =l.length - n by omega]
        exact ba (by omega)
   have:=e1 l.length (Nat.le_refl _)
   simpa [List.range_eq_range'] using this
 · refine L6 (n:=l.length) (fun k i=>ld ⟨l,eF 0 l,[]⟩ k ((c' l).take i) (i:Int)) _ (c' l) (fun k i hi=>?_) (fun k=>?_) (F:=F) (by omega)
   · obtain ⟨x,ad⟩:∃ x,l[i]? =some x:=⟨l[i],List.getElem?_eq_getElem hi⟩
     show ld ⟨l,eF 0 l,[]⟩ (k+ 1) ((c' l).take i) (i:Int)=_
     rw [ld]
     show cond (decide ((i:Int) <(l.length:Int))) (cS (α:=List Int) ((idx l (i:Int)).bind _) _) _=_
     rw [bF hi,cond_true,bm ad,Option.bind_some,ad,Option.bind_some]
     have YE:du (eF 0 l) x.cO=(ei (iY x.cO) l).map fun n:Nat=>((n+ 0 :Nat):Int):=BC x.cO l 0
     have e3:(c' l).take (i+ 1)=(c' l).take i++[cG l x.cO]:=by rw [List.take_add_one,S8 ad];rfl
     have OH:bR 8 ((c' l).take i) [cG l x.cO]=some ((c' l).take (i+ 1)):=by
      unfold bR
      rw [if_pos (by simp only [List.length_take,List.length_cons,List.length_nil];omega),e3]
     have fin:∀ n:Int,n=cG l x.cO->cS (α:=List Int) (cS (α:=Int) (ρ:=Int × bj) (some (.go n)) fun (QP:Int)=>(bR 8 ((c' l).take i) [QP]).bind fun Qa=>some (.go Qa)) (fun (P':List Int)=>ld ⟨l,eF 0 l,[]⟩ k P' (aE ((i:Int)+ 1)))=ld ⟨l,eF 0 l,[]⟩ k ((c' l).take (i+ 1)) ((i+ 1 :Nat):Int):=by
      intro n aA
      subst aA
      rw [mu,OH,Option.bind_some,mu,eK hi (by omega)]
     unfold oo
     by_cases ao:x.cO= []
     · rw [if_pos (.inl ao),decide_eq_true ao,cond_true]
       exact fin (-1) (by rw [ao,alC h])
     · rw [decide_eq_false ao,cond_false]
       cases aD:ei (iY x.cO) l with
       | none=>
         have D6:cG l x.cO < 0 :=alB.2 aD
         rw [if_neg (by simp [ao];omega),YE,aD]
         rfl
       | some j=>
         have qU:cG l x.cO=(j:Int):=by unfold cG;rw [aD];rfl
         rw [if_pos (.inr (by omega)),YE,aD]
         exact fin _ (by rw [qU];simp)
   · show ld ⟨l,eF 0 l,[]⟩ (k+ 1) ((c' l).take l.length) (l.length:Int)=_
     rw [ld]
     show cond (decide ((l.length:Int) <(l.length:Int))) _ _=_
     rw [bE,cond_false,List.take_of_length_le (by simp [c'])]
def dj (S:List Int):Nat->Int->Option (List Int)
 | 0,n=>if n < 0 then some [] else none
 | k+ 1,n=>if n < 0 then some [] else (idx S n).bind fun m=>(dj S k m).map (n:: ·)
theorem acP {S:List Int}:∀ {k:Nat} {n:Int} {c:List Int},dj S k n=some c->dj S (k+ 1) n=some c
 | 0,n,c,h=>by
   simp only [dj] at h ⊢
   split at h
   · rename_i aA;rw [if_pos aA];exact h
   · cases h
 | k+ 1,n,c,h=>by
   rw [dj] at h ⊢
   split at h
   · rename_i aA;rw [if_pos aA];exact h
   · rename_i aA
     rw [if_neg aA]
     cases hi:idx S n with
     | none=>rw [hi] at h;cases h
     | some m=>
       rw [hi,Option.bind_some] at h
       rw [Option.bind_some]
       cases hu:dj S k m with
       | none=>rw [hu] at h;cases h
       | some bC=>rw [hu] at h;rw [acP hu];exact h
theorem Ky {S:List Int} {k k':Nat} {n:Int} {c:List Int} (h:dj S k n=some c) (ai:k<=k'):dj S k' n=some c:=by
 obtain ⟨d,rfl⟩:∃ d,k'=k+d:=⟨k' - k,by omega⟩
 clear ai
 induction d with
 | zero=>exact h
 | succ d ba=>exact acP ba
theorem aya {S:List Int} {k k':Nat} {n:Int} {c bC:List Int} (h:dj S k n=some c) (h':dj S k' n=some bC):c=bC:=by
 have I:=Ky h (Nat.le_max_left k k')
 have aa:=Ky h' (Nat.le_max_right k k')
 rw [I] at aa
 exact Option.some.inj aa
theorem acO {S:List Int}:∀ {k:Nat} {n:Int} {c:List Int},dj S k n=some c->c.length<=k/\dj S c.length n=some c
 | 0,n,c,h=>by
   simp only [dj] at h
   split at h
   · rename_i aA
     injection h with h
     subst h
     simp [dj,aA]
   · cases h
 | k+ 1,n,c,h=>by
   have aN:=h
   rw [dj] at h
   split at h
   · rename_i aA
     injection h with h
     subst h
     simp [dj,aA]
   · rename_i aA
     cases hi:idx S n with
     | none=>rw [hi] at h;cases h
     | some m=>
       rw [hi,Option.bind_some] at h
       cases hu:dj S k m with
       | none=>rw [hu] at h;cases h
       | some bC=>
         rw [hu] at h
         simp only [Option.map_some,Option.some.injEq] at h
         subst h
         obtain ⟨I,aa⟩:=acO hu
         refine ⟨by simpa using I,?_⟩
         rw [List.length_cons,dj,if_neg aA,hi,Option.bind_some,aa];rfl
theorem Kz {S:List Int}:∀ {k:Nat} {n:Int} {c:List Int},dj S k n=some c-> ∀ x ∈ c,(0 <=x/\x <S.length)/\ ∃ k' bC,dj S k' x=some bC/\bC.length<=c.length/\bC≠ []
 | 0,n,c,h,x,ad=>by
   simp only [dj] at h
   split at h
   · injection h with h;subst h;cases ad
   · cases h
 | k+ 1,n,c,h,x,ad=>by
   have aN:=h
   rw [dj] at h
   split at h
   · injection h with h;subst h;cases ad
   · rename_i aA
     cases hi:idx S n with
     | none=>rw [hi] at h;cases h
     | some m=>
       rw [hi,Option.bind_some] at h
       cases hu:dj S k m with
       | none=>rw [hu] at h;cases h
       | some bC=>
         rw [hu] at h
         simp only [Option.map_some,Option.some.injEq] at h
         subst h
         obtain ⟨uR,dH,_⟩:=jW hi
         rcases List.mem_cons.1 ad with rfl | e
         · exact ⟨⟨by omega,by omega⟩,k+ 1,_,aN,Nat.le_refl _,by simp⟩
         · obtain ⟨I,k',c2,aa,aq,a'⟩:=Kz hu x e
           exact ⟨I,k',c2,aa,by simp only [List.length_cons];omega,a'⟩
theorem acN {S:List Int}:∀ {k:Nat} {n:Int} {c:List Int},dj S k n=some c->c.Nodup
 | 0,n,c,h=>by
   simp only [dj] at h
   split at h
   · injection h with h;subst h;simp
   · cases h
 | k+ 1,n,c,h=>by
   have aN:=h
   rw [dj] at h
   split at h
   · injection h with h;subst h;simp
   · cases hi:idx S n with
     | none=>rw [hi] at h;cases h
     | some m=>
       rw [hi,Option.bind_some] at h
       cases hu:dj S k m with
       | none=>rw [hu] at h;cases h
       | some bC=>
         rw [hu] at h
         simp only [Option.map_some,Option.some.injEq] at h
         subst h
         refine List.nodup_cons.2 ⟨fun gm=>?_,acN hu⟩
         obtain ⟨_,k',c2,aa,aq,_⟩:=Kz hu n gm
         have:=aya aN aa
         subst this
         simp only [List.length_cons] at aq
         omega
theorem Rg:∀ (n:Nat) (c:List Nat),c.Nodup->(∀ x ∈ c,x <n)->c.length<=n
 | 0,c,_,h=>by
   cases c with
   | nil=>simp
   | cons x r=>exact absurd (h x (by simp)) (by omega)
 | n+ 1,c,aL,h=>by
   by_cases aA:n ∈ c
   · have I:=Rg n (c.erase n) (aL.erase n) (fun x ad=>by
      have aa:=(aL.mem_erase_iff).1 ad
      have:=h x aa.2
      omega)
     rw [List.length_erase_of_mem aA] at I
     omega
   · have:=Rg n c aL (fun x ad=>by
      have I:=h x ad
      have:x≠n:=fun e=>aA (e ▸ ad)
      omega)
     omega
theorem acM {S:List Int} {k:Nat} {n:Int} {c:List Int} (h:dj S k n=some c):c.length<=S.length:=by
 have aD:=Kz h
 have aL:=acN h
 have:=Rg S.length (c.map Int.toNat) (by
  rw [List.Nodup,List.pairwise_map]
  refine List.Pairwise.imp_of_mem ?_ aL
  intro a b aK ah DE e
  have I:=(aD a aK).1
  have aa:=(aD b ah).1
  exact DE (by omega)) (fun x ad=>by
  obtain ⟨y,hy,rfl⟩:=List.mem_map.1 ad
  have I:=(aD y hy).1
  omega)
 simpa using this
theorem ax' {S:List Int} {k:Nat} {n:Int} (ai:S.length<=k):dj S k n=dj S S.length n:=by
 cases h:dj S k n with
 | some c=>
   obtain ⟨_,aa⟩:=acO h
   exact (Ky aa (acM h)).symm
 | none=>
   cases h':dj S S.length n with
   | none=>rfl
   | some c=>rw [Ky h' ai] at h;cases h
theorem alw {m:List (List UInt8 × Int)} {S:List Int} {k:Nat} {n:Int} {c:List Int} (h:dj S k n=some c) (hc:c.length<= 1000) (az:1001 <F):pE F ⟨l,m,S⟩ n=some c:=by
 have key:∀ (k:Nat) (n:Int) (c acc:List Int) (f:Nat),dj S k n=some c->c.length <f->acc.length+c.length<= 1000 ->pF ⟨l,m,S⟩ f acc n=some (acc++c):=by
  intro k
  induction k with
  | zero=>
    intro n c acc f h af _
    obtain ⟨f,rfl⟩:∃ bG,f=bG+ 1 :=⟨f - 1,by omega⟩
    simp only [dj] at h
    split at h
    · injection h with h
      subst h
      rw [pF,decide_eq_false (by omega)]
      simp
    · cases h
  | succ k ba=>
    intro n c acc f h af ak
    obtain ⟨f,rfl⟩:∃ bG,f=bG+ 1 :=⟨f - 1,by omega⟩
    rw [dj] at h
    split at h
    · injection h with h
      subst h
      rw [pF,decide_eq_false (by omega)]
      simp
    · rename_i aA
      cases hi:idx S n with
      | none=>rw [hi] at h;cases h
      | some x=>
        rw [hi,Option.bind_some] at h
        cases hu:dj S k x with
        | none=>rw [hu] at h;cases h
        | some bC=>
          rw [hu] at h
          simp only [Option.map_some,Option.some.injEq] at h
          subst h
          simp only [List.length_cons] at af ak
          rw [pF,decide_eq_true (by omega),cond_true]
          unfold bR
          rw [if_pos (by simp only [List.length_cons,List.length_nil];omega)]
          show ((some (acc++[n])).bind fun Ex=>(idx S n).bind fun nB=>_)=_
          rw [Option.bind_some,hi,Option.bind_some,ba x bC (acc++[n]) f hu (by omega) (by simp only [List.length_append,List.length_cons,List.length_nil];omega)]
          simp
 unfold pE
 rw [key k n c [] F h (by omega) (by simp;omega)]
 rfl
end
end J
namespace J
section
variable {F:Nat} {l:List al}
theorem B9:(c' l).length=l.length:=by simp [c']
theorem tD {n:Int} (aN:0 <=n) (I:n <l.length):∃ x,idx l n=some x/\idx (c' l) n=some (cG l x.cO):=by
 obtain ⟨x,ad⟩:∃ x,l[n.toNat]? =some x:=⟨l[n.toNat]'(by omega),List.getElem?_eq_getElem _⟩
 refine ⟨x,?_,?_⟩
 · unfold idx;rw [if_pos aN,ad]
 · unfold idx;rw [if_pos aN,S8 ad]
def Th (o:Option (List Int)) (acc:List Int):Way (List Int) (List Int):=match o with
 | some c=>.go (c.reverse++acc)
 | none=>.out []
def dq (l:List al) (n:Int):List Int:=(dj (c' l) l.length n).getD []
theorem Kx (az:1100 <F) (h:Right l) {n:Int} (I:n <l.length):um F l n=some (dq l n).reverse:=by
 have hlen:=h.len
 have key:∀ (d:Nat) (acc:List Int) (n:Int) (f:Nat),acc.length+d=l.length+ 1 ->d+ 1 <f->n <l.length->xX F l f n acc=some (Th (dj (c' l) d n) acc):=by
  intro d
  induction d with
  | zero=>
    intro acc n f aK af aA
    obtain ⟨f,rfl⟩:∃ bG,f=bG+ 1 :=⟨f - 1,by omega⟩
    rw [xX,dj]
    by_cases aN:n < 0
    · rw [if_pos aN,decide_eq_false (by omega)];rfl
    · rw [if_neg aN,decide_eq_true (by omega),cond_true,decide_eq_true (by omega)];rfl
  | succ d ba=>
    intro acc n f aK af aA
    obtain ⟨f,rfl⟩:∃ bG,f=bG+ 1 :=⟨f - 1,by omega⟩
    rw [xX,dj]
    by_cases aN:n < 0
    · rw [if_pos aN,decide_eq_false (by omega)];rfl
    · obtain ⟨x,ad,ao⟩:=tD (l:=l) (n:=n) (by omega) aA
      rw [if_neg aN,decide_eq_true (by omega),cond_true,decide_eq_false (by omega),cond_false]
      unfold bR
      rw [if_pos (by simp only [List.length_cons,List.length_nil];omega)]
      show ((some ([n]++acc)).bind fun ZD=>(idx l n).bind fun adT=>_)=_
      rw [Option.bind_some,ad,Option.bind_some,ui ⟨by omega,by omega⟩,Option.bind_some,ao,Option.bind_some,ba ([n]++acc) _ f (by simp only [List.length_append,List.length_cons,List.length_nil];omega) (by omega) Mp]
      cases dj (c' l) d (cG l x.cO) with
      | none=>rfl
      | some c=>simp [Th]
 unfold um
 rw [key (l.length+ 1) [] n F (by simp) (by omega) I,ax' (k:=l.length+ 1) (by rw [B9];omega),B9]
 unfold dq
 cases dj (c' l) l.length n with
 | none=>rfl
 | some c=>simp [Th,cd]
def sd (l:List al) (i:Nat):Option Int:=if (dj (c' l) l.length (i:Int)).isSome then none else some 4
theorem Tg {S:List Int} {k:Nat} {n:Int} {c:List Int} (h:dj S k n=some c) (aN:0 <=n):∃ r,c=n::r:=by
 cases k with
 | zero=>simp only [dj] at h;rw [if_neg (by omega)] at h;cases h
 | succ k=>
   rw [dj,if_neg (by omega)] at h
   cases hi:idx S n with
   | none=>rw [hi] at h;cases h
   | some m=>
     rw [hi,Option.bind_some] at h
     cases hu:dj S k m with
     | none=>rw [hu] at h;cases h
     | some bC=>rw [hu] at h;simp only [Option.map_some,Option.some.injEq] at h;exact ⟨bC,h.symm⟩
theorem al7 (az:1100 <F) (h:Right l):xr F l F 0 =some (cn ((List.range l.length).findSome? (sd l))):=jA _ (by have:=h.len;omega) (fun k i hi=>by
 rw [xr,bF hi,cond_true,Kx az h (by omega),Option.bind_some]
 unfold sd dq
 cases hu:dj (c' l) l.length (i:Int) with
 | none=>rfl
 | some c=>
   obtain ⟨r,rfl⟩:=Tg hu (by omega)
   rw [decide_eq_false (by simp;omega)]
   rfl) (fun k=>by rw [xr,bE];rfl) (by have:=h.len;omega)
theorem V' (h:Right l) (m:List (List UInt8 × Int)) (s:List Int):∀ (d i f:Nat) (n:Int),i+d=l.length->d <f-> 0 <=n->n <l.length-> ∃ r,q1 ⟨l,m,s⟩ (c' l) f n i=some r/\(r < 0 ↔ (dj (c' l) d n).isSome=true)
 | 0,i,f,n,hi,af,aN,aA=>by
   obtain ⟨f,rfl⟩:∃ bG,f=bG+ 1 :=⟨f - 1,by omega⟩
   have:i=l.length:=by omega
   subst this
   refine ⟨n,?_,?_⟩
   · rw [q1]
     show cond (decide ((l.length:Int) <(l.length:Int))) _ _=_
     rw [bE];rfl
   · rw [dj,if_neg (by omega)];simp;omega
 | d+ 1,i,f,n,hi,af,aN,aA=>by
   obtain ⟨f,rfl⟩:∃ bG,f=bG+ 1 :=⟨f - 1,by omega⟩
   obtain ⟨x,ad,ao⟩:=tD (l:=l) (n:=n) aN aA
   have hlen:=h.len
   rw [q1]
   have hc:decide ((i:Int) <((⟨l,m,s⟩:bj).l.length:Int))=true:=bF (n:=l.length) (by omega)
   rw [hc,cond_true,ao,Option.bind_some,dj,if_neg (by omega),ao,Option.bind_some]
   by_cases D6:cG l x.cO < 0
   · rw [decide_eq_true D6,cond_true]
     refine ⟨_,rfl,?_⟩
     have:dj (c' l) d (cG l x.cO)=some []:=by cases d <;> simp [dj,D6]
     rw [this];simp [D6]
   · rw [decide_eq_false D6,cond_false,eK (n:=l.length) (by omega) (by omega)]
     obtain ⟨r,I,aa⟩:=V' h m s d (i+ 1) f (cG l x.cO) (by omega) (by omega) (by omega) Mp
     refine ⟨r,I,aa.trans ?_⟩
     simp
theorem al6 (az:1100 <F) (h:Right l) (m:List (List UInt8 × Int)) (s:List Int):pD F ⟨l,m,s⟩ (c' l) F 0 =some (cn (((List.range l.length).findSome? (sd l)).map fun e=>(e,(⟨l,m,c' l⟩:bj)))):=by
 have hlen:=h.len
 have:=jA (n:=l.length) (L:=pD F ⟨l,m,s⟩ (c' l)) (fun i=>(sd l i).map fun e=>(e,(⟨l,m,c' l⟩:bj))) (by omega) (fun k i hi=>by
  rw [pD]
  have hc:decide ((i:Int) <((⟨l,m,s⟩:bj).l.length:Int))=true:=bF (n:=l.length) hi
  obtain ⟨r,I,aa⟩:=V' h m s l.length 0 F (i:Int) (by omega) (by omega) (by omega) (by omega)
  rw [hc,cond_true,show (0 :Int)=((0 :Nat):Int) from rfl,I]
  simp only [Option.bind_some]
  unfold sd
  cases hu:(dj (c' l) l.length (i:Int)).isSome with
  | true=>rw [if_pos rfl,decide_eq_false (show ¬ ((0 :Nat):Int)<=r from fun ay=>by have:=aa.2 hu;omega)];rfl
  | false=>rw [if_neg (by simp),decide_eq_true (show ((0 :Nat):Int)<=r from by
   rcases Int.lt_or_le r 0 with ay | ay
   · have:=aa.1 ay;rw [hu] at this;cases this
   · exact ay)];rfl) (fun k=>by
    rw [pD]
    show cond (decide ((l.length:Int) <(l.length:Int))) _ _=_
    rw [bE];rfl) (F:=F) (by omega)
 rw [this,HQ]
structure hl (l:List al):Prop where
 right:Right l
 aC1:xf l
 aC0:∀ c ∈ l,c.cO= []\/ 0 <=cG l c.cO
 up:∀ i,i <l.length-> ∃ c,dj (c' l) l.length (i:Int)=some c
 top:∀ c ∈ l,rA c=none
 obj:0 <=cG l [79,98,106,101,99,116]
theorem hl.chain (h:hl l) {n:Int} (aN:0 <=n) (I:n <l.length):dj (c' l) l.length n=some (dq l n)/\(dq l n).length<= 10 /\(∀ x ∈ dq l n,0 <=x/\x <l.length):=by
 obtain ⟨c,hc⟩:=h.up n.toNat (by omega)
 rw [show ((n.toNat:Nat):Int)=n by omega] at hc
 have e:dq l n=c:=by unfold dq;rw [hc];rfl
 rw [e]
 refine ⟨hc,?_,fun x ad=>?_⟩
 · have:=acM hc;rw [B9] at this;have:=h.right.len;omega
 · have:=(Kz hc x ad).1;rw [B9] at this;exact this
theorem hl.Qn (h:hl l) (az:1100 <F) (m:List (List UInt8 × Int)) {n:Int} (aN:0 <=n) (I:n <l.length):pE F ⟨l,m,c' l⟩ n=some (dq l n):=by
 obtain ⟨hc,ak,_⟩:=h.chain aN I
 exact alw (l:=l) hc (by omega) (by omega)
def lX (l:List al) (i:Int):List Field:=((idx l i).map (·.Fields)).getD []
def e8 (l:List al) (n:Int):List Field:=(dq l n).reverse.flatMap (lX l)
theorem Nk (h:Right l) (i:Int):(lX l i).length<= 6 :=by
 unfold lX
 cases ad:idx l i with
 | none=>simp
 | some x=>
   obtain ⟨_,_,aa⟩:=jW ad
   exact h.fields x (List.mem_of_getElem? aa)
theorem Nl (h:Right l):∀ r:List Int,(r.flatMap (lX l)).length<= 6 *r.length
 | []=>by simp
 | x::r=>by
   have I:=Nk h x
   have aa:=Nl h r
   simp only [List.flatMap_cons,List.length_append,List.length_cons]
   omega
theorem XE (h:Right l) (m:List (List UInt8 × Int)) (s:List Int):∀ (rem:List Int) (acc:List Field),(∀ x ∈ rem,0 <=x/\x <l.length)->acc.length+ 6 *rem.length<= 1000 ->vu ⟨l,m,s⟩ rem acc=some (acc++rem.flatMap (lX l))
 | [],acc,_,_=>by simp [vu]
 | x::rem,acc,ad,ak=>by
   obtain ⟨c,hc,_⟩:=tD (l:=l) (ad x (by simp)).1 (ad x (by simp)).2
   have af:lX l x=c.Fields:=by unfold lX;rw [hc];rfl
   have I:=Nk h x
   rw [af] at I
   simp only [List.length_cons] at ak
   rw [vu]
   show ((idx l x).bind fun wZ=>_)=_
   rw [hc,Option.bind_some]
   unfold bR
   rw [if_pos (by omega),Option.bind_some,XE h m s rem _ (fun y hy=>ad y (by simp [hy])) (by simp only [List.length_append];omega),List.flatMap_cons,af]
   simp
theorem hl.Qo (h:hl l) (az:1100 <F) (m:List (List UInt8 × Int)) {n:Int} (aN:0 <=n) (I:n <l.length):q2 F ⟨l,m,c' l⟩ n=some (e8 l n):=by
 obtain ⟨_,ak,hm⟩:=h.chain aN I
 unfold q2
 have:=h.Qn az m aN I
 simp only at this ⊢
 rw [this,Option.bind_some]
 unfold Fv
 rw [Option.bind_some,XE h.right m (c' l) _ [] (fun x ad=>hm x (by simpa using ad)) (by simp;omega)]
 simp [e8]
theorem hl.SF (h:hl l) (az:1100 <F) {n:Int} (aN:0 <=n) (I:n <l.length):xg F l n=some (e8 l n):=by
 obtain ⟨_,ak,hm⟩:=h.chain aN I
 unfold xg
 rw [Kx az h.right I,Option.bind_some]
 have:qj l (dq l n).reverse F [] 0 =some (e8 l n):=by
  refine I3 (n:=(dq l n).reverse.length) (fun k i=>qj l (dq l n).reverse k (((dq l n).reverse.take i).flatMap (lX l)) (i:Int)) (e8 l n) (fun k i hi=>?_) (fun k=>?_) (F:=F) (by simp;omega)
  · obtain ⟨x,ad⟩:∃ x,(dq l n).reverse[i]? =some x:=⟨(dq l n).reverse[i],List.getElem?_eq_getElem hi⟩
    have ah:=hm x (by simpa using List.mem_of_getElem? ad)
    obtain ⟨c,hc,_⟩:=tD (l:=l) ah.1 ah.2
    have af:lX l x=c.Fields:=by unfold lX;rw [hc];rfl
    have aa:=Nk h.right x
    rw [af] at aa
    have aq:=Nl h.right ((dq l n).reverse.take i)
    simp only [List.length_take,List.length_reverse] at aq hi
    show qj l (dq l n).reverse (k+ 1) (((dq l n).reverse.take i).flatMap (lX l)) (i:Int)=_
    rw [qj,bF (by simpa using hi),cond_true,bm ad,Option.bind_some,hc,Option.bind_some]
    unfold bR
    rw [if_pos (by omega),Option.bind_some,eK (n:=(dq l n).length) hi (by omega),List.take_add_one,ad,List.flatMap_append]
    simp [af]
  · show qj l (dq l n).reverse (k+ 1) (((dq l n).reverse.take (dq l n).reverse.length).flatMap (lX l)) ((dq l n).reverse.length:Int)=_
    rw [qj,bE,List.take_length];rfl
 rw [this];rfl
end
end J
namespace J
section
variable {F:Nat} {l:List al}
abbrev b3:=List (List UInt8) × List Target
def m6 (nm:List UInt8) (x:List UInt8):Bool:=decide (nm=x)
def r3 (p:b3) (nm:List UInt8) (t:Target):b3:=match ei (m6 nm) p.1 with
 | some k=>(p.1,p.2.set k t)
 | none=>(p.1 ++[nm],p.2 ++[t])
def o6 (ci:Int):List Method->Nat->b3->b3
 | [],_,p=>p
 | m::r,k,p=>o6 ci r (k+ 1) (r3 p m.Name ⟨ci,k⟩)
def eD (l:List al) (i:Int):List Method:=((idx l i).map (·.bb)).getD []
def ux (l:List al):List Int->b3->b3
 | [],p=>p
 | ci::r,p=>ux l r (o6 ci (eD l ci) 0 p)
def gO (l:List al) (n:Int):b3:=ux l (dq l n).reverse ([],[])
theorem L9 {p:b3} {nm:List UInt8} {t:Target} (h:p.1.length=p.2.length):(r3 p nm t).1.length=(r3 p nm t).2.length/\(r3 p nm t).1.length<=p.1.length+ 1 :=by
 unfold r3
 cases ei (m6 nm) p.1 with
 | some k=>simp [h]
 | none=>simp [h]
theorem L8 {ci:Int}:∀ {r:List Method} {k:Nat} {p:b3},p.1.length=p.2.length->(o6 ci r k p).1.length=(o6 ci r k p).2.length/\(o6 ci r k p).1.length<=p.1.length+r.length
 | [],_,p,h=>⟨h,Nat.le_refl _⟩
 | m::r,k,p,h=>by
   obtain ⟨I,aa⟩:=L9 (nm:=m.Name) (t:=⟨ci,k⟩) h
   obtain ⟨aq,a'⟩:=L8 (ci:=ci) (r:=r) (k:=k+ 1) I
   exact ⟨aq,by simp only [o6,List.length_cons];omega⟩
theorem aqW {ns:List (List UInt8)} (h:Small F ns.length) (nm:List UInt8):FF F ns nm=some (((ei (m6 nm) ns).map fun n:Nat=>(n:Int)).getD (-1)):=by
 unfold FF
 have l1:wu ns nm F 0 =some (cn ((ei (m6 nm) ns).map fun n:Nat=>(n:Int))):=Ni (m6 nm) _ h.1 (fun k i x ad=>by
  rw [wu,bF (List.getElem?_eq_some_iff.1 ad).1,cond_true,bm ad,Option.bind_some];rfl) (fun k=>by rw [wu,bE];rfl) h.2
 rw [l1,jc]
 cases ei (m6 nm) ns <;> rfl
theorem aci (az:1100 <F) (ci:Int) (c:al) (hc:c.bb.length<= 8):∀ (d i f:Nat) (p:b3),i+d=c.bb.length->d <f->p.1.length=p.2.length->p.1.length+d<= 1000 ->
 vA F ci c f p.1 p.2 (i:Int)=some (o6 ci (c.bb.drop i) i p)
 | 0,i,f,p,hi,af,aD,_=>by
   obtain ⟨f,rfl⟩:∃ bG,f=bG+ 1 :=⟨f - 1,by omega⟩
   have:i=c.bb.length:=by omega
   subst this
   rw [vA,bE,List.drop_of_length_le (Nat.le_refl _)];rfl
 | d+ 1,i,f,p,hi,af,aD,ak=>by
   obtain ⟨f,rfl⟩:∃ bG,f=bG+ 1 :=⟨f - 1,by omega⟩
   have cA:i <c.bb.length:=by omega
   obtain ⟨I,aa⟩:=L9 (nm:=c.bb[i].Name) (t:=⟨ci,i⟩) aD
   have next:=aci az ci c hc d (i+ 1) f (r3 p c.bb[i].Name ⟨ci,i⟩) (by omega) (by omega) I (by omega)
   rw [vA,bF cA,cond_true,bm (List.getElem?_eq_getElem cA),Option.bind_some,aqW ⟨by omega,by omega⟩,Option.bind_some,List.drop_eq_getElem_cons cA,o6,<-next]
   unfold r3
   cases n_:ei (m6 c.bb[i].Name) p.1 with
   | some k=>
     have ai:=Rh n_
     simp only [Option.map_some,Option.getD_some]
     rw [decide_eq_true (show (0 :Int)<=(k:Int) by omega),cond_true,bm (List.getElem?_eq_getElem (show k <p.2.length by omega)),Option.bind_some,Option.bind_some,Option.bind_some,eK cA (by omega)]
     simp
   | none=>
     simp only [Option.map_none,Option.getD_none]
     rw [decide_eq_false (show ¬ (0 :Int)<= -1 by decide),cond_false]
     unfold bR
     rw [if_pos (by simp only [List.length_cons,List.length_nil];omega),Option.bind_some,if_pos (by simp only [List.length_cons,List.length_nil];omega),Option.bind_some,Option.bind_some,eK cA (by omega)]
theorem Z_ (h:Right l) (i:Int):(eD l i).length<= 8 :=by
 unfold eD
 cases ad:idx l i with
 | none=>simp
 | some x=>
   obtain ⟨_,_,aa⟩:=jW ad
   exact h.methods x (List.mem_of_getElem? aa)
theorem ach (az:1100 <F) (h:Right l) (m:List (List UInt8 × Int)) (s:List Int):∀ (rem:List Int) (p:b3),(∀ x ∈ rem,0 <=x/\x <l.length)->p.1.length=p.2.length->p.1.length+ 8 *rem.length<= 900 ->
 vz F ⟨l,m,s⟩ rem p.1 p.2 =some (ux l rem p)
 | [],p,_,_,_=>by simp [vz,ux]
 | x::rem,p,ad,aD,ak=>by
   obtain ⟨c,hc,_⟩:=tD (l:=l) (ad x (by simp)).1 (ad x (by simp)).2
   have hm:eD l x=c.bb:=by unfold eD;rw [hc];rfl
   have mR:=Z_ h x
   have Du:=mR
   rw [hm] at Du
   simp only [List.length_cons] at ak
   obtain ⟨dH,bB⟩:=L8 (ci:=x) (r:=eD l x) (k:=0) aD
   rw [vz]
   show (Option.bind (α:=(List (List UInt8)) × (List Target)) ((idx l x).bind fun fs=>_) _)=_
   rw [hc,Option.bind_some]
   have:=aci az x c Du c.bb.length 0 F p (by omega) (by omega) aD (by omega)
   rw [show ((0 :Nat):Int)= 0 from rfl] at this
   rw [this,List.drop_zero,Option.bind_some,Option.bind_some,ux,<-hm]
   exact ach az h m s rem _ (fun y hy=>ad y (by simp [hy])) dH (by omega)
theorem hl.asE (h:hl l) (az:1100 <F) (m:List (List UInt8 × Int)) {n:Int} (aN:0 <=n) (I:n <l.length):y8 F ⟨l,m,c' l⟩ n=some (gO l n):=by
 obtain ⟨_,ak,hm⟩:=h.chain aN I
 unfold y8
 have:=h.Qn az m aN I
 simp only at this ⊢
 rw [this,Option.bind_some]
 unfold Fv
 rw [Option.bind_some,ach az h.right m (c' l) _ ([],[]) (fun x ad=>hm x (by simpa using ad)) rfl (by simp;omega)]
 rfl
theorem axQ (ns:List (List UInt8)) (m:Method) (h:Small F ns.length):oZ ns m F 0 =some (((ei (m6 m.Name) ns).getD ns.length:Nat):Int):=by
 have key:∀ (d i f:Nat),i+d=ns.length->d <f->oZ ns m f (i:Int)=some ((i+(ei (m6 m.Name) (ns.drop i)).getD d:Nat):Int):=by
  intro d
  induction d with
  | zero=>
    intro i f hi af
    obtain ⟨f,rfl⟩:∃ bG,f=bG+ 1 :=⟨f - 1,by omega⟩
    have:i=ns.length:=by omega
    subst this
    rw [oZ,bE,List.drop_of_length_le (Nat.le_refl _)];rfl
  | succ d ba=>
    intro i f hi af
    obtain ⟨f,rfl⟩:∃ bG,f=bG+ 1 :=⟨f - 1,by omega⟩
    have cA:i <ns.length:=by omega
    rw [oZ,bF cA,cond_true,bm (List.getElem?_eq_getElem cA),Option.bind_some,List.drop_eq_getElem_cons cA,ei]
    by_cases e:ns[i]=m.Name
    · rw [decide_eq_true e,if_pos (by simp [m6,e])];simp
    · rw [decide_eq_false e,if_neg (by simp [m6];exact fun h=>e h.symm)]
      simp only [Bool.not_false,cond_true]
      rw [eK cA h.1,ba (i+ 1) f (by omega) (by omega)]
      congr 2
      cases ei (m6 m.Name) (ns.drop (i+ 1)) with
      | none=>simp;omega
      | some k=>simp;omega
 have:=key ns.length 0 F (by omega) h.2
 simpa using this
theorem acp (az:1100 <F) (hg:List Int) (n:Nat) (ci:Int) (c:al) (ay:hg[n]? =some ci) (qK:idx l ci=some c) (hc:c.bb.length<= 8):∀ (d i f:Nat) (p:b3),i+d=c.bb.length->d <f->p.1.length=p.2.length->p.1.length+d<= 1000 ->
 xV F l hg (n:Int) f p.2 p.1 (i:Int)=some ((o6 ci (c.bb.drop i) i p).2,(o6 ci (c.bb.drop i) i p).1)
 | 0,i,f,p,hi,af,aD,_=>by
   obtain ⟨f,rfl⟩:∃ bG,f=bG+ 1 :=⟨f - 1,by omega⟩
   have:i=c.bb.length:=by omega
   subst this
   rw [xV,bm ay,Option.bind_some,qK,Option.bind_some,bE,List.drop_of_length_le (Nat.le_refl _)];rfl
 | d+ 1,i,f,p,hi,af,aD,ak=>by
   obtain ⟨f,rfl⟩:∃ bG,f=bG+ 1 :=⟨f - 1,by omega⟩
   have cA:i <c.bb.length:=by omega
   obtain ⟨I,aa⟩:=L9 (nm:=c.bb[i].Name) (t:=⟨ci,i⟩) aD
   have next:=acp az hg n ci c ay qK hc d (i+ 1) f (r3 p c.bb[i].Name ⟨ci,i⟩) (by omega) (by omega) I (by omega)
   rw [xV,bm ay,Option.bind_some,qK,Option.bind_some,bF cA,cond_true,Option.bind_some,qK,Option.bind_some,bm (List.getElem?_eq_getElem cA),Option.bind_some,axQ p.1 _ ⟨by omega,by omega⟩,Option.bind_some,List.drop_eq_getElem_cons cA,o6,<-next]
   unfold r3
   cases n_:ei (m6 c.bb[i].Name) p.1 with
   | some k=>
     have ai:=Rh n_
     simp only [Option.getD_some]
     rw [decide_eq_false (show ¬ ((k:Nat):Int)=(p.1.length:Int) by omega),cond_false,Option.bind_some]
     simp only [bm ay,Option.bind_some]
     rw [bm (List.getElem?_eq_getElem (show k <p.2.length by omega)),Option.bind_some,Option.bind_some,eK cA (by omega)]
     simp
   | none=>
     simp only [Option.getD_none,decide_true,cond_true]
     unfold bR
     rw [if_pos (by simp only [List.length_cons,List.length_nil];omega),Option.bind_some,if_pos (by simp only [List.length_cons,List.length_nil];omega),Option.bind_some,Option.bind_some]
     simp only [bm ay,Option.bind_some]
     rw [bm (i:=p.1.length) (x:=(⟨0,0⟩:Target)) (by rw [aD];simp),Option.bind_some,Option.bind_some,eK cA (by omega)]
     simp [aD,List.set_append]
theorem hl.awS (h:hl l) (az:1100 <F) {n:Int} (aN:0 <=n) (I:n <l.length):CV F l n=some (gO l n):=by
 obtain ⟨_,ak,hm⟩:=h.chain aN I
 unfold CV
 rw [Kx az h.right I,Option.bind_some]
 have key:∀ (d i f:Nat) (p:b3),i+d=(dq l n).reverse.length->d <f->p.1.length=p.2.length->p.1.length+ 8 *d<= 900 ->xU F l (dq l n).reverse f p.2 p.1 (i:Int)=some ((ux l ((dq l n).reverse.drop i) p).2,(ux l ((dq l n).reverse.drop i) p).1):=by
  intro d
  induction d with
  | zero=>
    intro i f p hi af _ _
    obtain ⟨f,rfl⟩:∃ bG,f=bG+ 1 :=⟨f - 1,by omega⟩
    have:i=(dq l n).reverse.length:=by omega
    subst this
    rw [xU,bE,List.drop_of_length_le (Nat.le_refl _)];rfl
  | succ d ba=>
    intro i f p hi af aD Ip
    obtain ⟨f,rfl⟩:∃ bG,f=bG+ 1 :=⟨f - 1,by omega⟩
    have cA:i <(dq l n).reverse.length:=by omega
    obtain ⟨ci,qK⟩:∃ x,(dq l n).reverse[i]? =some x:=⟨(dq l n).reverse[i],List.getElem?_eq_getElem cA⟩
    have ah:=hm ci (by simpa using List.mem_of_getElem? qK)
    obtain ⟨c,hc,_⟩:=tD (l:=l) ah.1 ah.2
    have D5:eD l ci=c.bb:=by unfold eD;rw [hc];rfl
    have mR:=Z_ h.right ci
    have Du:=mR
    rw [D5] at Du
    obtain ⟨dH,bB⟩:=L8 (ci:=ci) (r:=eD l ci) (k:=0) aD
    have t2:=acp (l:=l) az (dq l n).reverse i ci c qK hc Du c.bb.length 0 F p (by omega) (by omega) aD (by omega)
    rw [show ((0 :Nat):Int)= 0 from rfl] at t2
    have app:(dq l n).reverse[i]=ci:=by
     have:=List.getElem?_eq_getElem cA
     rw [qK] at this;exact (Option.some.inj this).symm
    rw [xU,bF cA,cond_true,t2,List.drop_zero,Option.bind_some,Option.bind_some,eK (n:=(dq l n).length) (by simpa using cA) (by omega),List.drop_eq_getElem_cons cA,app,ux,D5]
    rw [D5] at dH bB
    exact ba (i+ 1) f _ (by omega) (by omega) dH (by omega)
 have:=key (dq l n).reverse.length 0 F ([],[]) (by omega) (by simp;omega) rfl (by simp;omega)
 rw [show ((0 :Nat):Int)= 0 from rfl,List.drop_zero] at this
 simp only at this
 rw [this];rfl
end
end J
namespace J
theorem r2 {α β:Type} {l:List α} (T:Nat->List β->Nat->Option (List β)) (g:α->List β) (B M:Nat) (bN:∀ x ∈ l,(g x).length<=B)
 (ao:∀ k (i:Nat) x acc,l[i]? =some x->acc.length+B<=M->T (k+ 1) acc i=T k (acc++g x) (i+ 1)) (he:∀ k acc,T (k+ 1) acc l.length=some acc) {F:Nat} (az:l.length <F) {acc:List β} (eC:acc.length+B*l.length<=M) :
 T F acc 0 =some (acc++l.flatMap g):=by
 have key:∀ (d i k:Nat) (acc:List β),i+d=l.length->d <k->acc.length+B*d<=M->T k acc i=some (acc++(l.drop i).flatMap g):=by
  intro d
  induction d with
  | zero=>
    intro i k acc h ai _
    obtain ⟨k,rfl⟩:∃ k',k=k'+ 1 :=⟨k - 1,by omega⟩
    have hi:i=l.length:=by omega
    subst hi
    rw [he,List.drop_of_length_le (Nat.le_refl _)];simp
  | succ d ba=>
    intro i k acc h ai hm
    obtain ⟨k,rfl⟩:∃ k',k=k'+ 1 :=⟨k - 1,by omega⟩
    have hi:i <l.length:=by omega
    have ah:=bN l[i] (List.getElem_mem hi)
    rw [Nat.mul_succ] at hm
    rw [ao k i l[i] acc (List.getElem?_eq_getElem hi) (by omega),ba (i+ 1) k _ (by omega) (by omega) (by simp only [List.length_append];omega),List.drop_eq_getElem_cons hi,List.flatMap_cons,List.append_assoc]
 have:=key l.length 0 F acc (by omega) az eC
 simpa using this
theorem aaC {α β:Type} {g:α->Option β} {a:α}:[a].findSome? g=g a:=by rw [List.findSome?_cons];cases g a <;> rfl
theorem Dk {α β cp:Type} (f:α->List β) (g:β->Option cp):∀ l:List α,(l.flatMap f).findSome? g=l.findSome? fun x=>(f x).findSome? g
 | []=>rfl
 | x::r=>by
   rw [List.flatMap_cons,List.findSome?_append,List.findSome?_cons,Dk f g r]
   cases (f x).findSome? g <;> rfl
theorem uP {α β:Type} {g:α->List β} {B:Nat}:∀ {l:List α},(∀ x ∈ l,(g x).length<=B)->(l.flatMap g).length<=B*l.length
 | [],_=>by simp
 | x::r,h=>by
   have I:=h x (by simp)
   have aa:=uP (l:=r) (fun y hy=>h y (by simp [hy]))
   simp only [List.flatMap_cons,List.length_append,List.length_cons,Nat.mul_succ]
   omega
def dX (k:Kind):List (List UInt8):=if k.al= [] then [] else [k.al]
def mt (m:Method):List (List UInt8):=m.cr.flatMap dX++dX m.Returns++m.cw.map (·.al)
def ho (c:al):List (List UInt8):=c.Fields.flatMap (fun f=>dX f.Kind)++c.bb.flatMap mt
def p5 (l:List al):List (List UInt8):=l.flatMap ho
def jf (l:List al) (s:List UInt8):Option Int:=if 0 <=cG l s then none else some 5
theorem sO (k:Kind):(dX k).length<= 1 :=by unfold dX;split <;> simp
section
variable {F:Nat} {l:List al}
theorem Z' (h:Right l) {c:al} (hc:c ∈ l) {m:Method} (hm:m ∈ c.bb):(mt m).length<= 9 :=by
 have I:=h.method c hc m hm
 have aa:=uP (l:=m.cr) (g:=dX) (B:=1) (fun k _=>sO k)
 have aq:=sO m.Returns
 unfold mt
 simp only [List.length_append,List.length_map]
 omega
theorem V7 (h:Right l) {c:al} (hc:c ∈ l):(ho c).length<= 78 :=by
 have I:=uP (l:=c.Fields) (g:=fun f=>dX f.Kind) (B:=1) (fun f _=>sO f.Kind)
 have aa:=uP (l:=c.bb) (g:=mt) (B:=9) (fun m hm=>Z' h hc hm)
 have aq:=h.fields c hc
 have a':=h.methods c hc
 unfold ho
 simp only [List.length_append]
 omega
theorem hW {b:Nat} {α:Type} {acc r:List α} (h:(acc.length+r.length)*b<= 140737488355328):bR b acc r=some (acc++r):=by unfold bR;rw [if_pos h]
theorem Td {acc:List (List UInt8)} (h:acc.length<= 5000) (k:Kind):y9 k acc=some (acc++dX k):=by
 unfold y9 dX
 by_cases e:k.al= []
 · rw [decide_eq_true e,if_pos e];simp
 · rw [decide_eq_false e,if_neg e]
   simp only [Bool.not_false,cond_true]
   rw [hW (by simp only [List.length_cons,List.length_nil];omega)];rfl
theorem axT (az:1100 <F) (h:Right l) (m:List (List UInt8 × Int)) (s:List Int):tc F ⟨l,m,s⟩ F [] 0 =some (p5 l):=by
 have hlen:=h.len
 have:=r2 (l:=l) (fun k acc i=>tc F ⟨l,m,s⟩ k acc (i:Int)) ho 78 2000 (fun c hc=>V7 h hc) (fun k i c acc ad sl=>by
  have hc:=List.mem_of_getElem? ad
  have gH:=h.fields c hc
  have mR:=h.methods c hc
  have hi:=(List.getElem?_eq_some_iff.1 ad).1
  have cj:∀ acc:List (List UInt8),acc.length<= 2000 ->td c F acc 0 =some (acc++c.Fields.flatMap fun f=>dX f.Kind):=fun acc aK=>
   r2 (l:=c.Fields) (fun k acc i=>td c k acc (i:Int)) (fun f=>dX f.Kind) 1 3000 (fun f _=>sO f.Kind) (fun k i f acc ad sl=>by
    have hi:=(List.getElem?_eq_some_iff.1 ad).1
    rw [td,bF hi,cond_true,bm ad,Option.bind_some,Td (by omega),Option.bind_some,eK hi (by omega)]) (fun k acc=>by rw [td,bE];rfl) (by omega) (by omega)
  have jp:∀ acc:List (List UInt8),acc.length<= 2100 ->pI F c F acc 0 =some (acc++c.bb.flatMap mt):=fun acc aK=>
   r2 (l:=c.bb) (fun k acc i=>pI F c k acc (i:Int)) mt 9 3000 (fun m hm=>Z' h hc hm) (fun k i m acc ad sl=>by
    have hm:=List.mem_of_getElem? ad
    have hi:=(List.getElem?_eq_some_iff.1 ad).1
    obtain ⟨a',c8⟩:=h.method c hc m hm
    have y1:tf m F acc 0 =some (acc++m.cr.flatMap dX):=r2 (l:=m.cr) (fun k acc i=>tf m k acc (i:Int)) dX 1 3100 (fun k _=>sO k) (fun k i x acc ad sl=>by
     have hi:=(List.getElem?_eq_some_iff.1 ad).1
     rw [tf,bF hi,cond_true,bm ad,Option.bind_some,Td (by omega),Option.bind_some,eK hi (by omega)]) (fun k acc=>by rw [tf,bE];rfl) (by omega) (by omega)
    have ai:=uP (l:=m.cr) (g:=dX) (B:=1) (fun k _=>sO k)
    have aCN:=sO m.Returns
    have P_:∀ acc:List (List UInt8),acc.length<= 3200 ->pJ m F acc 0 =some (acc++m.cw.flatMap fun h=>[h.al]):=fun acc aK=>
     r2 (l:=m.cw) (fun k acc i=>pJ m k acc (i:Int)) (fun h=>[h.al]) 1 3300 (fun k _=>by simp) (fun k i x acc ad sl=>by
      have hi:=(List.getElem?_eq_some_iff.1 ad).1
      rw [pJ,bF hi,cond_true,bm ad,Option.bind_some,hW (by simp only [List.length_cons,List.length_nil];omega),Option.bind_some,eK hi (by omega)]) (fun k acc=>by rw [pJ,bE];rfl) (by omega) (by omega)
    rw [pI,bF hi,cond_true,bm ad,Option.bind_some,y1,Option.bind_some,Td (k:=(⟨m.Returns.Kind,m.Returns.al⟩:Kind)) (by simp only [List.length_append];omega),Option.bind_some,
     P_ _ (by simp only [List.length_append];have:(dX (⟨m.Returns.Kind,m.Returns.al⟩:Kind)).length<= 1 :=sO _;omega),Option.bind_some,Option.bind_some,eK hi (by omega)]
    have e:(m.cw.flatMap fun h=>[h.al])=m.cw.map (·.al):=by
     induction m.cw with
     | nil=>rfl
     | cons x r ba=>rw [List.flatMap_cons,ba];rfl
    rw [e]
    unfold mt
    simp only [List.append_assoc]) (fun k acc=>by rw [pI,bE];rfl) (by omega) (by omega)
  have ai:=uP (l:=c.Fields) (g:=fun f=>dX f.Kind) (B:=1) (fun f _=>sO f.Kind)
  rw [tc]
  have n5:decide ((i:Int) <((⟨l,m,s⟩:bj).l.length:Int))=true:=bF (n:=l.length) hi
  rw [n5,cond_true]
  show (Option.bind (α:=List (List UInt8)) ((idx l (i:Int)).bind fun gi=>_) _)=_
  rw [bm ad,Option.bind_some,cj acc (by omega),Option.bind_some,jp _ (by simp only [List.length_append];omega),Option.bind_some,Option.bind_some,eK hi (by omega)]
  unfold ho
  simp only [List.append_assoc]) (fun k acc=>by
   rw [tc]
   show cond (decide ((l.length:Int) <(l.length:Int))) _ _=_
   rw [bE];rfl) (F:=F) (by omega) (acc:=[]) (by simp;omega)
 simpa [p5] using this
theorem QX (s:List UInt8):(du (eF 0 l) s).isSome=decide (0 <=cG l s):=by
 rw [BC]
 unfold cG
 cases ei (iY s) l with
 | none=>simp
 | some i=>simp
theorem axR (az:1100 <F) (h:Right l) (s:List Int):EE F ⟨l,eF 0 l,s⟩=some (((p5 l).findSome? (jf l)).getD 0):=by
 have hlen:=h.len
 unfold EE
 have aJ:=axT az h (eF 0 l) s
 have yG:(p5 l).length<= 780 :=by
  have:=uP (l:=l) (g:=ho) (B:=78) (fun c hc=>V7 h hc)
  unfold p5;omega
 rw [aJ,Option.bind_some]
 have Ey:vB ⟨l,eF 0 l,s⟩ (p5 l) F 0 =some (cn ((p5 l).findSome? (jf l))):=each (jf l) (by omega) (fun k i x ad=>by
  rw [vB,bF (List.getElem?_eq_some_iff.1 ad).1,cond_true,bm ad,Option.bind_some]
  show cond (!(du (eF 0 l) x).isSome) _ _=_
  rw [QX]
  unfold jf
  by_cases e:0 <=cG l x
  · rw [decide_eq_true e,if_pos e];rfl
  · rw [decide_eq_false e,if_neg e];rfl) (fun k=>by rw [vB,bE];rfl) (by omega)
 rw [Ey]
 cases (p5 l).findSome? (jf l) <;> rfl
def mg (l:List al) (k:Kind):Option Int:=(dX k).findSome? (jf l)
theorem acq {s:List UInt8}:jf l s=none\/jf l s=some 5 :=by unfold jf;split <;> simp
theorem qD {α:Type} {g:α->Option Int} {e:Int} (aw:∀ x,g x=none\/g x=some e):∀ r:List α,r.findSome? g=none\/r.findSome? g=some e
 | []=>.inl rfl
 | x::r=>by
   rw [List.findSome?_cons]
   rcases aw x with h | h
   · rw [h];exact qD aw r
   · rw [h];exact .inr rfl
theorem ari (k:Kind):mg l k=if k.al= []\/ 0 <=cG l k.al then none else some 5 :=by
 unfold mg dX jf
 by_cases e:k.al= []
 · simp [e]
 · by_cases e2:0 <=cG l k.al <;> simp [e,e2]
theorem L4 (h:Small F l.length) {Bo:List Kind} (ai:Small F Bo.length):xW F l Bo=some (Bo.findSome? (mg l)).isNone:=by
 unfold xW
 have l1:=each (l:=Bo) (L:=ul F Bo l) (fun k=>(mg l k).map fun _=>false) ai.1 (fun k i x ad=>by
  rw [ul,bF (List.getElem?_eq_some_iff.1 ad).1,cond_true,bm ad,Option.bind_some,Option.bind_some,ui h,Option.bind_some,ari]
  by_cases e:x.al= []
  · rw [if_pos (.inl e),decide_eq_true e];rfl
  · rw [decide_eq_false e]
    by_cases e2:0 <=cG l x.al
    · rw [if_pos (.inr e2),decide_eq_false (show ¬ cG l x.al < 0 by omega)];rfl
    · rw [if_neg (by simp [e,e2]),decide_eq_true (show cG l x.al < 0 by omega)];rfl) (fun k=>by rw [ul,bE];rfl) ai.2
 rw [l1,HQ]
 cases Bo.findSome? (mg l) <;> rfl
theorem PU {o:Option Int} (h:o=none\/o=some 5) (Y:Option (Way Int Unit)):cond (!o.isNone) (some (.out 5)) Y=gy o Y:=by rcases h with h | h <;> rw [h] <;> rfl
theorem P2 (k:Kind):mg l k=none\/mg l k=some 5 :=qD (fun _=>acq) _
theorem FU {o cQ:Option Int} {Y:Option (Way Int Unit)}:gy o (gy cQ Y)=gy (o.or cQ) Y:=by cases o <;> rfl
theorem axS (az:1100 <F) (h:Right l):uh F l F 0 =some (cn ((p5 l).findSome? (jf l))):=by
 have hlen:=h.len
 have:=each (l:=l) (L:=uh F l) (fun c=>(ho c).findSome? (jf l)) (by omega) (fun k n c ad=>by
  have hc:=List.mem_of_getElem? ad
  have gH:=h.fields c hc
  have mR:=h.methods c hc
  have Ey:xt F l (n:Int) F 0 =some (cn (c.Fields.findSome? fun f=>mg l f.Kind)):=each (l:=c.Fields) (fun f=>mg l f.Kind) (by omega) (fun k i f hy=>by
   rw [xt,bm ad,Option.bind_some,bF (List.getElem?_eq_some_iff.1 hy).1,cond_true,Option.bind_some,bm hy,Option.bind_some,L4 ⟨by omega,by omega⟩ ⟨by simp,by simp;omega⟩,Option.bind_some]
   have e:[(⟨f.Kind.Kind,f.Kind.al⟩:Kind)].findSome? (mg l)=mg l f.Kind:=aaC
   rw [e]
   exact PU (P2 _) _) (fun k=>by rw [xt,bm ad,Option.bind_some,bE];rfl) (by omega)
  have Qc:xu F l (n:Int) F 0 =some (cn (c.bb.findSome? fun m=>(mt m).findSome? (jf l))):=each (l:=c.bb) (fun m=>(mt m).findSome? (jf l)) (by omega) (fun k i m hy=>by
   have hm:=List.mem_of_getElem? hy
   obtain ⟨a',c8⟩:=h.method c hc m hm
   have Qd:xv F l m F 0 =some (cn (m.cw.findSome? fun x=>jf l x.al)):=each (l:=m.cw) (fun x=>jf l x.al) (by omega) (fun k i x aj=>by
    rw [xv,bF (List.getElem?_eq_some_iff.1 aj).1,cond_true,bm aj,Option.bind_some,ui ⟨by omega,by omega⟩,Option.bind_some]
    unfold jf
    by_cases e2:0 <=cG l x.al
    · rw [if_pos e2,decide_eq_false (show ¬ cG l x.al < 0 by omega)];rfl
    · rw [if_neg e2,decide_eq_true (show cG l x.al < 0 by omega)];rfl) (fun k=>by rw [xv,bE];rfl) (by omega)
   have e:[(⟨m.Returns.Kind,m.Returns.al⟩:Kind)].findSome? (mg l)=mg l m.Returns:=aaC
   rw [xu,bm ad,Option.bind_some,bF (List.getElem?_eq_some_iff.1 hy).1,cond_true,Option.bind_some,bm hy,Option.bind_some,L4 ⟨by omega,by omega⟩ ⟨by omega,by omega⟩,Option.bind_some,L4 ⟨by omega,by omega⟩ ⟨by simp,by simp;omega⟩,Option.bind_some,Qd,e,mw]
   rw [PU (P2 _),PU (qD (fun k=>P2 k) _),FU,FU,oJ,mu]
   congr 1
   unfold mt
   rw [List.findSome?_append,List.findSome?_append,Dk,List.findSome?_map]
   cases dB:m.cr.findSome? (mg l) with
   | some a=>
     have:(m.cr.findSome? fun x=>(dX x).findSome? (jf l))=some a:=dB
     rw [this];rfl
   | none=>
     have:(m.cr.findSome? fun x=>(dX x).findSome? (jf l))=none:=dB
     rw [this];rfl) (fun k=>by rw [xu,bm ad,Option.bind_some,bE];rfl) (by omega)
  rw [uh,bF (List.getElem?_eq_some_iff.1 ad).1,cond_true,Ey,Qc,mw,mw,FU,oJ,mu]
  congr 1
  unfold ho
  rw [List.findSome?_append,Dk,Dk]
  rfl) (fun k=>by rw [uh,bE];rfl) (F:=F) (by omega)
 rw [this,p5,Dk]
end
end J
namespace J
theorem I8 {cD β:Type} [DecidableEq cD] {k:cD} {v:β}:∀ m:List (cD × β),(hA m k v).length=if (du m k).isSome then m.length else m.length+ 1
 | []=>rfl
 | p::r=>by
   simp only [hA,du]
   by_cases h:p.1 =k
   · simp [h]
   · simp only [if_neg h,List.length_cons,I8 r]
     split <;> rfl
theorem EL {cD β:Type} [DecidableEq cD] {k s:cD} {v:β}:∀ m:List (cD × β),(du (hA m k v) s).isSome=true ↔ s=k\/(du m s).isSome=true
 | []=>by
   simp only [hA,du]
   by_cases h:k=s
   · simp [h]
   · simp [h];exact fun e=>h e.symm
 | p::r=>by
   have ba:=EL (k:=k) (s:=s) (v:=v) r
   simp only [hA]
   by_cases h:p.1 =k
   · rw [if_pos h]
     simp only [du]
     by_cases e:k=s
     · simp [e]
     · have e2: ¬ p.1 =s:=fun x=>e (h.symm.trans x)
       rw [if_neg e,if_neg e2]
       constructor
       · exact fun x=>.inr x
       · rintro (x | x)
         · exact absurd x.symm e
         · exact x
   · rw [if_neg h]
     simp only [du]
     by_cases e:p.1 =s
     · simp [e]
     · rw [if_neg e,if_neg e];exact ba
def sf (ns:List (List UInt8)):Option Int:=if ns.Nodup then none else some 6
section
variable {F:Nat} {l:List al}
theorem acA (az:1100 <F) {ns:List (List UInt8)} (aA:ns.length<= 1000):Bs F ns=some (decide (¬ ns.Nodup)):=by
 have key:∀ (d i k:Nat) (m:List (List UInt8 × Bool)),i+d=ns.length->d <k->(∀ s,(du m s).isSome=true ↔ s ∈ ns.take i)->m.length<=i->(m.length=i ↔ (ns.take i).Nodup) ->
  ∃ eI,vC ns k m (i:Int)=some eI/\eI.length<=ns.length/\(eI.length=ns.length ↔ ns.Nodup):=by
  intro d
  induction d with
  | zero=>
    intro i k m hi ai I aa aq
    obtain ⟨k,rfl⟩:∃ k',k=k'+ 1 :=⟨k - 1,by omega⟩
    have:i=ns.length:=by omega
    subst this
    rw [List.take_length] at aq
    exact ⟨m,by rw [vC,bE];rfl,aa,aq⟩
  | succ d ba=>
    intro i k m hi ai I aa aq
    obtain ⟨k,rfl⟩:∃ k',k=k'+ 1 :=⟨k - 1,by omega⟩
    have cA:i <ns.length:=by omega
    have e1:ns.take (i+ 1)=ns.take i++[ns[i]]:=by rw [List.take_add_one,List.getElem?_eq_getElem cA];rfl
    rw [vC,bF cA,cond_true,bm (List.getElem?_eq_getElem cA),Option.bind_some,eK cA (by omega)]
    refine ba (i+ 1) k _ (by omega) (by omega) (fun s=>?_) ?_ ?_
    · rw [EL,I,e1,List.mem_append,List.mem_singleton]
      constructor
      · rintro (h | h)
        · exact .inr h
        · exact .inl h
      · rintro (h | h)
        · exact .inr h
        · exact .inl h
    · rw [I8];split <;> omega
    · rw [I8,e1,List.nodup_append]
      by_cases hm:(du m ns[i]).isSome=true
      · rw [if_pos hm]
        have:=(I ns[i]).1 hm
        constructor
        · intro h;omega
        · rintro ⟨_,_,h⟩;exact absurd rfl (h _ this _ (by simp))
      · rw [if_neg hm]
        have:ns[i] ∉ ns.take i:=fun h=>hm ((I ns[i]).2 h)
        constructor
        · intro h
          exact ⟨aq.1 (by omega),by simp,fun a aK b ah e=>by
           rw [List.mem_singleton] at ah;subst ah;exact this (e ▸ aK)⟩
        · rintro ⟨h,_,_⟩
          have:=aq.2 h
          omega
 obtain ⟨eI,I,aa,aq⟩:=key ns.length 0 F [] (by omega) (by omega) (fun s=>by simp [du]) (by simp) (by simp)
 unfold Bs
 rw [show (0 :Int)=((0 :Nat):Int) from rfl,I,Option.bind_some]
 congr 1
 by_cases aL:ns.Nodup
 · have:=aq.2 aL
   rw [decide_eq_false (by omega),decide_eq_false (by simp [aL])]
 · have:eI.length≠ns.length:=fun e=>aL (aq.1 e)
   rw [decide_eq_true (by omega),decide_eq_true aL]
def MA {α:Type} (nm:α->List UInt8) (r:List α):Option Int:=(List.range r.length).findSome? fun k=>(List.range k).findSome? fun j=>if (r[j]?).map nm=(r[k]?).map nm then some 6 else none
theorem Wj {α:Type} (nm:α->List UInt8) (r:List α):MA nm r=sf (r.map nm):=by
 have ag:MA nm r=none\/MA nm r=some 6 :=qD (fun k=>qD (fun j=>by split <;> simp) _) _
 unfold sf
 by_cases aL:(r.map nm).Nodup
 · rw [if_pos aL]
   rcases ag with h | h
   · exact h
   · exfalso
     obtain ⟨k,ai,I⟩:=List.exists_of_findSome?_eq_some h
     obtain ⟨j,aC,aa⟩:=List.exists_of_findSome?_eq_some I
     simp only [List.mem_range] at ai aC
     split at aa
     · rename_i e
       have:=List.pairwise_iff_getElem.1 aL j k (by simp;omega) (by simpa using ai) aC
       apply this
       rw [List.getElem?_eq_getElem (by omega),List.getElem?_eq_getElem ai] at e
       simpa using e
     · cases aa
 · rw [if_neg aL]
   rcases ag with h | h
   · exfalso
     apply aL
     refine List.pairwise_iff_getElem.2 fun j k aC ai qQ e=>?_
     have I:=List.findSome?_eq_none_iff.1 h k (by simpa using ai)
     have aa:=List.findSome?_eq_none_iff.1 I j (by simpa using qQ)
     simp only [List.length_map] at aC ai
     rw [List.getElem?_eq_getElem aC,List.getElem?_eq_getElem ai] at aa
     simp only [List.getElem_map] at e
     rw [if_pos (by simp [e])] at aa
     cases aa
   · exact h
theorem amd (az:1100 <F) (r:List Field) (ay:r.length<= 1000):xl F r F 0 =some (cn (sf (r.map (·.Name)))):=by
 rw [<-Wj]
 exact jA _ (by omega) (fun k i hi=>by
  have P6:xm r (i:Int) F 0 =some (cn ((List.range i).findSome? fun j=>if (r[j]?).map (·.Name)=(r[i]?).map (·.Name) then some 6 else none)):=jA _ (by omega) (fun k j aC=>by
   rw [xm,bF aC,cond_true,bm (List.getElem?_eq_getElem (show j <r.length by omega)),Option.bind_some,bm (List.getElem?_eq_getElem hi),Option.bind_some,List.getElem?_eq_getElem (show j <r.length by omega),List.getElem?_eq_getElem hi]
   simp only [Option.map_some,Option.some.injEq]
   by_cases e:r[j].Name=r[i].Name
   · rw [decide_eq_true e,if_pos e];rfl
   · rw [decide_eq_false e,if_neg e];rfl) (fun k=>by rw [xm,bE];rfl) (by omega)
  rw [xl,bF hi,cond_true,P6,mw,oJ,mu]) (fun k=>by rw [xl,bE];rfl) (by omega)
theorem ame (az:1100 <F) (c:al) (ay:c.bb.length<= 1000):ql F c F 0 =some (cn (sf (c.bb.map (·.Name)))):=by
 rw [<-Wj]
 exact jA _ (by omega) (fun k i hi=>by
  have P6:qm c (i:Int) F 0 =some (cn ((List.range i).findSome? fun j=>if (c.bb[j]?).map (·.Name)=(c.bb[i]?).map (·.Name) then some 6 else none)):=jA _ (by omega) (fun k j aC=>by
   rw [qm,bF aC,cond_true,bm (List.getElem?_eq_getElem (show j <c.bb.length by omega)),Option.bind_some,bm (List.getElem?_eq_getElem hi),Option.bind_some,List.getElem?_eq_getElem (show j <c.bb.length by omega),List.getElem?_eq_getElem hi]
   simp only [Option.map_some,Option.some.injEq]
   by_cases e:c.bb[j].Name=c.bb[i].Name
   · rw [decide_eq_true e,if_pos e];rfl
   · rw [decide_eq_false e,if_neg e];rfl) (fun k=>by rw [qm,bE];rfl) (by omega)
  rw [ql,bF hi,cond_true,P6,mw,oJ,mu]) (fun k=>by rw [ql,bE];rfl) (by omega)
def v0 (l:List al) (i:Nat):Option Int:=(sf ((e8 l i).map (·.Name))).or (sf ((eD l i).map (·.Name)))
theorem XM (h:hl l) {n:Int} (aN:0 <=n) (I:n <l.length):(e8 l n).length<= 60 :=by
 obtain ⟨_,ak,_⟩:=h.chain aN I
 have:=Nl h.right (dq l n).reverse
 unfold e8
 simp only [List.length_reverse] at this
 omega
theorem Wk {ns:List (List UInt8)} {Y:Option (Way Int Unit)}:cond (decide (¬ ns.Nodup)) (some (.out 6)) Y=gy (sf ns) Y:=by
 unfold sf
 by_cases h:ns.Nodup
 · rw [if_pos h,decide_eq_false (by simp [h])];rfl
 · rw [if_neg h,decide_eq_true h];rfl
theorem Z9 {i:Nat} {c:al} (h:l[i]? =some c):eD l (i:Int)=c.bb:=by unfold eD;rw [bm h];rfl
theorem at2 (az:1100 <F) (h:hl l):xw F l F 0 =some (cn ((List.range l.length).findSome? (v0 l))):=by
 have hlen:=h.right.len
 exact jA _ (by omega) (fun k i hi=>by
  obtain ⟨c,ad⟩:∃ x,l[i]? =some x:=⟨l[i],List.getElem?_eq_getElem hi⟩
  have mR:=h.right.methods c (List.mem_of_getElem? ad)
  have YB:=XM h (n:=(i:Int)) (by omega) (by omega)
  rw [xw,bF hi,cond_true,h.SF az (by omega) (by omega),Option.bind_some,amd az _ (by omega),mw,bm ad,Option.bind_some,ame az c (by omega),mw,FU,oJ,mu]
  unfold v0
  rw [Z9 ad]) (fun k=>by rw [xw,bE];rfl) (by omega)
theorem at1 (az:1100 <F) (h:hl l) (m:List (List UInt8 × Int)):ED F ⟨l,m,c' l⟩=some (((List.range l.length).findSome? (v0 l)).getD 0):=by
 have hlen:=h.right.len
 have:=jA (n:=l.length) (L:=vy F ⟨l,m,c' l⟩) (v0 l) (by omega) (fun k i hi=>by
  obtain ⟨c,ad⟩:∃ x,l[i]? =some x:=⟨l[i],List.getElem?_eq_getElem hi⟩
  have mR:=h.right.methods c (List.mem_of_getElem? ad)
  have YB:=XM h (n:=(i:Int)) (by omega) (by omega)
  have cj:ta (e8 l i) F [] 0 =some ((e8 l i).map (·.Name)):=by
   have:=r2 (l:=e8 l i) (fun k acc i'=>ta (e8 l i) k acc (i':Int)) (fun f=>[f.Name]) 1 3000 (fun f _=>by simp) (fun k j x acc ad sl=>by
    have aC:=(List.getElem?_eq_some_iff.1 ad).1
    rw [ta,bF aC,cond_true,bm ad,Option.bind_some,hW (by simp only [List.length_cons,List.length_nil];omega),Option.bind_some,eK aC (by omega)]) (fun k acc=>by rw [ta,bE];rfl) (F:=F) (by omega) (acc:=[]) (by simp;omega)
   rw [show (0 :Int)=((0 :Nat):Int) from rfl,this]
   congr 1
   rw [List.nil_append]
   induction e8 l i with
   | nil=>rfl
   | cons x r ba=>rw [List.flatMap_cons,ba];rfl
  have jp:pH c F [] 0 =some (c.bb.map (·.Name)):=by
   have:=r2 (l:=c.bb) (fun k acc i'=>pH c k acc (i':Int)) (fun f=>[f.Name]) 1 3000 (fun f _=>by simp) (fun k j x acc ad sl=>by
    have aC:=(List.getElem?_eq_some_iff.1 ad).1
    rw [pH,bF aC,cond_true,bm ad,Option.bind_some,hW (by simp only [List.length_cons,List.length_nil];omega),Option.bind_some,eK aC (by omega)]) (fun k acc=>by rw [pH,bE];rfl) (F:=F) (by omega) (acc:=[]) (by simp;omega)
   rw [show (0 :Int)=((0 :Nat):Int) from rfl,this]
   congr 1
   rw [List.nil_append]
   induction c.bb with
   | nil=>rfl
   | cons x r ba=>rw [List.flatMap_cons,ba];rfl
  rw [vy]
  have n5:decide ((i:Int) <((⟨l,m,c' l⟩:bj).l.length:Int))=true:=bF (n:=l.length) hi
  have apm:=h.Qo az m (n:=(i:Int)) (by omega) (by omega)
  rw [n5,cond_true]
  show cS (α:=Unit) ((idx l (i:Int)).bind fun lC=>(q2 F ⟨l,m,c' l⟩ (i:Int)).bind fun nj=>_) _=_
  rw [bm ad,Option.bind_some,apm,Option.bind_some,cj,Option.bind_some,jp,Option.bind_some,acA az (by simp;omega),Option.bind_some,acA az (by simp;omega),Option.bind_some,Wk,Wk,FU,oJ,mu]
  unfold v0
  rw [Z9 ad]) (fun k=>by
   rw [vy]
   show cond (decide ((l.length:Int) <(l.length:Int))) _ _=_
   rw [bE];rfl) (F:=F) (by omega)
 unfold ED
 rw [this]
 cases (List.range l.length).findSome? (v0 l) <;> rfl
theorem abY {a b:List Kind} (aK:a.length<= 1000) (ah:b.length<= 1000) (az:1100 <F):r0 F a b=some (decide (a=b)):=by
 unfold r0
 by_cases ak:a.length=b.length
 · rw [decide_eq_true (show (a.length:Int)=(b.length:Int) by omega)]
   simp only [Bool.not_true,cond_false]
   have l1:nS a b F 0 =some (cn ((List.range a.length).findSome? fun i=>if a[i]? =b[i]? then none else some false)):=jA _ (by omega) (fun k i hi=>by
    rw [nS,bF hi,cond_true,bm (List.getElem?_eq_getElem hi),Option.bind_some,bm (List.getElem?_eq_getElem (show i <b.length by omega)),Option.bind_some,List.getElem?_eq_getElem hi,List.getElem?_eq_getElem (show i <b.length by omega)]
    simp only [Option.some.injEq]
    by_cases e:a[i]=b[i]
    · rw [decide_eq_true e,if_pos e];rfl
    · rw [decide_eq_false e,if_neg e];rfl) (fun k=>by rw [nS,bE];rfl) (by omega)
   rw [l1,jc]
   cases af:(List.range a.length).findSome? fun i=>if a[i]? =b[i]? then none else some false with
   | some e=>
     obtain ⟨i,hi,I⟩:=List.exists_of_findSome?_eq_some af
     split at I
     · cases I
     · rename_i b2
       injection I with I
       subst I
       rw [decide_eq_false (fun e=>b2 (by rw [e]))];rfl
   | none=>
     rw [decide_eq_true];rfl
     apply List.ext_getElem?
     intro i
     by_cases hi:i <a.length
     · have:=List.findSome?_eq_none_iff.1 af i (by simpa using hi)
       split at this
       · assumption
       · cases this
     · rw [List.getElem?_eq_none (by omega),List.getElem?_eq_none (by omega)]
 · rw [decide_eq_false (show ¬ (a.length:Int)=(b.length:Int) by omega),decide_eq_false (fun e=>ak (by rw [e]))];rfl
theorem ano {a b:List Kind} (aK:a.length<= 1000) (ah:b.length<= 1000) (az:1100 <F):FB F a b=some (decide (a=b)):=by
 rw [<-abY aK ah az]
 unfold FB r0
 have e:∀ k n,zy a b k n=nS a b k n:=by
  intro k
  induction k with
  | zero=>intro n;rfl
  | succ k ba=>intro n;rw [zy,nS];simp only [ba]
 rw [e]
def Mr (a b:Method):Bool:=decide (a.Name=b.Name) && (a.Static || b.Static || !decide (a.cr=b.cr) || !decide (a.Returns=b.Returns))
def nY (a b:Method):Option Int:=if Mr a b then some 4 else none
def sc (l:List al) (c:al) (u:Int):Option Int:=c.bb.findSome? fun a=>(eD l u).findSome? (nY a)
def Bw (l:List al) (c:al) (i:Nat):Option Int:=(dq l i).tail.findSome? (sc l c)
theorem alD (a b:Method):nY a b=none\/nY a b=some 4 :=by unfold nY;split <;> simp
theorem VV (c:al) (u:Int):sc l c u=none\/sc l c u=some 4 :=qD (fun _=>qD (fun _=>alD _ _) _) _
theorem an8 {α:Type} {g:α->Option Int} {e:Int} (aw:∀ x,g x=none\/g x=some e) (r:List α):r.reverse.findSome? g=r.findSome? g:=by
 rcases qD aw r with h | h
 · rw [h,List.findSome?_eq_none_iff]
   intro x ad
   exact List.findSome?_eq_none_iff.1 h x (by simpa using ad)
 · rw [h]
   rcases qD aw r.reverse with aa | aa
   · obtain ⟨x,ad,aq⟩:=List.exists_of_findSome?_eq_some h
     have:=List.findSome?_eq_none_iff.1 aa x (by simpa using ad)
     rw [aq] at this;cases this
   · exact aa
theorem asT (az:1100 <F) (h:hl l) (m:List (List UInt8 × Int)):EC F ⟨l,m,c' l⟩=some (((List.range l.length).findSome? fun i=>(l[i]?).bind fun c=>Bw l c i).getD 0):=by
 have hlen:=h.right.len
 have:=jA (n:=l.length) (L:=vv F ⟨l,m,c' l⟩) (fun i=>(l[i]?).bind fun c=>Bw l c i) (by omega) (fun k i hi=>by
  obtain ⟨c,ad⟩:∃ x,l[i]? =some x:=⟨l[i],List.getElem?_eq_getElem hi⟩
  have qL:=List.mem_of_getElem? ad
  have mR:=h.right.methods c qL
  obtain ⟨A3,jT,jS⟩:=h.chain (n:=(i:Int)) (by omega) (by omega)
  obtain ⟨r,ay⟩:=Tg A3 (by omega)
  have y1:∀ (a:Method),a ∈ c.bb-> ∀ (u:al),u ∈ l->pG F a u F 0 =some (cn (u.bb.findSome? (nY a))):=fun a aK u hu=>each (nY a) (by have:=h.right.methods u hu;omega) (fun k j b ah=>by
   have OO:=List.mem_of_getElem? ah
   have aoM:=h.right.method c qL a aK
   have aoS:=h.right.method u hu b OO
   rw [pG,bF (List.getElem?_eq_some_iff.1 ah).1,cond_true,bm ah,Option.bind_some]
   unfold IW
   simp only
   rw [ano (by omega) (by omega) az]
   unfold nY Mr
   show cond _ (Option.bind (cond _ (Option.bind _ fun r=>cond r (some (decide (a.Returns=b.Returns))) _) _) _) _=_
   by_cases aA:a.Name=b.Name
   · rw [decide_eq_true aA]
     simp only [Option.bind_some,cond_true,Bool.true_and]
     cases a.Static <;> cases b.Static <;> cases decide (a.cr=b.cr) <;> cases decide (a.Returns=b.Returns) <;> rfl
   · rw [decide_eq_false aA];rfl) (fun k=>by rw [pG,bE];rfl) (by have:=h.right.methods u hu;omega)
  have jp:∀ (x:Int),0 <=x->x <l.length->vx F ⟨l,m,c' l⟩ c x F 0 =some (cn (sc l c x)):=fun x aN I=>each (fun a=>(eD l x).findSome? (nY a)) (by omega) (fun k j a aK=>by
   obtain ⟨u,hu,_⟩:=tD (l:=l) aN I
   have qT:u ∈ l:=by obtain ⟨_,_,aa⟩:=jW hu;exact List.mem_of_getElem? aa
   have hm:eD l x=u.bb:=by unfold eD;rw [hu];rfl
   rw [vx,bF (List.getElem?_eq_some_iff.1 aK).1,cond_true,bm aK,Option.bind_some]
   show cS (α:=Unit) ((idx l x).bind fun kN=>_) _=_
   rw [hu,Option.bind_some,y1 a (List.mem_of_getElem? aK) u qT,mw,oJ,mu,hm]) (fun k=>by rw [vx,bE];rfl) (by omega)
  have cj:vw F ⟨l,m,c' l⟩ c (dq l i).tail F 0 =some (cn ((dq l i).tail.findSome? (sc l c))):=each (sc l c) (by simp;omega) (fun k j x PE=>by
   have ah:=jS x (List.mem_of_mem_tail (List.mem_of_getElem? PE))
   rw [vw,bF (List.getElem?_eq_some_iff.1 PE).1,cond_true,bm PE,Option.bind_some,jp x ah.1 ah.2,mw,oJ,mu]) (fun k=>by rw [vw,bE];rfl) (by simp;omega)
  rw [vv]
  have n5:decide ((i:Int) <((⟨l,m,c' l⟩:bj).l.length:Int))=true:=bF (n:=l.length) hi
  have apJ:=h.Qn az m (n:=(i:Int)) (by omega) (by omega)
  rw [n5,cond_true]
  show cS (α:=Unit) ((idx l (i:Int)).bind fun hP=>(pE F ⟨l,m,c' l⟩ (i:Int)).bind fun So=>_) _=_
  have qM:cut (dq l i) 1 ((dq l i).length:Int)=some (dq l i).tail:=by
   unfold cut
   rw [if_pos (by rw [ay];simp only [List.length_cons];omega)]
   rw [ay];simp
  rw [bm ad,Option.bind_some,apJ,Option.bind_some,qM,Option.bind_some,cj,mw,oJ,mu,ad]
  rfl) (fun k=>by
   rw [vv]
   show cond (decide ((l.length:Int) <(l.length:Int))) _ _=_
   rw [bE];rfl) (F:=F) (by omega)
 unfold EC
 rw [this]
 cases (List.range l.length).findSome? (fun i=>(l[i]?).bind fun c=>Bw l c i) <;> rfl
theorem asU (az:1100 <F) (h:hl l):xn F l F 0 =some (cn ((List.range l.length).findSome? fun i=>(l[i]?).bind fun c=>Bw l c i)):=by
 have hlen:=h.right.len
 exact jA _ (by omega) (fun k i hi=>by
  obtain ⟨c,ad⟩:∃ x,l[i]? =some x:=⟨l[i],List.getElem?_eq_getElem hi⟩
  have qL:=List.mem_of_getElem? ad
  have mR:=h.right.methods c qL
  obtain ⟨A3,jT,jS⟩:=h.chain (n:=(i:Int)) (by omega) (by omega)
  obtain ⟨r,ay⟩:=Tg A3 (by omega)
  have aqg:(dq l i).reverse=(dq l i).tail.reverse++[(i:Int)]:=by rw [ay];simp
  have arv:xo F l (i:Int) (dq l i).reverse F 0 =some (cn ((dq l i).tail.reverse.findSome? (sc l c))):=each (l:=(dq l i).tail.reverse) (sc l c) (by simp;omega) (fun k u x PG=>by
   have qT:=(List.getElem?_eq_some_iff.1 PG).1
   have ah:=jS x (List.mem_of_mem_tail (by simpa using List.mem_of_getElem? PG))
   obtain ⟨w,hw,_⟩:=tD (l:=l) ah.1 ah.2
   have vg:w ∈ l:=by obtain ⟨_,_,aa⟩:=jW hw;exact List.mem_of_getElem? aa
   have aCW:=h.right.methods w vg
   have hm:eD l x=w.bb:=by unfold eD;rw [hw];rfl
   have Zc:(dq l i).reverse[u]? =some x:=by rw [aqg,List.getElem?_append_left qT];exact PG
   have arw:xp F l (i:Int) (dq l i).reverse (u:Int) F 0 =some (cn (sc l c x)):=each (l:=c.bb) (fun a=>(eD l x).findSome? (nY a)) (by omega) (fun k j a aK=>by
    have aoO:=List.mem_of_getElem? aK
    have arB:uf F l (i:Int) (dq l i).reverse (u:Int) (j:Int) F 0 =some (cn (w.bb.findSome? (nY a))):=each (l:=w.bb) (nY a) (by omega) (fun k q b ah=>by
     have OO:=List.mem_of_getElem? ah
     have aoM:=h.right.method c qL a aoO
     have aoS:=h.right.method w vg b OO
     rw [uf]
     simp only [bm Zc,Option.bind_some,hw,bF (List.getElem?_eq_some_iff.1 ah).1,cond_true,bm ad,bm aK,bm ah]
     rw [abY (by omega) (by omega) az]
     unfold nY Mr
     show cond _ (cond _ _ (Option.bind _ fun r=>cond (!r) _ (cond (!decide (a.Returns=b.Returns)) _ _))) _=_
     by_cases aA:a.Name=b.Name
     · rw [decide_eq_true aA]
       simp only [Option.bind_some,cond_true,Bool.true_and]
       cases a.Static <;> cases b.Static <;> cases decide (a.cr=b.cr) <;> cases decide (a.Returns=b.Returns) <;> rfl
     · rw [decide_eq_false aA];rfl) (fun k=>by rw [uf];simp only [bm Zc,Option.bind_some,hw,bE];rfl) (by omega)
    rw [xp,bm ad,Option.bind_some,bF (List.getElem?_eq_some_iff.1 aK).1,cond_true,arB,mw,oJ,mu,hm]) (fun k=>by rw [xp,bm ad,Option.bind_some,bE];rfl) (by omega)
   have DH:decide ((u:Int) <aE (((dq l i).reverse.length:Int) - 1))=true:=by
    rw [cE (by omega) (by simp;omega)]
    simp only [List.length_reverse,List.length_tail] at qT
    exact decide_eq_true (by simp only [List.length_reverse];omega)
   rw [xo,DH,cond_true,arw,mw,oJ,mu]) (fun k=>by
    have DH:decide (((dq l i).tail.reverse.length:Int) <aE (((dq l i).reverse.length:Int) - 1))=false:=by
     rw [cE (by omega) (by simp;omega)]
     exact decide_eq_false (by rw [ay];simp)
    rw [xo,DH];rfl) (by simp;omega)
  rw [xn,bF hi,cond_true,Kx az h.right (by omega),Option.bind_some,arv,mw,oJ,mu,ad,an8 (VV c)]
  rfl) (fun k=>by rw [xn,bE];rfl) (by omega)
end
end J
namespace J
def wd (W:List Int) (i:Nat):Int:=(W[i]?).getD 0
def kL (k:aP) (t:Int):List Field:=(k.Fields[(t - 3).toNat]?).getD []
def gr (k:aP) (t:Int):Bool:=decide (1 <=t) && decide (t<= 2 +k.a4.length)
def isLen (k:aP) (t n:Int):Bool:=decide (0 <=n) && decide (n<= 500) && (decide (t < 3) || decide (n=(kL k t).length))
def eN (k:aP) (t:Int) (j:Nat):Bool:=decide (t= 2) || (decide (3 <=t) && ((kL k t)[j]?.map fun f=>!decide (f.Kind.Kind= 1)).getD false)
structure fF (k:aP):Prop where
 gG:k.a4.length<= 1000
 lX:k.Fields.length=k.a4.length
theorem gp {W:List Int} {i:Nat} (h:i <W.length):idx W (i:Int)=some (wd W i):=by
 rw [bm (List.getElem?_eq_getElem h)];unfold wd;rw [List.getElem?_eq_getElem h];rfl
theorem m4 {W:List Int} {a:Int} {i:Nat} (e:a=(i:Int)) (h:i <W.length):idx W a=some (wd W i):=by rw [e];exact gp h
theorem aq7 {k:aP} {t:Int}:gr k t=true ↔ 1 <=t/\t<= 2 +k.a4.length:=by simp [gr]
theorem m5 {k:aP} {t n:Int}:isLen k t n=true ↔ (0 <=n/\n<= 500)/\(t < 3 \/n=(kL k t).length):=by simp [isLen]
section
variable {k:aP}
theorem ab5 (h:fF k) (t:Int):st ⟨k⟩ t=some (gr k t):=by
 have hc:=h.gG
 unfold st mW gr
 have e:aE (aE (3 +(k.a4.length:Int)) - 1)= 2 +k.a4.length:=by rw [cE (n:=3 +(k.a4.length:Int)) (by omega) (by omega),cE (by omega) (by omega)];omega
 simp only [e,Option.bind_some]
 by_cases I:t= 1
 · subst I;simp;omega
 by_cases aa:t= 2
 · subst aa;simp;omega
 rw [show ((decide (t= 1)) || (decide (t= 2)))=false by simp [I,aa],cond_false,Option.some.injEq,Bool.eq_iff_iff]
 simp;omega
theorem Kq (h:fF k) {t:Int} (aJ:gr k t=true) (aq: ¬ t < 3):idx k.Fields (aE (t - 3))=some (kL k t):=by
 obtain ⟨I,aa⟩:=aq7.1 aJ
 have hc:=h.gG;have af:=h.lX
 rw [cE (by omega) (by omega)]
 unfold idx kL
 rw [if_pos (by omega)]
 have:(t - 3).toNat <k.Fields.length:=by omega
 rw [List.getElem?_eq_getElem this];rfl
theorem ab6 (h:fF k) {t:Int} (aJ:gr k t=true) (n:Int):su ⟨k⟩ t n=some (isLen k t n):=by
 unfold su mW isLen
 simp only [Option.bind_some]
 cases ah:(decide (0 <=n) && decide (n<= 500)) with
 | false=>simp
 | true=>
   by_cases aq:t < 3
   · simp [aq]
   · rw [Kq h aJ aq];simp [aq]
theorem ab7 (h:fF k) {t:Int} (aJ:gr k t=true) {n:Int} (aA:isLen k t n=true) {j:Nat} (aC:(j:Int) <n):uY ⟨k⟩ t (j:Int)=some (eN k t j):=by
 unfold uY eN
 obtain ⟨_,ak⟩:=m5.1 aA
 by_cases aa:t= 2
 · simp [aa]
 by_cases aq:t < 3
 · have: ¬ 3 <=t:=by omega
   simp [aa,this]
 · have ak:=ak.resolve_left aq
   have OA:3 <=t:=by omega
   have l7:j <(kL k t).length:=by omega
   rw [Kq h aJ aq,Option.bind_some,bm (List.getElem?_eq_getElem l7),List.getElem?_eq_getElem l7]
   simp [aa,OA]
inductive eX (k:aP) (W:List Int) (to:Nat):Nat->List Int->Prop
 | nil:eX k W to to []
 | cons {q:Nat} {r:List Int}:gr k (wd W q)=true->isLen k (wd W q) (wd W (q+ 1))=true->q+ 3 +(wd W (q+ 1)).toNat<=to->eX k W to (q+ 3 +(wd W (q+ 1)).toNat) r->eX k W to q ((q:Int)::r)
theorem eX.inv {W:List Int} {to q:Nat} {L:List Int} (h:eX k W to q L) (aQ:q <to):∃ r,L=(q:Int)::r/\gr k (wd W q)=true/\isLen k (wd W q) (wd W (q+ 1))=true/\q+ 3 +(wd W (q+ 1)).toNat<=to/\eX k W to (q+ 3 +(wd W (q+ 1)).toNat) r:=by
 cases h with
 | nil=>omega
 | cons I aa aq a'=>exact ⟨_,rfl,I,aa,aq,a'⟩
theorem axN (v:bc) (ao:fF v.S.K) {to:Nat} (fX:to<=v.H.Words.length) (fJ:v.H.Words.length<= 5000):∀ (f q:Nat) (acc:List Int) (m:List (Int × Bool)),q<=to->to - q <f->acc.length+(to - q)<= 5000 ->(∀ p ∈ m,p.1 <(q:Int)) ->
 (∃ L,eX v.S.K v.H.Words to q L/\mV (to:Int) v f acc m (q:Int)=some (.go (acc++L,m++L.map fun a=>(a,true)))) \/
 ((∀ L,¬ eX v.S.K v.H.Words to q L)/\ ∃ eI,mV (to:Int) v f acc m (q:Int)=some (.out ([],false,{ v with dM:=eI }))):=by
 intro f
 induction f with
 | zero=>intro q acc m _ h;omega
 | succ f ba=>
   intro q acc m aQ af sl hm
   rw [mV]
   by_cases bs:q <to
   case neg=>
    have:q=to:=by omega
    subst this
    refine .inl ⟨[],.nil,?_⟩
    rw [bE];simp
   rw [bF bs,cond_true,cE (n:=(q:Int)+ 3) (by omega) (by omega)]
   by_cases aq:(to:Int) <(q:Int)+ 3
   · rw [decide_eq_true aq]
     refine .inr ⟨fun L dK=>?_,m,rfl⟩
     obtain ⟨_,_,_,_,h,_⟩:=dK.inv bs
     omega
   rw [decide_eq_false aq,cond_false,gp (by omega),Option.bind_some,cE (n:=(q:Int)+ 1) (by omega) (by omega),m4 (i:=q+ 1) (by omega) (by omega),Option.bind_some]
   have e1:st (⟨(⟨v.S.K.a4,v.S.K.a0,v.S.K.Fields,v.S.K.Names,v.S.K.a1⟩:aP)⟩:cb) (wd v.H.Words q)=some (gr v.S.K (wd v.H.Words q)):=ab5 ao _
   rw [e1,Option.bind_some]
   cases aJ:gr v.S.K (wd v.H.Words q) with
   | false=>
     refine .inr ⟨fun L dK=>?_,m,rfl⟩
     obtain ⟨_,_,h,_⟩:=dK.inv bs
     rw [aJ] at h;cases h
   | true=>
     have e2:su (⟨(⟨v.S.K.a4,v.S.K.a0,v.S.K.Fields,v.S.K.Names,v.S.K.a1⟩:aP)⟩:cb) (wd v.H.Words q) (wd v.H.Words (q+ 1))=some (isLen v.S.K (wd v.H.Words q) (wd v.H.Words (q+ 1))):=ab6 ao aJ _
     rw [e2,Option.bind_some,Bool.not_true,cond_false]
     cases ak:isLen v.S.K (wd v.H.Words q) (wd v.H.Words (q+ 1)) with
     | false=>
       refine .inr ⟨fun L dK=>?_,m,rfl⟩
       obtain ⟨_,_,_,h,_⟩:=dK.inv bs
       rw [ak] at h;cases h
     | true=>
       obtain ⟨⟨qX,l1⟩,_⟩:=m5.1 ak
       rw [Bool.not_true,Bool.false_or,cE (n:=(q:Int)+ 3 +wd v.H.Words (q+ 1)) (by omega) (by omega)]
       by_cases DK:(to:Int) <(q:Int)+ 3 +wd v.H.Words (q+ 1)
       · rw [decide_eq_true DK]
         refine .inr ⟨fun L dK=>?_,m,rfl⟩
         obtain ⟨_,_,_,_,h,_⟩:=dK.inv bs
         omega
       rw [decide_eq_false DK,cond_false,hW (by simp;omega),Option.bind_some,cE (n:=3 +wd v.H.Words (q+ 1)) (by omega) (by omega),cE (n:=(q:Int)+(3 +wd v.H.Words (q+ 1))) (by omega) (by omega)]
       have D7:du m (q:Int)=none:=by
        clear ba e1 e2
        induction m with
        | nil=>rfl
        | cons p r ba=>
          have aD:=hm p List.mem_cons_self
          rw [du,if_neg (by omega)]
          exact ba (fun x ad=>hm x (List.mem_cons_of_mem _ ad))
       rw [Qz D7,show (q:Int)+(3 +wd v.H.Words (q+ 1))=((q+ 3 +(wd v.H.Words (q+ 1)).toNat:Nat):Int) by omega]
       rcases ba (q+ 3 +(wd v.H.Words (q+ 1)).toNat) (acc++[(q:Int)]) (m++[((q:Int),true)]) (by omega) (by omega) (by simp;omega) (fun p aD=>by
        rcases List.mem_append.1 aD with aD | aD
        · have:=hm p aD;omega
        · simp at aD;subst aD;simp;omega) with ⟨L,dK,e⟩ | ⟨aA,eI,e⟩
       · refine .inl ⟨(q:Int)::L,.cons aJ ak (by omega) dK,?_⟩
         rw [e];simp
       · refine .inr ⟨fun L dK=>?_,eI,e⟩
         obtain ⟨r,_,_,_,_,h⟩:=dK.inv bs
         exact aA r h
theorem acm {F:Nat} (az:6000 <F) (v:bc) (ao:fF v.S.K) {q to:Nat} (aQ:q<=to) (fX:to<=v.H.Words.length) (fJ:v.H.Words.length<= 5000) (hm:∀ p ∈ v.dM,p.1 <(q:Int)) :
 (∃ L,eX v.S.K v.H.Words to q L/\k4 F v (q:Int) (to:Int)=some (L,true,{ v with dM:=v.dM++L.map fun a=>(a,true) })) \/
 ((∀ L,¬ eX v.S.K v.H.Words to q L)/\ ∃ eI,k4 F v (q:Int) (to:Int)=some ([],false,{ v with dM:=eI })):=by
 unfold k4
 rcases axN v ao fX fJ F q [] v.dM aQ (by omega) (by simp;omega) hm with ⟨L,dK,e⟩ | ⟨aA,eI,e⟩
 · exact .inl ⟨L,dK,by rw [e,oI];simp⟩
 · exact .inr ⟨aA,eI,by rw [e,ab2]⟩
end
end J
namespace J
def refs (k:aP) (W:List Int) (q:Nat):List Int:=(List.range (wd W (q+ 1)).toNat).flatMap fun j=>if eN k (wd W q) j then [((q+ 3 +j:Nat):Int)] else []
theorem Bv {k:aP} {W:List Int} {q:Nat} {x:Int}:x ∈ refs k W q ↔ ∃ j,j <(wd W (q+ 1)).toNat/\eN k (wd W q) j=true/\x=((q+ 3 +j:Nat):Int):=by
 unfold refs
 rw [List.mem_flatMap]
 constructor
 · rintro ⟨j,aC,ad⟩
   split at ad
   · rename_i h;exact ⟨j,by simpa using aC,h,by simpa using ad⟩
   · cases ad
 · rintro ⟨j,aC,h,e⟩
   exact ⟨j,by simpa using aC,by rw [if_pos h,e];simp⟩
section
variable {F:Nat} {k:aP}
theorem awU (az:6000 <F) (v:bc) (ao:fF v.S.K) {q:Nat} (aQ:q+ 3 +(wd v.H.Words (q+ 1)).toNat<=v.H.Words.length) (fJ:v.H.Words.length<= 5000) (aJ:gr v.S.K (wd v.H.Words q)=true) (ak:isLen v.S.K (wd v.H.Words q) (wd v.H.Words (q+ 1))=true) :
 n7 F v (q:Int)=some (refs v.S.K v.H.Words q):=by
 obtain ⟨⟨qX,l1⟩,_⟩:=m5.1 ak
 unfold n7
 rw [cE (n:=(q:Int)+ 1) (by omega) (by omega),m4 (i:=q+ 1) (by omega) (by omega),Option.bind_some]
 generalize aA:(wd v.H.Words (q+ 1)).toNat=n at aQ
 have Db:wd v.H.Words (q+ 1)=(n:Int):=by omega
 have mZ:=ak
 rw [Db] at mZ ⊢
 have l1:=r2 (l:=List.range n) (fun k acc i=>sv (q:Int) v (n:Int) k acc (i:Int)) (fun j=>if eN v.S.K (wd v.H.Words q) j then [((q+ 3 +j:Nat):Int)] else []) 1 5000 (fun x _=>by split <;> simp) (fun f i x acc ad aK=>by
  have hi:i <n:=by have:=(List.getElem?_eq_some_iff.1 ad).1;simpa using this
  rw [List.getElem?_range hi] at ad
  simp only [Option.some.injEq] at ad
  subst ad
  rw [sv,bF hi,cond_true,gp (by omega),Option.bind_some]
  have e1:uY (⟨(⟨v.S.K.a4,v.S.K.a0,v.S.K.Fields,v.S.K.Names,v.S.K.a1⟩:aP)⟩:cb) (wd v.H.Words q) (i:Int)=some (eN v.S.K (wd v.H.Words q) i):=ab7 ao aJ mZ (by omega)
  rw [e1,Option.bind_some]
  show _=sv (q:Int) v (n:Int) f _ _
  cases eN v.S.K (wd v.H.Words q) i with
  | true=>
    rw [cond_true,cE (n:=(q:Int)+ 3) (by omega) (by omega),cE (n:=(q:Int)+ 3 +i) (by omega) (by omega),hW (by simp;omega),Option.bind_some,Option.bind_some,eK hi (by omega),if_pos rfl]
    congr 2
  | false=>
    rw [cond_false,Option.bind_some,eK hi (by omega),if_neg (by decide),List.append_nil]) (fun f acc=>by
  rw [List.length_range,sv,bE];rfl) (F:=F) (by simp;omega) (acc:=[]) (by simp;omega)
 have l1:sv (q:Int) v (n:Int) F [] 0 =_:=l1
 rw [l1,Option.bind_some,List.nil_append,refs,aA]
theorem VY (az:10000 <F) {ls:List (List Int)} (I:ls.length<= 10) (aa:ls.flatten.length<= 10000):B8 F ls=some ls.flatten:=by
 unfold B8
 have arj:∀ (d i f:Nat) (n:Int),i+d=ls.length->d <f-> 0 <=n->n+(ls.drop i).flatten.length<= 10000 ->tz ls f n (i:Int)=some (n+(ls.drop i).flatten.length):=by
  intro d
  induction d with
  | zero=>
    intro i f n h af aA _
    obtain ⟨f,rfl⟩:∃ bG,f=bG+ 1 :=⟨f - 1,by omega⟩
    have:i=ls.length:=by omega
    subst this
    rw [tz,bE];simp
  | succ d ba=>
    intro i f n h af aA ah
    obtain ⟨f,rfl⟩:∃ bG,f=bG+ 1 :=⟨f - 1,by omega⟩
    have hi:i <ls.length:=by omega
    rw [List.drop_eq_getElem_cons hi] at ah
    simp only [List.flatten_cons,List.length_append] at ah
    rw [tz,bF hi,cond_true,bm (List.getElem?_eq_getElem hi),Option.bind_some,cE (n:=n+((ls[i]).length:Int)) (by omega) (by omega),show decide (n+((ls[i]).length:Int) < 0)=false from decide_eq_false (by omega),cond_false,Option.bind_some,eK hi (by omega),ba (i+ 1) f _ (by omega) (by omega) (by omega) (by omega),List.drop_eq_getElem_cons hi]
    simp only [List.flatten_cons,List.length_append]
    congr 1;omega
 have bf:=arj ls.length 0 F 0 (by omega) (by omega) (by omega) (by simp at aa ⊢;omega)
 have bf:tz ls F 0 0 =some (0 +((ls.drop 0).flatten.length:Int)):=bf
 rw [bf,Option.bind_some,List.drop_zero,Int.zero_add]
 have bh:Kj (ls.flatten.length:Int)=some []:=by
  unfold Kj
  rw [show decide ((ls.flatten.length:Int) < 0)=false from decide_eq_false (by omega),cond_false,Option.bind_some,cE (n:=(ls.flatten.length:Int) - 0) (by omega) (by omega),Int.sub_zero]
  by_cases aN:(0 :Int) <(ls.flatten.length:Int)
  · rw [decide_eq_true aN,cond_true]
    unfold C0
    rw [if_pos ⟨aN,by omega⟩];rfl
  · rw [decide_eq_false aN];rfl
 rw [bh,Option.bind_some]
 have ark:∀ (d i f:Nat) (acc:List Int),i+d=ls.length->d <f->acc.length+(ls.drop i).flatten.length<= 10000 ->tA ls f acc (i:Int)=some (acc++(ls.drop i).flatten):=by
  intro d
  induction d with
  | zero=>
    intro i f n h af aA
    obtain ⟨f,rfl⟩:∃ bG,f=bG+ 1 :=⟨f - 1,by omega⟩
    have:i=ls.length:=by omega
    subst this
    rw [tA,bE];simp
  | succ d ba=>
    intro i f acc h af ah
    obtain ⟨f,rfl⟩:∃ bG,f=bG+ 1 :=⟨f - 1,by omega⟩
    have hi:i <ls.length:=by omega
    rw [List.drop_eq_getElem_cons hi] at ah
    simp only [List.flatten_cons,List.length_append] at ah
    rw [tA,bF hi,cond_true,bm (List.getElem?_eq_getElem hi),Option.bind_some,hW (by omega),Option.bind_some,eK hi (by omega),ba (i+ 1) f _ (by omega) (by omega) (by simp only [List.length_append];omega),List.drop_eq_getElem_cons hi,List.flatten_cons,List.append_assoc]
 have bh:=ark ls.length 0 F [] (by omega) (by omega) (by simp at aa ⊢;omega)
 have bh:tA ls F [] 0 =some ([]++(ls.drop 0).flatten):=bh
 rw [bh];simp
theorem all_eq (az:10000 <F) (v:bc) (h:v.ar.length+v.aO.length<= 10000):uZ F v=some (v.ar++v.aO):=by
 unfold uZ
 rw [VY az (by simp) (by simp;omega)]
 simp
def ao (W:List Int) (a:Int):Int:=wd W (a.toNat+ 2)
def v8 (l:List Int) (m:List (Int × Bool)):List (Int × Bool):=l.foldl (fun m x=>hA m x true) m
theorem aa4:∀ (l:List Int) (m:List (Int × Bool)),(v8 l m).length<=m.length+l.length/\((v8 l m).length=m.length+l.length ↔ l.Nodup/\ ∀ x ∈ l,(du m x).isSome=false)
 | [],m=>by simp [v8]
 | x::r,m=>by
   have ba:=aa4 r (hA m x true)
   have e:v8 (x::r) m=v8 r (hA m x true):=rfl
   rw [e]
   have ak:=I8 (k:=x) (v:=true) m
   rw [List.length_cons]
   cases ad:(du m x).isSome with
   | true=>
     rw [ad,if_pos rfl] at ak
     rw [ak] at ba
     refine ⟨by omega,⟨fun h=>by omega,fun h=>?_⟩⟩
     have:=h.2 x List.mem_cons_self
     rw [ad] at this;cases this
   | false=>
     rw [ad,if_neg (by decide)] at ak
     rw [ak] at ba
     refine ⟨by omega,?_⟩
     rw [show m.length+(r.length+ 1)=m.length+ 1 +r.length by omega,ba.2,List.nodup_cons]
     constructor
     · rintro ⟨I,aa⟩
       refine ⟨⟨fun hm=>?_,I⟩,fun y hy=>?_⟩
       · have:=aa x hm
         have aq:=(EL (k:=x) (s:=x) (v:=true) m).2 (.inl rfl)
         rw [this] at aq;cases aq
       · rcases List.mem_cons.1 hy with rfl | hy
         · exact ad
         · cases aj:(du m y).isSome with
           | false=>rfl
           | true=>
             have aq:=(EL (k:=x) (s:=y) (v:=true) m).2 (.inr aj)
             rw [aa y hy] at aq;cases aq
     · rintro ⟨⟨I,aa⟩,aq⟩
       refine ⟨aa,fun y hy=>?_⟩
       cases aj:(du (hA m x true) y).isSome with
       | false=>rfl
       | true=>
         rcases (EL (k:=x) (s:=y) (v:=true) m).1 aj with e | e
         · subst e;exact absurd hy I
         · rw [aq y (List.mem_cons_of_mem _ hy)] at e;cases e
def ks (v:bc) (a:Int):Bool:=decide (ao v.H.Words a < 1) || decide (v.H.Next<=ao v.H.Words a)
theorem aoQ (v:bc) (r:List Int) (ay:r.length<= 10000) (ah:∀ a ∈ r,0 <=a/\a.toNat+ 3 <=v.H.Words.length) (fJ:v.H.Words.length<= 5000):∀ (d i f:Nat) (m:List (Int × Bool)),i+d=r.length->d <f ->
 sw v r f m (i:Int)=if (r.drop i).any (ks v) then some (.out 3) else some (.go (v8 ((r.drop i).map (ao v.H.Words)) m)):=by
 intro d
 induction d with
 | zero=>
   intro i f m h af
   obtain ⟨f,rfl⟩:∃ bG,f=bG+ 1 :=⟨f - 1,by omega⟩
   have:i=r.length:=by omega
   subst this
   rw [sw,bE];simp [v8]
 | succ d ba=>
   intro i f m h af
   obtain ⟨f,rfl⟩:∃ bG,f=bG+ 1 :=⟨f - 1,by omega⟩
   have hi:i <r.length:=by omega
   obtain ⟨aN,I⟩:=ah r[i] (List.getElem_mem hi)
   rw [sw,bF hi,cond_true,bm (List.getElem?_eq_getElem hi),Option.bind_some,cE (n:=r[i]+ 2) (by omega) (by omega),m4 (i:=(r[i]).toNat+ 2) (by omega) (by omega),Option.bind_some,List.drop_eq_getElem_cons hi,List.any_cons]
   show cond (ks v r[i]) _ _=_
   cases ks v r[i] with
   | true=>rfl
   | false=>
     rw [cond_false,eK hi (by omega),ba (i+ 1) f _ (by omega) (by omega),Bool.false_or]
     rfl
theorem aoP (az:10000 <F) (v:bc) (h:v.ar.length+v.aO.length<= 5000) (ah:∀ a ∈ v.ar++v.aO,0 <=a/\a.toNat+ 3 <=v.H.Words.length) (fJ:v.H.Words.length<= 5000) (YJ:v.dM.length=(v.ar++v.aO).length) :
 A6 F v=some (if (v.ar++v.aO).any (ks v) then 3 else if ((v.ar++v.aO).map (ao v.H.Words)).Nodup then 0 else 6):=by
 unfold A6
 have e:uZ F (⟨(⟨v.H.Words,v.H.ar,v.H.aO,v.H.aZ,v.H.aU,v.H.aS,v.H.Next⟩:aV),(⟨(⟨v.S.K.a4,v.S.K.a0,v.S.K.Fields,v.S.K.Names,v.S.K.a1⟩:aP)⟩:cb),v.ar,v.aO,v.dM⟩:bc)=some (v.ar++v.aO):=all_eq az v (by omega)
 rw [e,Option.bind_some]
 have l1:=aoQ v (v.ar++v.aO) (by simp;omega) ah fJ (v.ar++v.aO).length 0 F [] (by omega) (by simp;omega)
 have l1:sw v (v.ar++v.aO) F [] 0 =_:=l1
 rw [l1,List.drop_zero]
 cases (v.ar++v.aO).any (ks v) with
 | true=>rfl
 | false=>
   rw [if_neg (by decide),if_neg (by decide),oI]
   obtain ⟨dN,f'⟩:=aa4 ((v.ar++v.aO).map (ao v.H.Words)) []
   rw [List.length_map,List.length_nil,Nat.zero_add] at dN f'
   by_cases aA:((v.ar++v.aO).map (ao v.H.Words)).Nodup
   · rw [if_pos aA]
     have:=f'.2 ⟨aA,fun _ _=>rfl⟩
     rw [decide_eq_false (by rw [this,YJ];omega)];rfl
   · rw [if_neg aA]
     have:(v8 ((v.ar++v.aO).map (ao v.H.Words)) []).length≠(v.ar++v.aO).length:=fun e=>aA (f'.1 e).1
     rw [decide_eq_true (by rw [YJ];omega)];rfl
end
end J
namespace J
def ur (l:List Int):Prop:=∀ a b,a <b->b <l.length->wd l a <wd l b
theorem S7 {l:List Int} (h:∀ i,i+ 1 <l.length->wd l i <wd l (i+ 1)):ur l:=by
 intro a b DE
 induction b with
 | zero=>omega
 | succ b ba=>
   intro ah
   by_cases e:a=b
   · subst e;exact h a ah
   · exact Int.lt_trans (ba (by omega) (by omega)) (h b ah)
theorem Tm {l:List Int} {i:Nat} (h:i <l.length):wd l i ∈ l:=by unfold wd;rw [List.getElem?_eq_getElem h];exact List.getElem_mem h
theorem lx {l:List Int} {i:Nat} {x:Int} (h:l[i]? =some x):wd l i=x:=by unfold wd;rw [h];rfl
theorem Qv {l:List Int} {x:Int} (h:x ∈ l):∃ i,i <l.length/\wd l i=x:=by
 obtain ⟨i,hi,e⟩:=List.getElem_of_mem h
 exact ⟨i,hi,lx (by rw [List.getElem?_eq_getElem hi,e])⟩
theorem aaU {α:Type} {p:α->Bool}:∀ {l:List α},(ei p l).isSome=l.any p
 | []=>rfl
 | x::r=>by
   rw [ei,List.any_cons]
   cases h:p x with
   | true=>rfl
   | false=>simp only [Bool.false_eq_true,if_false,Bool.false_or];rw [<-aaU (l:=r)];cases ei p r <;> rfl
theorem Nh {α:Type} {l:List α} {L:Nat->Int->Option (Way Int Unit)} (p:α->Bool) (ak:l.length<= 140737488355328)
 (ao:∀ k (i:Nat) x,l[i]? =some x->L (k+ 1) (i:Int)=cond (p x) (some (.out (i:Int))) (L k (aE ((i:Int)+ 1))))
 (he:∀ k,L (k+ 1) (l.length:Int)=some (.go ())) {F:Nat} (az:l.length <F):((cd (α:=Unit) (L F 0) fun (_:Unit)=>some (-1)).bind fun r=>some (decide ((0 :Int)<=r)))=some (l.any p):=by
 rw [Ni p (fun n:Nat=>(n:Int)) ak ao he az,<-aaU]
 cases ei p l with
 | none=>rfl
 | some i=>
   show some (decide ((0 :Int)<=(i:Int)))=_
   rw [decide_eq_true (by omega)];rfl
section
variable {F:Nat}
theorem axz {l:List Int} (ak:l.length<= 10000) (t:Int):∀ (f i j:Nat),i<=j->j<=l.length->j - i <f->(∀ a,a <i->wd l a <t)->(∀ a,j<=a->a <l.length->t<=wd l a)->ur l ->
 ∃ p:Nat,ru t l f (i:Int) (j:Int)=some (p:Int)/\p<=l.length/\(∀ a,a <p->wd l a <t)/\(∀ a,p<=a->a <l.length->t<=wd l a):=by
 intro f
 induction f with
 | zero=>intro i j _ _ h;omega
 | succ f ba=>
   intro i j yv aC af I aa ao
   rw [ru]
   by_cases h:i <j
   case neg=>
    have:i=j:=by omega
    subst this
    rw [bE]
    exact ⟨i,rfl,aC,I,aa⟩
   have em:aE (tx (Cj (aE ((i:Int)+(j:Int)))) 1)=(((i+j) / 2 :Nat):Int):=by
    rw [cE (n:=(i:Int)+j) (by omega) (by omega)]
    unfold Cj tx
    rw [cE (by omega) (by omega)]
    omega
   have hm:(i+j) / 2 <j:=by omega
   have dV:i<=(i+j) / 2 :=by omega
   rw [bF h,cond_true,em,gp (by omega),Option.bind_some]
   unfold Hg Hh
   rw [Option.bind_some,show (!decide (wd l ((i+j) / 2)=wd l ((i+j) / 2)))=false by simp,cond_false,Option.bind_some]
   by_cases hc:wd l ((i+j) / 2) <t
   · rw [decide_eq_true hc,cond_true,Option.bind_some]
     show ∃ p:Nat,ru t l f (aE ((((i+j) / 2 :Nat):Int)+ 1)) (j:Int)=_/\_
     rw [cE (n:=(((i+j) / 2 :Nat):Int)+ 1) (by omega) (by omega),show (((i+j) / 2 :Nat):Int)+ 1 =(((i+j) / 2 + 1 :Nat):Int) by omega]
     refine ba ((i+j) / 2 + 1) j (by omega) aC (by omega) (fun a aK=>?_) aa ao
     by_cases e:a=(i+j) / 2
     · subst e;exact hc
     · exact Int.lt_trans (ao a ((i+j) / 2) (by omega) (by omega)) hc
   · rw [decide_eq_false hc,cond_false,Option.bind_some]
     show ∃ p:Nat,ru t l f (i:Int) (((i+j) / 2 :Nat):Int)=_/\_
     refine ba i ((i+j) / 2) (by omega) (by omega) (by omega) I (fun a aK ah=>?_) ao
     by_cases e:a=(i+j) / 2
     · subst e;omega
     · have:=ao ((i+j) / 2) a (by omega) ah
       omega
theorem axy (az:10000 <F) {l:List Int} (ak:l.length<= 10000) (ao:ur l) (t:Int) :
 ∃ p:Nat,Fw F l t=some ((p:Int),decide (t ∈ l))/\p<=l.length/\(∀ a,a <p->wd l a <t)/\(∀ a,p<=a->a <l.length->t<=wd l a):=by
 obtain ⟨p,e,aD,I,aa⟩:=axz ak t F 0 l.length (by omega) (Nat.le_refl _) (by omega) (fun a aK=>by omega) (fun a aK ah=>by omega) ao
 refine ⟨p,?_,aD,I,aa⟩
 unfold Fw
 have e:ru t l F 0 (l.length:Int)=some (p:Int):=e
 rw [e,Option.bind_some]
 by_cases bs:p <l.length
 · rw [bF bs,cond_true,gp bs,Option.bind_some]
   by_cases aJ:wd l p=t
   · rw [decide_eq_true aJ,cond_true,decide_eq_true (aJ ▸ Tm bs)]
   · have aA: ¬ t ∈ l:=fun hm=>by
      obtain ⟨a,aK,Hp⟩:=Qv hm
      by_cases sn:a <p
      · have:=I a sn;omega
      · have aq:=aa p (Nat.le_refl _) bs
        by_cases e:a=p
        · subst e;exact aJ Hp
        · have:=ao p a (by omega) aK;omega
     rw [decide_eq_false aJ,cond_false,Option.bind_some,decide_eq_false aA]
     unfold Kn
     rw [Option.bind_some,show (!decide (wd l p=wd l p))=false by simp,cond_false]
 · have:p=l.length:=by omega
   subst this
   have aA: ¬ t ∈ l:=fun hm=>by
    obtain ⟨a,aK,Hp⟩:=Qv hm
    have:=I a aK;omega
   rw [bE,cond_false,decide_eq_false aA]
structure o4 (v:bc) (a:Int):Prop where
 pos:0 <=a
 fit:a.toNat+ 3 +(wd v.H.Words (a.toNat+ 1)).toNat<=v.H.Words.length
 tag:gr v.S.K (wd v.H.Words a.toNat)=true
 len:isLen v.S.K (wd v.H.Words a.toNat) (wd v.H.Words (a.toNat+ 1))=true
structure mK (v:bc):Prop where
 jJ:fF v.S.K
 hE:v.H.Words.length<= 4900
 pa:v.ar.length+v.aO.length<= 5000
 p4:∀ a ∈ v.ar++v.aO,o4 v a
 dM:∀ x,(du v.dM x).getD false=decide (x ∈ v.ar++v.aO)
theorem o4.SK {v:bc} {a:Int} (ag:mK v) (h:o4 v a) (az:6000 <F):n7 F v a=some (refs v.S.K v.H.Words a.toNat):=by
 have:=awU az v ag.jJ h.fit (by have:=ag.hE;omega) h.tag h.len
 rwa [show ((a.toNat:Nat):Int)=a by have:=h.pos;omega] at this
theorem o4.JZ {v:bc} {a w:Int} (h:o4 v a) (hw:w ∈ refs v.S.K v.H.Words a.toNat):idx v.H.Words w=some (wd v.H.Words w.toNat):=by
 obtain ⟨j,aC,_,e⟩:=Bv.1 hw
 have:=h.fit
 subst e
 exact gp (by omega)
theorem J0 {v:bc} {a:Int} (ag:mK v) (h:o4 v a):(refs v.S.K v.H.Words a.toNat).length<= 5000 :=by
 have:(refs v.S.K v.H.Words a.toNat).length<= 1 *(List.range (wd v.H.Words (a.toNat+ 1)).toNat).length:=uP fun x _=>by split <;> simp
 have I:=h.fit;have aa:=ag.hE
 rw [List.length_range] at this
 omega
def rB (v:bc) (w:Int):Bool:=!decide (wd v.H.Words w.toNat= 0) && !decide (wd v.H.Words w.toNat ∈ v.ar++v.aO)
def mo (v:bc) (a:Int):Bool:=(refs v.S.K v.H.Words a.toNat).any (rB v)
def free (h:aV):List Int:=h.Words.take 1 ++((h.Words.take (h.ar+ 1).toNat).drop h.aZ.toNat++h.Words.drop h.aU.toNat)
theorem lZ {α:Type} {p:α->Bool} {e:Int}:∀ l:List α,l.findSome? (fun x=>if p x then some e else none)=if l.any p then some e else none
 | []=>rfl
 | x::r=>by
   rw [List.findSome?_cons,List.any_cons]
   cases p x with
   | true=>rfl
   | false=>simp only [Bool.false_eq_true,if_false,Bool.false_or];exact lZ r
theorem ayn (az:10000 <F) {v:bc} (ag:mK v) (aN:0 <=v.H.ar) (I:0 <=v.H.aZ/\v.H.aZ<=v.H.ar+ 1 /\v.H.ar+ 1 <=v.H.Words.length) (aa:0 <=v.H.aU/\v.H.aU<=v.H.Words.length) :
 A8 F v=some (if (v.ar++v.aO).any (mo v) then 5 else if (free v.H).any (fun x=>!decide (x= 0)) then 1 else 0):=by
 have hc:=ag.pa;have hw:=ag.hE
 unfold A8
 have e:uZ F (⟨(⟨v.H.Words,v.H.ar,v.H.aO,v.H.aZ,v.H.aU,v.H.aS,v.H.Next⟩:aV),(⟨(⟨v.S.K.a4,v.S.K.a0,v.S.K.Fields,v.S.K.Names,v.S.K.a1⟩:aP)⟩:cb),v.ar,v.aO,v.dM⟩:bc)=some (v.ar++v.aO):=all_eq az v (by omega)
 rw [e,Option.bind_some]
 have l1:u0 F v (v.ar++v.aO) F 0 =some (cn ((v.ar++v.aO).findSome? fun a=>if mo v a then some 5 else none)):=each _ (by simp;omega) (fun f i a aK=>by
  have hm:=List.mem_of_getElem? aK
  have aJ:=ag.p4 a hm
  rw [u0,bF (List.getElem?_eq_some_iff.1 aK).1,cond_true,bm aK,Option.bind_some]
  have e2:n7 F (⟨(⟨v.H.Words,v.H.ar,v.H.aO,v.H.aZ,v.H.aU,v.H.aS,v.H.Next⟩:aV),(⟨(⟨v.S.K.a4,v.S.K.a0,v.S.K.Fields,v.S.K.Names,v.S.K.a1⟩:aP)⟩:cb),v.ar,v.aO,v.dM⟩:bc) a=some (refs v.S.K v.H.Words a.toNat):=aJ.SK ag (by omega)
  have Ir:=J0 ag aJ
  rw [e2,Option.bind_some]
  have cj:sy v (refs v.S.K v.H.Words a.toNat) F 0 =some (cn ((refs v.S.K v.H.Words a.toNat).findSome? fun w=>if rB v w then some 5 else none)):=each _ (by omega) (fun bG i' w fY=>by
   have dV:=List.mem_of_getElem? fY
   rw [sy,bF (List.getElem?_eq_some_iff.1 fY).1,cond_true,bm fY,Option.bind_some,aJ.JZ dV,Option.bind_some,ag.dM]
   unfold rB
   cases decide (wd v.H.Words w.toNat= 0) <;> cases decide (wd v.H.Words w.toNat ∈ v.ar++v.aO) <;> rfl) (fun bG=>by rw [sy,bE];rfl) (by omega)
  rw [cj,lZ]
  show _=gy (if (refs v.S.K v.H.Words a.toNat).any (rB v) then some 5 else none) _
  cases (refs v.S.K v.H.Words a.toNat).any (rB v) <;> rfl) (fun f=>by rw [u0,bE];rfl) (by simp;omega)
 rw [l1,lZ]
 cases (v.ar++v.aO).any (mo v) with
 | true=>rfl
 | false=>
   simp only [Bool.false_eq_true,if_false,cn,oI]
   have c1:cut v.H.Words 0 1 =some (v.H.Words.take 1):=by
    unfold cut;rw [if_pos ⟨by omega,by omega,by omega⟩];rfl
   have c2:cut v.H.Words v.H.aZ (aE (v.H.ar+ 1))=some ((v.H.Words.take (v.H.ar+ 1).toNat).drop v.H.aZ.toNat):=by
    rw [cE (by omega) (by omega)]
    unfold cut;rw [if_pos ⟨by omega,by omega,by omega⟩]
   have c3:cut v.H.Words v.H.aU (v.H.Words.length:Int)=some (v.H.Words.drop v.H.aU.toNat):=by
    unfold cut;rw [if_pos ⟨by omega,by omega,by omega⟩,Int.toNat_natCast,List.take_length]
   have YB:(free v.H).length<= 10000 :=by unfold free;simp;omega
   rw [c1,c2,c3,Option.bind_some,Option.bind_some,Option.bind_some,VY az (by simp) (by simp;omega),Option.bind_some]
   have am3:[v.H.Words.take 1,(v.H.Words.take (v.H.ar+ 1).toNat).drop v.H.aZ.toNat,v.H.Words.drop v.H.aU.toNat].flatten=free v.H:=by simp [free]
   rw [am3]
   unfold Kh Kl
   rw [Nh (l:=free v.H) (L:=wo (free v.H)) (fun x=>!decide (x= 0)) (by omega) (fun f i x ad=>by
    rw [wo,bF (List.getElem?_eq_some_iff.1 ad).1,cond_true,bm ad,Option.bind_some]
    rfl) (fun f=>by rw [wo,bE];rfl) (by omega),Option.bind_some]
   cases (free v.H).any (fun x=>!decide (x= 0)) <;> rfl
def jo (v:bc) (x:Int):Bool:=decide (0 <x) && decide (x<=v.H.ar)
def pR (v:bc) (x:Int):Bool:=!decide (x ∈ v.ar++v.aO) || jo v x || (refs v.S.K v.H.Words x.toNat).isEmpty
def gW (v:bc) (i:Nat):Bool:=(decide (0 <i) && decide (wd v.H.aS i<=wd v.H.aS (i - 1))) || pR v (wd v.H.aS i)
def nG (v:bc) (x:Int):Bool:=!decide (x ∈ v.H.aS) && (refs v.S.K v.H.Words x.toNat).any fun w=>jo v (wd v.H.Words w.toNat)
theorem atP (az:10000 <F) {v:bc} (ag:mK v) (x:Int) (Y:Option (Way Int Unit)):(cond (!((du v.dM x).getD false)) (some (.out 4)) ((A5 v x).bind fun Sj=>
 cond (Sj) (some (.out 4)) ((n7 F v x).bind fun Sk=>
 cond (decide ((Sk.length:Int)= 0)) (some (.out 4)) Y)))=gy (if pR v x then some 4 else none) Y:=by
 rw [ag.dM]
 unfold pR
 by_cases hm:x ∈ v.ar++v.aO
 · rw [decide_eq_true hm,(ag.p4 x hm).SK ag (by omega)]
   show cond (jo v x) _ ((some _).bind _)=_
   cases jo v x with
   | true=>rfl
   | false=>
     rw [cond_false,Option.bind_some]
     cases refs v.S.K v.H.Words x.toNat with
     | nil=>rfl
     | cons a r=>rw [decide_eq_false (by simp;omega)];rfl
 · rw [decide_eq_false hm];rfl
theorem atO (az:10000 <F) {v:bc} (ag:mK v) (aA:v.H.aS.length<= 140737488355328) (pw:v.H.aS.length <F) (aqm:(∀ i,i <v.H.aS.length->gW v i=false)->v.H.aS.length<= 10000) :
 A7 F v=some (if (List.range v.H.aS.length).any (gW v) || v.aO.any (nG v) then 4 else 0):=by
 have hc:=ag.pa;have hw:=ag.hE
 unfold A7
 have l1:qO F v F 0 =some (cn ((List.range v.H.aS.length).findSome? fun i=>if gW v i then some 4 else none)):=jA _ aA (fun f i hi=>by
  have ay:=atP az ag (wd v.H.aS i) (qO F v f (aE ((i:Int)+ 1)))
  rw [qO,bF hi,cond_true,gp hi,Option.bind_some]
  unfold gW
  by_cases aN:0 <i
  · rw [show decide ((0 :Int) <(i:Int))=true from decide_eq_true (by omega),cond_true,cE (n:=(i:Int) - 1) (by omega) (by omega),m4 (i:=i - 1) (by omega) (by omega),Option.bind_some,decide_eq_true aN,Bool.true_and]
    cases decide (wd v.H.aS i<=wd v.H.aS (i - 1)) with
    | true=>rfl
    | false=>exact ay
  · rw [show decide ((0 :Int) <(i:Int))=false from decide_eq_false (by omega),cond_false,decide_eq_false aN,Bool.false_and,Bool.false_or]
    exact ay) (fun f=>by rw [qO,bE];rfl) pw
 rw [l1,lZ]
 cases ah:(List.range v.H.aS.length).any (gW v) with
 | true=>rfl
 | false=>
   have iR:∀ i,i <v.H.aS.length->gW v i=false:=fun i hi=>by
    rw [List.any_eq_false] at ah
    simpa using ah i (by simpa using hi)
   have hlen:=aqm iR
   have aqo:ur v.H.aS:=S7 fun i hi=>by
    have:=iR (i+ 1) hi
    unfold gW at this
    simp only [Bool.or_eq_false_iff,Bool.and_eq_false_iff,decide_eq_false_iff_not,Nat.add_sub_cancel] at this
    rcases this.1 with h | h <;> omega
   simp only [Bool.false_eq_true,if_false,cn,oI,Bool.false_or]
   have cj:sx F v F 0 =some (cn (v.aO.findSome? fun x=>if nG v x then some 4 else none)):=each _ (by omega) (fun f i x ad=>by
    have hm:x ∈ v.ar++v.aO:=List.mem_append_right _ (List.mem_of_getElem? ad)
    have aJ:=ag.p4 x hm
    obtain ⟨p,aD,_⟩:=axy az hlen aqo x
    rw [sx,bF (List.getElem?_eq_some_iff.1 ad).1,cond_true,bm ad,Option.bind_some,aD,Option.bind_some]
    unfold nG
    by_cases gm:x ∈ v.H.aS
    · rw [decide_eq_true gm];rfl
    · rw [decide_eq_false gm]
      have e2:n7 F (⟨(⟨v.H.Words,v.H.ar,v.H.aO,v.H.aZ,v.H.aU,v.H.aS,v.H.Next⟩:aV),(⟨(⟨v.S.K.a4,v.S.K.a0,v.S.K.Fields,v.S.K.Names,v.S.K.a1⟩:aP)⟩:cb),v.ar,v.aO,v.dM⟩:bc) x=some (refs v.S.K v.H.Words x.toNat):=aJ.SK ag (by omega)
      have Ir:=J0 ag aJ
      simp only [Bool.not_false,cond_true,Bool.true_and]
      rw [e2,Option.bind_some]
      unfold Kg Kk
      rw [Nh (l:=refs v.S.K v.H.Words x.toNat) (L:=wm (refs v.S.K v.H.Words x.toNat) v) (fun w=>jo v (wd v.H.Words w.toNat)) (by omega) (fun bG i' w fY=>by
       rw [wm,bF (List.getElem?_eq_some_iff.1 fY).1,cond_true,bm fY,Option.bind_some]
       unfold H8
       rw [aJ.JZ (List.mem_of_getElem? fY)]
       rfl) (fun bG=>by rw [wm,bE];rfl) (by omega),Option.bind_some]
      cases (refs v.S.K v.H.Words x.toNat).any (fun w=>jo v (wd v.H.Words w.toNat)) <;> rfl) (fun f=>by rw [sx,bE];rfl) (by omega)
   rw [cj,lZ]
   cases v.aO.any (nG v) <;> rfl
end
end J
namespace J
def Ju:aP:=⟨[],[],[],[],[]⟩
def rows {β:Type} (f:Int->β) (i:Nat):List β:=(List.range i).map fun j:Nat=>f (j:Int)
theorem B2 {β:Type} (f:Int->β) (i:Nat):rows f (i+ 1)=rows f i++[f (i:Int)]:=by simp [rows,List.range_succ]
def linked (l:List al):aP:=⟨l,c' l,rows (e8 l) l.length,rows (fun i=>(gO l i).1) l.length,rows (fun i=>(gO l i).2) l.length⟩
def Ay (l:List al) (i:Nat):Option (aP × Int):=if 12 <(e8 l i).length\/ 16 <(gO l i).1.length then some (Ju,2) else none
section
variable {F:Nat} {l:List al}
theorem Vx (x y:Nat):((decide ((12 :Int) <(x:Int))) || (decide ((16 :Int) <(y:Int))))=decide (12 <x\/ 16 <y):=by
 rw [Bool.eq_iff_iff];simp;omega
theorem asD (az:1100 <F) (h:hl l) (rj pW:Int × bj) (Oz:rj.2.bY=eF 0 l) (Dt:pW.2.dh=c' l) :
 mh F l rj pW F [] [] [] 0 =some (zG ((List.range l.length).findSome? (Ay l)) (rows (fun i=>(gO l i).2) l.length,rows (fun i=>(gO l i).1) l.length,rows (e8 l) l.length)):=by
 have hlen:=h.right.len
 refine L6 (n:=l.length) (fun k i=>mh F l rj pW k (rows (fun i=>(gO l i).2) i) (rows (fun i=>(gO l i).1) i) (rows (e8 l) i) (i:Int)) _ _ (fun k i hi=>?_) (fun k=>?_) (F:=F) (by omega)
 · show mh F l rj pW (k+ 1) (rows (fun i=>(gO l i).2) i) (rows (fun i=>(gO l i).1) i) (rows (e8 l) i) (i:Int)=_
   rw [mh,bF hi,cond_true,Oz,Dt,h.asE az (eF 0 l) (by omega) (by omega),Option.bind_some,h.Qo az (eF 0 l) (by omega) (by omega),Option.bind_some,
    hW (by simp only [rows,List.length_map,List.length_range,List.length_cons,List.length_nil];omega),Option.bind_some,hW (by simp only [rows,List.length_map,List.length_range,List.length_cons,List.length_nil];omega),Option.bind_some,
    hW (by simp only [rows,List.length_map,List.length_range,List.length_cons,List.length_nil];omega),Option.bind_some,bm (i:=i) (x:=e8 l i) (by simp [rows]),Option.bind_some,Vx,eK hi (by omega),<-B2 (e8 l),<-B2 (fun i=>(gO l i).1),<-B2 (fun i=>(gO l i).2)]
   unfold Ay
   by_cases ah:12 <(e8 l i).length\/ 16 <(gO l i).1.length
   · rw [decide_eq_true ah,if_pos ah];rfl
   · rw [decide_eq_false ah,if_neg ah];rfl
 · show mh F l rj pW (k+ 1) (rows (fun i=>(gO l i).2) l.length) (rows (fun i=>(gO l i).1) l.length) (rows (e8 l) l.length) (l.length:Int)=_
   rw [mh,bE];rfl
theorem awR (az:1100 <F) (h:hl l) :
 oY F l F [] [] [] [] 0 =some (zG ((List.range l.length).findSome? (Ay l)) (rows (fun i=>(gO l i).2) l.length,rows (fun i=>(gO l i).1) l.length,rows (e8 l) l.length,c' l)):=by
 have hlen:=h.right.len
 refine L6 (n:=l.length) (fun k i=>oY F l k (rows (fun i=>(gO l i).2) i) (rows (fun i=>(gO l i).1) i) (rows (e8 l) i) ((c' l).take i) (i:Int)) _ _ (fun k i hi=>?_) (fun k=>?_) (F:=F) (by omega)
 · obtain ⟨x,ad⟩:∃ x,l[i]? =some x:=⟨l[i],List.getElem?_eq_getElem hi⟩
   have e3:(c' l).take i++[cG l x.cO]=(c' l).take (i+ 1):=by rw [List.take_add_one,S8 ad];rfl
   show oY F l (k+ 1) (rows (fun i=>(gO l i).2) i) (rows (fun i=>(gO l i).1) i) (rows (e8 l) i) ((c' l).take i) (i:Int)=_
   rw [oY,bF hi,cond_true,h.SF az (by omega) (by omega),Option.bind_some,h.awS az (by omega) (by omega),Option.bind_some,Vx,bm ad,Option.bind_some,ui ⟨by omega,by omega⟩,Option.bind_some,
    hW (by simp only [List.length_take,B9,List.length_cons,List.length_nil];omega),Option.bind_some,
    hW (by simp only [rows,List.length_map,List.length_range,List.length_cons,List.length_nil];omega),Option.bind_some,hW (by simp only [rows,List.length_map,List.length_range,List.length_cons,List.length_nil];omega),Option.bind_some,
    hW (by simp only [rows,List.length_map,List.length_range,List.length_cons,List.length_nil];omega),Option.bind_some,eK hi (by omega),<-B2 (e8 l),<-B2 (fun i=>(gO l i).1),<-B2 (fun i=>(gO l i).2),e3]
   unfold Ay
   by_cases ah:12 <(e8 l i).length\/ 16 <(gO l i).1.length
   · rw [decide_eq_true ah,if_pos ah];rfl
   · rw [decide_eq_false ah,if_neg ah];rfl
 · show oY F l (k+ 1) (rows (fun i=>(gO l i).2) l.length) (rows (fun i=>(gO l i).1) l.length) (rows (e8 l) l.length) ((c' l).take l.length) (l.length:Int)=_
   rw [oY,bE,List.take_of_length_le (by rw [B9];omega)];rfl
theorem pS {α:Type} {e:Int} (h:e≠ 0) {x y:α}:cond (!decide (e= 0)) x y=x:=by rw [decide_eq_false h];rfl
theorem pd {α:Type} {x y:α}:cond (!decide ((0 :Int)= 0)) x y=y:=rfl
theorem axW {e:Int} (h:l.findSome? rA=some e):e= 4 :=by
 obtain ⟨x,_,ad⟩:=List.exists_of_findSome?_eq_some h
 unfold rA at ad
 split at ad
 · cases ad
 · injection ad with ad;exact ad.symm
theorem asX {e:Int} (h:l.findSome? (oo l)=some e):e= 5 :=by
 obtain ⟨x,_,ad⟩:=List.exists_of_findSome?_eq_some h
 unfold oo at ad
 split at ad
 · cases ad
 · injection ad with ad;exact ad.symm
theorem al8 {e:Int} (h:(List.range l.length).findSome? (sd l)=some e):e= 4 :=by
 obtain ⟨x,_,ad⟩:=List.exists_of_findSome?_eq_some h
 unfold sd at ad
 split at ad
 · cases ad
 · injection ad with ad;exact ad.symm
theorem ax_ {nm:List UInt8} (h:0 <=cG l nm):(du (eF 0 l) nm).getD 0 =cG l nm:=by
 rw [BC]
 unfold cG at h ⊢
 cases aD:ei (iY nm) l with
 | none=>rw [aD] at h;simp at h
 | some i=>simp
theorem alx (az:1100 <F) (af:Fits F l):∃ e,CS F l=some e /\
 ((e≠ 0 /\y7 F l=some (Ju,e)) \/
  (e= 0 /\hl l/\ ∃ rj pW:Int × bj,rj.2.bY=eF 0 l/\pW.2.dh=c' l /\
   y7 F l=cd (α:=(List (List Target)) × (List (List (List UInt8))) × (List (List Field))) (mh F l rj pW F [] [] [] 0) fun ((Qg,Qh,Qi):(List (List Target)) × (List (List (List UInt8))) × (List (List Field)))=>some ((⟨l,pW.2.dh,Qi,Qh,Qg⟩:aP),0))):=by
 unfold CS y7
 rw [akO af,aqS af,Option.bind_some,Option.bind_some]
 by_cases aN:qu l= 0
 case neg=>exact ⟨qu l,by rw [pS aN],.inl ⟨aN,by rw [pS aN];rfl⟩⟩
 rw [aN,pd,pd]
 have fa:=alA aN
 have hlen:=fa.len
 rw [aub (by omega) fa,Option.bind_some]
 rcases ath (F:=F) (by omega) fa with ⟨hJ,Bz,BA⟩ | ⟨_,⟨m,Bz⟩,BA⟩
 case inr=>
  unfold Bq
  simp only
  rw [Bz,BA]
  exact ⟨6,rfl,.inl ⟨by decide,rfl⟩⟩
 rw [BA,oI,ui ⟨by omega,by omega⟩,Option.bind_some,ui ⟨by omega,by omega⟩,Option.bind_some]
 have apT:Bq F ⟨l,[],[]⟩=some (cond (decide (0 <=cG l [79,98,106,101,99,116]) && decide (0 <=cG l [69,114,114,111,114])) 0 5,⟨l,eF 0 l,[]⟩):=by
  unfold Bq
  simp only
  rw [Bz,oI,QX,QX]
  cases decide (0 <=cG l [79,98,106,101,99,116]) <;> cases decide (0 <=cG l [69,114,114,111,114]) <;> rfl
 rw [apT,Option.bind_some]
 by_cases Po:0 <=cG l [79,98,106,101,99,116]
 case neg=>
  rw [decide_eq_true (show cG l [79,98,106,101,99,116] < 0 by omega),decide_eq_false Po]
  exact ⟨5,rfl,.inl ⟨by decide,rfl⟩⟩
 rw [decide_eq_false (show ¬ cG l [79,98,106,101,99,116] < 0 by omega),decide_eq_true Po,cond_false]
 by_cases A_:0 <=cG l [69,114,114,111,114]
 case neg=>
  rw [decide_eq_true (show cG l [69,114,114,111,114] < 0 by omega),decide_eq_false A_]
  exact ⟨5,rfl,.inl ⟨by decide,rfl⟩⟩
 rw [decide_eq_false (show ¬ cG l [69,114,114,111,114] < 0 by omega),decide_eq_true A_,cond_false,Bool.and_self,cond_true]
 simp only [Option.bind_some,decide_true,Bool.not_true,cond_false]
 unfold IX
 simp only
 rw [axU (by omega) fa,axV (by omega) fa,jc,jc]
 cases aJ:l.findSome? rA with
 | some e=>
   have:=axW aJ
   subst this
   exact ⟨4,rfl,.inl ⟨by decide,rfl⟩⟩
 | none=>
 simp only [Option.map_none,nf]
 obtain ⟨o,ap,hm⟩:=asV (F:=F) (by omega) fa
 rw [asW (by omega) fa,jc,hm,<-ap]
 cases o with
 | some r=>
   simp only [Option.map_some] at ap
   have:=asX ap.symm
   refine ⟨5,by simp only [Option.map_some,nf];rw [this],.inl ⟨by decide,?_⟩⟩
   obtain ⟨a,b⟩:=r
   simp only at this
   subst this
   rfl
 | none=>
 simp only [Option.map_none,nf,zG,oI]
 simp only [Option.map_none] at ap
 rw [al7 az fa,jc,al6 az fa,jc]
 cases hc:(List.range l.length).findSome? (sd l) with
 | some e=>
   have:=al8 hc
   subst this
   exact ⟨4,rfl,.inl ⟨by decide,rfl⟩⟩
 | none=>
 simp only [Option.map_none,nf,Option.bind_some,decide_true,Bool.not_true,cond_false]
 have apQ:∀ c ∈ l,c.cO= []\/ 0 <=cG l c.cO:=fun c jT=>by
  have:=List.findSome?_eq_none_iff.1 ap.symm c jT
  unfold oo at this
  split at this
  · assumption
  · cases this
 have aqz:∀ i,i <l.length-> ∃ c,dj (c' l) l.length (i:Int)=some c:=fun i hi=>by
  have:=List.findSome?_eq_none_iff.1 hc i (by simpa using hi)
  unfold sd at this
  split at this
  · rename_i I;exact Option.isSome_iff_exists.1 I
  · cases this
 have jR:hl l:=⟨fa,hJ,apQ,aqz,fun c jT=>List.findSome?_eq_none_iff.1 aJ c jT,Po⟩
 have DJ:cG l [69,114,114,111,114] <l.length:=Mp
 obtain ⟨x,ad,_⟩:=tD (l:=l) A_ DJ
 unfold IY
 simp only [ax_ A_]
 rw [jR.SF az A_ DJ,Option.bind_some,jR.Qo az (eF 0 l) A_ DJ,Option.bind_some,ad,Option.bind_some,Option.bind_some]
 by_cases ao:((!decide (x.cO= [79,98,106,101,99,116])) || (decide (((e8 l (cG l [69,114,114,111,114])).length:Int)= 0)))=true
 · rw [ao]
   exact ⟨4,rfl,.inl ⟨by decide,rfl⟩⟩
 rw [Bool.eq_false_iff.2 ao,cond_false,cond_false]
 have b2:0 <(e8 l (cG l [69,114,114,111,114])).length:=by
  simp only [Bool.or_eq_true,decide_eq_true_eq,not_or] at ao
  omega
 have aqD:idx (e8 l (cG l [69,114,114,111,114])) 0 =some ((e8 l (cG l [69,114,114,111,114]))[0]):=by
  have:=bm (l:=e8 l (cG l [69,114,114,111,114])) (i:=0) (List.getElem?_eq_getElem b2)
  exact this
 rw [aqD,Option.bind_some,Option.bind_some]
 by_cases ai:((e8 l (cG l [69,114,114,111,114]))[0]).Kind.Kind= 1
 case neg=>
  rw [decide_eq_false ai]
  exact ⟨4,rfl,.inl ⟨by decide,rfl⟩⟩
 rw [decide_eq_true ai]
 simp only [Bool.not_true,cond_false,Option.bind_some,decide_true]
 rw [axS az fa,jc,axR az fa,Option.bind_some]
 cases fX:(p5 l).findSome? (jf l) with
 | some e=>
   have:e= 5 :=by
    obtain ⟨s,_,I⟩:=List.exists_of_findSome?_eq_some fX
    rcases acq (l:=l) (s:=s) with aa | aa
    · rw [aa] at I;cases I
    · rw [aa] at I;injection I with I;exact I.symm
   subst this
   exact ⟨5,rfl,.inl ⟨by decide,rfl⟩⟩
 | none=>
 simp only [nf,Option.getD_none,decide_true,Bool.not_true,cond_false]
 rw [at2 az jR,jc,at1 az jR,Option.bind_some]
 cases Pp:(List.range l.length).findSome? (v0 l) with
 | some e=>
   have:e= 6 :=by
    obtain ⟨s,_,I⟩:=List.exists_of_findSome?_eq_some Pp
    unfold v0 sf at I
    split at I
    · split at I
      · cases I
      · simp at I;exact I.symm
    · simp at I;exact I.symm
   subst this
   exact ⟨6,rfl,.inl ⟨by decide,rfl⟩⟩
 | none=>
 simp only [nf,Option.getD_none,decide_true,Bool.not_true,cond_false]
 rw [asU az jR,jc,asT az jR,Option.bind_some]
 cases Ph:(List.range l.length).findSome? (fun i=>(l[i]?).bind fun c=>Bw l c i) with
 | some e=>
   have:e= 4 :=by
    obtain ⟨i,_,I⟩:=List.exists_of_findSome?_eq_some Ph
    cases Ij:l[i]? with
    | none=>rw [Ij] at I;cases I
    | some c=>
      rw [Ij,Option.bind_some] at I
      unfold Bw at I
      rcases qD (VV (l:=l) c) (dq l i).tail with aa | aa
      · rw [aa] at I;cases I
      · rw [aa] at I;injection I with I;exact I.symm
   subst this
   exact ⟨4,rfl,.inl ⟨by decide,rfl⟩⟩
 | none=>
 simp only [nf,Option.getD_none,decide_true,Bool.not_true,cond_false]
 exact ⟨0,rfl,.inr ⟨rfl,jR,(0,⟨l,eF 0 l,[]⟩),(0,⟨l,eF 0 l,c' l⟩),rfl,rfl,rfl⟩⟩
theorem asC (az:1100 <F) (af:Fits F l):∃ r:aP × Int,y7 F l=some r/\CT F l=some r/\(r.2 = 0 ->hl l/\r.1 =linked l)/\(r.2 ≠ 0 ->r.1 =Ju):=by
 obtain ⟨e,I,aa⟩:=alx az af
 unfold CT
 rw [I,Option.bind_some]
 rcases aa with ⟨he,aa⟩ | ⟨rfl,jR,rj,pW,Oz,Dt,aa⟩
 · exact ⟨_,aa,by rw [pS he];rfl,fun h=>absurd h he,fun _=>rfl⟩
 · rw [pd,aa,asD az jR rj pW Oz Dt,awR az jR]
   cases ah:(List.range l.length).findSome? (Ay l) with
   | some r=>
     have:r=(Ju,2):=by
      obtain ⟨i,_,I⟩:=List.exists_of_findSome?_eq_some ah
      unfold Ay at I
      split at I
      · injection I with I;exact I.symm
      · cases I
     subst this
     exact ⟨_,rfl,rfl,fun h=>absurd h (by decide),fun _=>rfl⟩
   | none=>
     refine ⟨_,rfl,?_,fun _=>⟨jR,?_⟩,fun h=>absurd rfl h⟩
     · simp only [zG,oI,Dt]
     · simp only [Dt];rfl
end
end J
namespace J
theorem k0 {α:Type} [DecidableEq α] {F:Nat} {a b:List α} (ak:a.length=b.length) {L:Nat->Int->Option (Way Bool Unit)} (aA:a.length<= 140737488355328)
 (ao:∀ k (i:Nat) x y,a[i]? =some x->b[i]? =some y->L (k+ 1) (i:Int)=cond (!decide (x=y)) (some (.out false)) (L k (aE ((i:Int)+ 1)))) (he:∀ k,L (k+ 1) (a.length:Int)=some (.go ())) (az:a.length <F) :
 L F 0 =some (if a=b then .go () else .out false):=by
 have l1:L F 0 =some (cn ((List.range a.length).findSome? fun i=>if a[i]? =b[i]? then none else some false)):=jA _ aA (fun k i hi=>by
  rw [ao k i a[i] (b[i]'(by omega)) (List.getElem?_eq_getElem hi) (List.getElem?_eq_getElem (show i <b.length by omega)),List.getElem?_eq_getElem hi,List.getElem?_eq_getElem (show i <b.length by omega)]
  simp only [Option.some.injEq]
  by_cases e:a[i]=b[i]'(by omega)
  · rw [decide_eq_true e,if_pos e];rfl
  · rw [decide_eq_false e,if_neg e];rfl) he az
 rw [l1]
 cases af:(List.range a.length).findSome? fun i=>if a[i]? =b[i]? then none else some false with
 | some e=>
   obtain ⟨i,hi,I⟩:=List.exists_of_findSome?_eq_some af
   split at I
   · cases I
   · rename_i b2
     injection I with I
     subst I
     rw [if_neg (fun e=>b2 (by rw [e]))];rfl
 | none=>
   rw [if_pos];rfl
   apply List.ext_getElem?
   intro i
   by_cases hi:i <a.length
   · have:=List.findSome?_eq_none_iff.1 af i (by simpa using hi)
     split at this
     · assumption
     · cases this
   · rw [List.getElem?_eq_none (by omega),List.getElem?_eq_none (by omega)]
theorem Nv {α β:Type} (l:List α):l.findSome? (fun _=>(none:Option β))=none:=by rw [List.findSome?_eq_none_iff];intro _ _;rfl
theorem mN {p:Prop} [Decidable p] {Y:Option Bool}:cd (α:=Unit) (some (if p then (.go ():Way Bool Unit) else .out false)) (fun _=>Y)=if p then Y else some false:=by by_cases h:p <;> simp [h]
theorem VW {p:Prop} [Decidable p] {Y:Option (Way Bool Unit)}:cS (α:=Unit) (some (if p then (.go ():Way Bool Unit) else .out false)) (fun _=>Y)=if p then Y else some (.out false):=by by_cases h:p <;> simp [h]
theorem lc {α:Type} {a b:List α}:decide ((a.length:Int)=(b.length:Int))=decide (a.length=b.length):=by
 rw [Bool.eq_iff_iff];simp;omega
theorem pf {α:Type} [DecidableEq α] {a b:List α} (h:a.length≠b.length):decide (a=b)=false:=decide_eq_false (fun e=>h (by rw [e]))
section
variable {F:Nat}
theorem abW {a b:List Field} (aK:Small F a.length):Al F a b=some (decide (a=b)):=by
 unfold Al
 rw [lc]
 by_cases ak:a.length=b.length
 · rw [decide_eq_true ak]
   simp only [Bool.not_true,cond_false]
   rw [k0 ak aK.1 (L:=xN a b) (fun k i x y ad hy=>by rw [xN,bF (List.getElem?_eq_some_iff.1 ad).1,cond_true,bm ad,Option.bind_some,bm hy,Option.bind_some]) (fun k=>by rw [xN,bE];rfl) aK.2,mN]
   by_cases h:a=b <;> simp [h]
 · rw [decide_eq_false ak,pf ak];rfl
theorem axq {a b:List Kind} (aK:Small F a.length):r0 F a b=some (decide (a=b)):=by
 unfold r0
 rw [lc]
 by_cases ak:a.length=b.length
 · rw [decide_eq_true ak]
   simp only [Bool.not_true,cond_false]
   rw [k0 ak aK.1 (L:=nS a b) (fun k i x y ad hy=>by rw [nS,bF (List.getElem?_eq_some_iff.1 ad).1,cond_true,bm ad,Option.bind_some,bm hy,Option.bind_some]) (fun k=>by rw [nS,bE];rfl) aK.2,mN]
   by_cases h:a=b <;> simp [h]
 · rw [decide_eq_false ak,pf ak];rfl
theorem axu {l:List al} (h:Fits F l):Ak F l l=some true:=by
 unfold Ak
 rw [decide_eq_true rfl]
 simp only [Bool.not_true,cond_false]
 have l1:xK F l l F 0 =some (cn (l.findSome? fun _=>(none:Option Bool))):=each (fun _=>none) h.1.1 (fun k i c ad=>by
  have hc:=h.2 c (List.mem_of_getElem? ad)
  have cj:xL F c c F 0 =some (cn (c.bb.findSome? fun _=>(none:Option Bool))):=each (fun _=>none) hc.methods.1 (fun k i m hy=>by
   have hm:=hc.method m (List.mem_of_getElem? hy)
   have jp:xM m m F 0 =some (cn (m.cw.findSome? fun _=>(none:Option Bool))):=each (fun _=>none) hm.uW.1 (fun k i x aj=>by
    rw [xM,bF (List.getElem?_eq_some_iff.1 aj).1,cond_true,bm aj,Option.bind_some,Option.bind_some,decide_eq_true rfl];rfl) (fun k=>by rw [xM,bE];rfl) hm.uW.2
   rw [xL,bF (List.getElem?_eq_some_iff.1 hy).1,cond_true,bm hy,Option.bind_some,Option.bind_some,axq hm.args,Option.bind_some,jp,Nv]
   simp
   rfl) (fun k=>by rw [xL,bE];rfl) hc.methods.2
  rw [xK,bF (List.getElem?_eq_some_iff.1 ad).1,cond_true,bm ad,Option.bind_some,Option.bind_some,abW hc.fields,Option.bind_some,cj,Nv]
  simp
  rfl) (fun k=>by rw [xK,bE];rfl) h.1.2
 rw [l1,Nv];rfl
structure GN (F:Nat) (k:aP):Prop where
 dh:Small F k.a0.length
 fields:Small F k.Fields.length
 field:∀ x ∈ k.Fields,Small F x.length
 names:Small F k.Names.length
 name:∀ x ∈ k.Names,Small F x.length
 targets:Small F k.a1.length
 target:∀ x ∈ k.a1,Small F x.length
instance:DecidableEq (List (List Field)):=inferInstance
theorem axr {a b:aP} (aK:GN F a) (hc:Ak F a.a4 b.a4=some true) :
 Am F a b=some (decide (a.a0=b.a0/\a.Fields=b.Fields/\a.Names=b.Names/\a.a1=b.a1)):=by
 unfold Am
 rw [hc,Option.bind_some,lc,lc,lc,lc]
 have aL:∀ (_: ¬ (a.a0=b.a0/\a.Fields=b.Fields/\a.Names=b.Names/\a.a1=b.a1)),decide (a.a0=b.a0/\a.Fields=b.Fields/\a.Names=b.Names/\a.a1=b.a1)=false:=fun h=>decide_eq_false h
 by_cases I:b.a0.length=a.a0.length
 case neg=>rw [aL (fun e=>I (by rw [e.1])),decide_eq_false I];rfl
 by_cases aa:a.Fields.length=b.Fields.length
 case neg=>rw [aL (fun e=>aa (by rw [e.2.1])),decide_eq_true I,decide_eq_false aa];rfl
 by_cases aq:a.Names.length=b.Names.length
 case neg=>rw [aL (fun e=>aq (by rw [e.2.2.1])),decide_eq_true I,decide_eq_true aa,decide_eq_false aq];rfl
 by_cases a':a.a1.length=b.a1.length
 case neg=>rw [aL (fun e=>a' (by rw [e.2.2.2])),decide_eq_true I,decide_eq_true aa,decide_eq_true aq,decide_eq_false a'];rfl
 rw [decide_eq_true I,decide_eq_true aa,decide_eq_true aq,decide_eq_true a']
 simp only [Bool.not_true,Bool.or_self,cond_false]
 have l1:=k0 (F:=F) I.symm aK.dh.1 (L:=uj a b) (fun k i x y ad hy=>by rw [uj,bF (List.getElem?_eq_some_iff.1 ad).1,cond_true,bm ad,Option.bind_some,bm hy,Option.bind_some]) (fun k=>by rw [uj,bE];rfl) aK.dh.2
 have cj:=k0 (F:=F) aa aK.fields.1 (L:=xP F a b) (fun k i x y ad hy=>by
  rw [xP,bF (List.getElem?_eq_some_iff.1 ad).1,cond_true,bm ad,Option.bind_some,bm hy,Option.bind_some,abW (aK.field x (List.mem_of_getElem? ad)),Option.bind_some]) (fun k=>by rw [xP,bE];rfl) aK.fields.2
 have jp:=k0 (F:=F) aq aK.names.1 (L:=xQ F a b) (fun k i x y ad hy=>by
  have jm:=aK.name x (List.mem_of_getElem? ad)
  rw [xQ,bF (List.getElem?_eq_some_iff.1 ad).1,cond_true,bm ad,Option.bind_some,bm hy,Option.bind_some,lc]
  by_cases ak:x.length=y.length
  · rw [decide_eq_true ak]
    simp only [Bool.not_true,cond_false]
    rw [k0 (F:=F) ak jm.1 (L:=xR a b i) (fun k j u v hu ag=>by
     rw [xR,bm ad,Option.bind_some,bF (List.getElem?_eq_some_iff.1 hu).1,cond_true,Option.bind_some,bm hu,Option.bind_some,bm hy,Option.bind_some,bm ag,Option.bind_some]) (fun k=>by rw [xR,bm ad,Option.bind_some,bE];rfl) jm.2,VW]
    by_cases h:x=y
    · rw [if_pos h,decide_eq_true h];rfl
    · rw [if_neg h,decide_eq_false h];rfl
  · rw [decide_eq_false ak,pf ak];rfl) (fun k=>by rw [xQ,bE];rfl) aK.names.2
 have P_:=k0 (F:=F) a' aK.targets.1 (L:=xS F a b) (fun k i x y ad hy=>by
  have jm:=aK.target x (List.mem_of_getElem? ad)
  rw [xS,bF (List.getElem?_eq_some_iff.1 ad).1,cond_true,bm ad,Option.bind_some,bm hy,Option.bind_some,lc]
  by_cases ak:x.length=y.length
  · rw [decide_eq_true ak]
    simp only [Bool.not_true,cond_false]
    rw [k0 (F:=F) ak jm.1 (L:=xT a b i) (fun k j u v hu ag=>by
     rw [xT,bm ad,Option.bind_some,bF (List.getElem?_eq_some_iff.1 hu).1,cond_true,Option.bind_some,bm hu,Option.bind_some,bm hy,Option.bind_some,bm ag,Option.bind_some]) (fun k=>by rw [xT,bm ad,Option.bind_some,bE];rfl) jm.2,VW]
    by_cases h:x=y
    · rw [if_pos h,decide_eq_true h];rfl
    · rw [if_neg h,decide_eq_false h];rfl
  · rw [decide_eq_false ak,pf ak];rfl) (fun k=>by rw [xS,bE];rfl) aK.targets.2
 rw [l1,cj,jp,P_,mN,mN,mN,mN]
 by_cases e1:a.a0=b.a0
 · by_cases e2:a.Fields=b.Fields
   · by_cases e3:a.Names=b.Names
     · by_cases e4:a.a1=b.a1 <;> simp [e1,e2,e3,e4]
     · simp [e3]
   · simp [e2]
 · simp [e1]
end
section
variable {F:Nat} {l:List al}
theorem aw4 {β:Type} {f:Int->β} {n:Nat}:(rows f n).length=n:=by simp [rows]
end
end J
namespace J
section
variable {F:Nat}
theorem ana {a b:List (Int)} (aK:Small F a.length):FD F a b=some (decide (a=b)):=by
 unfold FD
 rw [lc]
 by_cases ak:a.length=b.length
 · rw [decide_eq_true ak]
   simp only [Bool.not_true,cond_false]
   rw [k0 ak aK.1 (L:=wk a b) (fun k i x y ad hy=>by rw [wk,bF (List.getElem?_eq_some_iff.1 ad).1,cond_true,bm ad,Option.bind_some,bm hy,Option.bind_some]) (fun k=>by rw [wk,bE];rfl) aK.2,mN]
   by_cases h:a=b <;> simp [h]
 · rw [decide_eq_false ak,pf ak];rfl
theorem am_ {a b:List (Field)} (aK:Small F a.length):FA F a b=some (decide (a=b)):=by
 unfold FA
 rw [lc]
 by_cases ak:a.length=b.length
 · rw [decide_eq_true ak]
   simp only [Bool.not_true,cond_false]
   rw [k0 ak aK.1 (L:=wi a b) (fun k i x y ad hy=>by rw [wi,bF (List.getElem?_eq_some_iff.1 ad).1,cond_true,bm ad,Option.bind_some,bm hy,Option.bind_some]) (fun k=>by rw [wi,bE];rfl) aK.2,mN]
   by_cases h:a=b <;> simp [h]
 · rw [decide_eq_false ak,pf ak];rfl
theorem anb {a b:List (List UInt8)} (aK:Small F a.length):FE F a b=some (decide (a=b)):=by
 unfold FE
 rw [lc]
 by_cases ak:a.length=b.length
 · rw [decide_eq_true ak]
   simp only [Bool.not_true,cond_false]
   rw [k0 ak aK.1 (L:=wl a b) (fun k i x y ad hy=>by rw [wl,bF (List.getElem?_eq_some_iff.1 ad).1,cond_true,bm ad,Option.bind_some,bm hy,Option.bind_some]) (fun k=>by rw [wl,bE];rfl) aK.2,mN]
   by_cases h:a=b <;> simp [h]
 · rw [decide_eq_false ak,pf ak];rfl
theorem ane {a b:List (Target)} (aK:Small F a.length):FC F a b=some (decide (a=b)):=by
 unfold FC
 rw [lc]
 by_cases ak:a.length=b.length
 · rw [decide_eq_true ak]
   simp only [Bool.not_true,cond_false]
   rw [k0 ak aK.1 (L:=wj a b) (fun k i x y ad hy=>by rw [wj,bF (List.getElem?_eq_some_iff.1 ad).1,cond_true,bm ad,Option.bind_some,bm hy,Option.bind_some]) (fun k=>by rw [wj,bE];rfl) aK.2,mN]
   by_cases h:a=b <;> simp [h]
 · rw [decide_eq_false ak,pf ak];rfl
theorem am' {a b:List (List Field)} (aK:Small F a.length) (ad:∀ x ∈ a,Small F x.length):Fx F a b=some (decide (a=b)):=by
 unfold Fx
 rw [lc]
 by_cases ak:a.length=b.length
 · rw [decide_eq_true ak]
   simp only [Bool.not_true,cond_false]
   rw [k0 ak aK.1 (L:=wc F a b) (fun k i x y I aa=>by rw [wc,bF (List.getElem?_eq_some_iff.1 I).1,cond_true,bm I,Option.bind_some,bm aa,Option.bind_some,am_ (ad x (List.mem_of_getElem? I)),Option.bind_some]) (fun k=>by rw [wc,bE];rfl) aK.2,mN]
   by_cases h:a=b <;> simp [h]
 · rw [decide_eq_false ak,pf ak];rfl
theorem anc {a b:List (List (List UInt8))} (aK:Small F a.length) (ad:∀ x ∈ a,Small F x.length):Fz F a b=some (decide (a=b)):=by
 unfold Fz
 rw [lc]
 by_cases ak:a.length=b.length
 · rw [decide_eq_true ak]
   simp only [Bool.not_true,cond_false]
   rw [k0 ak aK.1 (L:=wh F a b) (fun k i x y I aa=>by rw [wh,bF (List.getElem?_eq_some_iff.1 I).1,cond_true,bm I,Option.bind_some,bm aa,Option.bind_some,anb (ad x (List.mem_of_getElem? I)),Option.bind_some]) (fun k=>by rw [wh,bE];rfl) aK.2,mN]
   by_cases h:a=b <;> simp [h]
 · rw [decide_eq_false ak,pf ak];rfl
theorem anf {a b:List (List Target)} (aK:Small F a.length) (ad:∀ x ∈ a,Small F x.length):Fy F a b=some (decide (a=b)):=by
 unfold Fy
 rw [lc]
 by_cases ak:a.length=b.length
 · rw [decide_eq_true ak]
   simp only [Bool.not_true,cond_false]
   rw [k0 ak aK.1 (L:=wg F a b) (fun k i x y I aa=>by rw [wg,bF (List.getElem?_eq_some_iff.1 I).1,cond_true,bm I,Option.bind_some,bm aa,Option.bind_some,ane (ad x (List.mem_of_getElem? I)),Option.bind_some]) (fun k=>by rw [wg,bE];rfl) aK.2,mN]
   by_cases h:a=b <;> simp [h]
 · rw [decide_eq_false ak,pf ak];rfl
theorem axt {a b:aP} (aK:GN F a):Br F a b=some (decide (a.a0=b.a0/\a.Fields=b.Fields/\a.Names=b.Names/\a.a1=b.a1)):=by
 unfold Br
 rw [ana aK.dh,Option.bind_some]
 by_cases e1:a.a0=b.a0
 case neg=>rw [decide_eq_false e1,decide_eq_false (fun e=>e1 e.1)];rfl
 rw [decide_eq_true e1,cond_true,am' aK.fields aK.field,Option.bind_some]
 by_cases e2:a.Fields=b.Fields
 case neg=>rw [decide_eq_false e2,decide_eq_false (fun e=>e2 e.2.1)];rfl
 rw [decide_eq_true e2,cond_true,anc aK.names aK.name,Option.bind_some]
 by_cases e3:a.Names=b.Names
 case neg=>rw [decide_eq_false e3,decide_eq_false (fun e=>e3 e.2.2.1)];rfl
 rw [decide_eq_true e3,cond_true,anf aK.targets aK.target,Option.bind_some]
 congr 1
 rw [Bool.eq_iff_iff]
 simp [e1,e2,e3]
theorem aly {k:aP} (az:1100 <F) (hc:Fits F k.a4) (ai:GN F k):∃ e,m' F k=some e/\rW F k=some e/\((e= 4)\/(e= 0 /\hl k.a4/\k=linked k.a4)):=by
 obtain ⟨r,I,aa,aq,a'⟩:=asC az hc
 unfold m' rW
 rw [I,aa,Option.bind_some,Option.bind_some]
 by_cases aN:r.2 = 0
 case neg=>rw [pS aN,pS aN];exact ⟨4,rfl,rfl,.inl rfl⟩
 obtain ⟨jR,e⟩:=aq aN
 have s1:Br F (⟨k.a4,k.a0,k.Fields,k.Names,k.a1⟩:aP) (⟨r.1.a4,r.1.a0,r.1.Fields,r.1.Names,r.1.a1⟩:aP)=some (decide (k.a0=r.1.a0/\k.Fields=r.1.Fields/\k.Names=r.1.Names/\k.a1=r.1.a1)):=axt (a:=k) (b:=r.1) ai
 have s2:Am F (⟨k.a4,k.a0,k.Fields,k.Names,k.a1⟩:aP) (⟨r.1.a4,r.1.a0,r.1.Fields,r.1.Names,r.1.a1⟩:aP)=some (decide (k.a0=r.1.a0/\k.Fields=r.1.Fields/\k.Names=r.1.Names/\k.a1=r.1.a1)):=axr (a:=k) (b:=r.1) ai (by rw [e];exact axu hc)
 rw [s1,s2,aN];simp only [pd,Option.bind_some]
 by_cases ao:k.a0=r.1.a0/\k.Fields=r.1.Fields/\k.Names=r.1.Names/\k.a1=r.1.a1
 · rw [decide_eq_true ao]
   refine ⟨0,rfl,rfl,.inr ⟨rfl,jR,?_⟩⟩
   obtain ⟨e1,e2,e3,e4⟩:=ao
   rw [e] at e1 e2 e3 e4
   obtain ⟨a,b,c,d,f⟩:=k
   simp only at e1 e2 e3 e4
   subst e1 e2 e3 e4
   rfl
 · rw [decide_eq_false ao]
   exact ⟨4,rfl,rfl,.inl rfl⟩
end
end J
namespace J
def zn (h:aV):Prop:=(3 <=h.ar/\h.ar<= 2000)/\(3 <=h.aO/\h.aO<= 2000)
def okB (h:aV):Prop:=(h.Words.length:Int)= 1 +h.ar+h.aO
def EW (h:aV):Prop:=(1 <=h.aZ/\h.aZ<=h.ar+ 1)/\(h.ar+ 1 <=h.aU/\h.aU<=h.ar+h.aO+ 1)/\ 1 <=h.Next
instance (h:aV):Decidable (zn h):=inferInstanceAs (Decidable ((3 <=h.ar/\h.ar<= 2000)/\(3 <=h.aO/\h.aO<= 2000)))
instance (h:aV):Decidable (okB h):=inferInstanceAs (Decidable ((h.Words.length:Int)= 1 +h.ar+h.aO))
instance (h:aV):Decidable (EW h):=inferInstanceAs (Decidable ((1 <=h.aZ/\h.aZ<=h.ar+ 1)/\(h.ar+ 1 <=h.aU/\h.aU<=h.ar+h.aO+ 1)/\ 1 <=h.Next))
def ln (h:aV):Int:=if zn h then (if okB h then (if EW h then 0 else 3) else 1) else 3
theorem axE (h:aV):A9 h=some (ln h):=by
 unfold A9 mW ln
 simp only [Option.bind_some]
 by_cases dB:zn h
 case neg=>
  rw [if_neg dB]
  unfold zn at dB
  by_cases a:3 <=h.ar/\h.ar<= 2000
  · have b: ¬ (3 <=h.aO/\h.aO<= 2000):=fun b=>dB ⟨a,b⟩
    rw [show (decide (3 <=h.ar) && decide (h.ar<= 2000))=true by simpa using a,show (decide (3 <=h.aO) && decide (h.aO<= 2000))=false by rw [Bool.eq_false_iff];simpa using b]
    rfl
  · rw [show (decide (3 <=h.ar) && decide (h.ar<= 2000))=false by rw [Bool.eq_false_iff];simpa using a]
    rfl
 rw [if_pos dB]
 unfold zn at dB
 obtain ⟨⟨cF,dc⟩,dJ,eH⟩:=dB
 rw [show (decide (3 <=h.ar) && decide (h.ar<= 2000))=true by simp;omega,show (decide (3 <=h.aO) && decide (h.aO<= 2000))=true by simp;omega,
  cE (n:=1 +h.ar) (by omega) (by omega),cE (n:=1 +h.ar+h.aO) (by omega) (by omega),cE (n:=h.ar+ 1) (by omega) (by omega),cE (n:=h.ar+h.aO) (by omega) (by omega),cE (n:=h.ar+h.aO+ 1) (by omega) (by omega)]
 simp only [Bool.not_true,cond_false]
 by_cases bN:okB h
 case neg=>
  rw [if_neg bN,show decide ((h.Words.length:Int)= 1 +h.ar+h.aO)=false from decide_eq_false bN];rfl
 rw [if_pos bN,show decide ((h.Words.length:Int)= 1 +h.ar+h.aO)=true from decide_eq_true bN]
 simp only [Bool.not_true,cond_false]
 by_cases hr:EW h
 · rw [if_pos hr]
   obtain ⟨c1,c2,c3⟩:=hr
   rw [show (decide (1 <=h.aZ) && decide (h.aZ<=h.ar+ 1))=true by simpa using c1,show (decide (h.ar+ 1 <=h.aU) && decide (h.aU<=h.ar+h.aO+ 1))=true by simpa using c2,show decide (h.Next < 1)=false from decide_eq_false (by omega)]
   rfl
 · rw [if_neg hr]
   by_cases c1:1 <=h.aZ/\h.aZ<=h.ar+ 1
   · rw [show (decide (1 <=h.aZ) && decide (h.aZ<=h.ar+ 1))=true by simpa using c1]
     by_cases c2:h.ar+ 1 <=h.aU/\h.aU<=h.ar+h.aO+ 1
     · have c3:h.Next < 1 :=by
        rcases Int.lt_or_le h.Next 1 with c | c
        · exact c
        · exact absurd ⟨c1,c2,c⟩ hr
       rw [decide_eq_true c3,Bool.or_true];rfl
     · rw [show (decide (h.ar+ 1 <=h.aU) && decide (h.aU<=h.ar+h.aO+ 1))=false by rw [Bool.eq_false_iff];simpa using c2]
       rfl
   · rw [show (decide (1 <=h.aZ) && decide (h.aZ<=h.ar+ 1))=false by rw [Bool.eq_false_iff];simpa using c1]
     rfl
structure h1 (h:aV):Prop where
 A:zn h
 B:okB h
 C:EW h
theorem SZ {h:aV}:ln h= 0 ↔ h1 h:=by
 unfold ln
 constructor
 · intro e
   split at e
   · split at e
     · split at e
       · exact ⟨‹_›,‹_›,‹_›⟩
       · cases e
     · cases e
   · cases e
 · rintro ⟨a,b,c⟩
   rw [if_pos a,if_pos b,if_pos c]
section
variable {F:Nat} {k:aP} {W:List Int}
theorem eX.mem {to q:Nat} {L:List Int} (h:eX k W to q L):∀ a ∈ L,∃ n:Nat,a=(n:Int)/\q<=n/\n+ 3 +(wd W (n+ 1)).toNat<=to/\gr k (wd W n)=true/\isLen k (wd W n) (wd W (n+ 1))=true:=by
 induction h with
 | nil=>intro a aK;cases aK
 | cons I aa aq _ ba=>
   intro a aK
   rcases List.mem_cons.1 aK with rfl | aK
   · exact ⟨_,rfl,Nat.le_refl _,aq,I,aa⟩
   · obtain ⟨n,e,a',c8⟩:=ba a aK
     exact ⟨n,e,by omega,c8⟩
theorem eX.wy {to q:Nat} {L L':List Int} (h:eX k W to q L) (h':eX k W to q L'):L=L':=by
 induction h generalizing L' with
 | nil=>
   cases h' with
   | nil=>rfl
   | cons _ _ _ _=>omega
 | cons _ _ aq _ ba=>
   cases h' with
   | nil=>omega
   | cons _ _ _ a'=>rw [ba a']
theorem eX.len {to q:Nat} {L:List Int} (h:eX k W to q L):3 *L.length+q<=to:=by
 induction h with
 | nil=>simp
 | cons _ _ aq _ ba=>simp only [List.length_cons];omega
theorem ace {l:List Int} {N:Nat} (h:ur l) (aN:∀ i,i <l.length-> 0 <=wd l i/\wd l i <N):l.length<=N:=by
 have key:∀ i,i <l.length->(i:Int)<=wd l i:=by
  intro i
  induction i with
  | zero=>intro hi;exact (aN 0 hi).1
  | succ i ba=>
    intro hi
    have:=h i (i+ 1) (by omega) hi
    have:=ba (by omega)
    omega
 rcases Nat.eq_zero_or_pos l.length with e | e
 · omega
 · have:=key (l.length - 1) (by omega)
   have:=(aN (l.length - 1) (by omega)).2
   omega
theorem Qw (x:Int):∀ A:List Int,(du (A.map fun a=>(a,true)) x).getD false=decide (x ∈ A)
 | []=>by simp [du]
 | a::r=>by
   rw [List.map_cons,du]
   by_cases e:a=x
   · simp [e]
   · rw [if_neg e,Qw x r]
     have: ¬ x=a:=fun h=>e h.symm
     simp [this]
def view (h:aV) (k:aP) (Y O:List Int):bc:=⟨h,⟨k⟩,Y,O,(Y++O).map fun a=>(a,true)⟩
structure hn (h:aV) (k:aP) (Y O:List Int):Prop where
 y:eX k h.Words h.aZ.toNat 1 Y
 o:eX k h.Words h.aU.toNat (h.ar+ 1).toNat O
theorem h1.hE {h:aV} (ao:h1 h):h.Words.length<= 4001 :=by
 obtain ⟨⟨⟨a,b⟩,c,d⟩,e,_⟩:=ao
 unfold okB at e;omega
theorem hn.oN {h:aV} {Y O:List Int} (ai:fF k) (ao:h1 h) (ak:hn h k Y O):mK (view h k Y O):=by
 have hw:=ao.hE
 obtain ⟨⟨⟨cF,dc⟩,dJ,eH⟩,b,⟨c1,c2⟩,⟨c3,c4⟩,c5⟩:=ao
 unfold okB at b
 refine ⟨ai,by show h.Words.length<= 4900;omega,?_,fun a aK=>?_,fun x=>Qw x _⟩
 · have:=ak.y.len;have:=ak.o.len
   show Y.length+O.length<= 5000
   omega
 · have aK:a ∈ Y++O:=aK
   rcases List.mem_append.1 aK with aK | aK
   · obtain ⟨n,rfl,I,aa,aq,a'⟩:=ak.y.mem a aK
     exact ⟨by omega,by show ((n:Int).toNat)+ 3 +(wd h.Words ((n:Int).toNat+ 1)).toNat<=h.Words.length;rw [Int.toNat_natCast];omega,by rw [Int.toNat_natCast];exact aq,by rw [Int.toNat_natCast];exact a'⟩
   · obtain ⟨n,rfl,I,aa,aq,a'⟩:=ak.o.mem a aK
     exact ⟨by omega,by show ((n:Int).toNat)+ 3 +(wd h.Words ((n:Int).toNat+ 1)).toNat<=h.Words.length;rw [Int.toNat_natCast];omega,by rw [Int.toNat_natCast];exact aq,by rw [Int.toNat_natCast];exact a'⟩
def a5 (v:bc):Int:=if (v.ar++v.aO).any (ks v) then 3 else if ((v.ar++v.aO).map (ao v.H.Words)).Nodup then 0 else 6
def kM (v:bc):Int:=if (v.ar++v.aO).any (mo v) then 5 else if (free v.H).any (fun x=>!decide (x= 0)) then 1 else 0
def vX (v:bc):Int:=if (List.range v.H.aS.length).any (gW v) || v.aO.any (nG v) then 4 else 0
def my (v:bc):Int:=if a5 v= 0 then (if kM v= 0 then vX v else kM v) else a5 v
inductive Spec (h:aV) (k:aP):Option bc × Int->Prop
 | size: ¬ h1 h->Spec h k (none,ln h)
 | form:h1 h->(∀ Y O,¬ hn h k Y O)->Spec h k (none,1)
 | rest {Y O:List Int}:h1 h->hn h k Y O->Spec h k (if my (view h k Y O)= 0 then some (view h k Y O) else none,my (view h k Y O))
theorem Q7 (az:10000 <F) {h:aV} (ai:fF k) (aA:Small F h.aS.length):∃ r,qP F h k=some r/\Spec h k r:=by
 unfold qP
 have cW:A9 (⟨h.Words,h.ar,h.aO,h.aZ,h.aU,h.aS,h.Next⟩:aV)=some (ln h):=axE h
 rw [cW,Option.bind_some]
 by_cases ao:h1 h
 case neg=>
  rw [pS (fun e=>ao (SZ.1 e))]
  exact ⟨_,rfl,.size ao⟩
 rw [SZ.2 ao,pd]
 have hw:=ao.hE
 have b':=ao
 obtain ⟨⟨⟨cF,dc⟩,dJ,eH⟩,b,⟨c1,c2⟩,⟨c3,c4⟩,c5⟩:=ao
 unfold okB at b
 have t1:=acm (F:=F) (by omega) (⟨h,⟨k⟩,[],[],[]⟩:bc) ai (q:=1) (to:=h.aZ.toNat) (by omega) (by show _<=h.Words.length;omega) (by show h.Words.length<= 5000;omega) (fun p aD=>by cases aD)
 rw [show ((h.aZ.toNat:Nat):Int)=h.aZ by omega] at t1
 rw [cE (n:=h.ar+ 1) (by omega) (by omega)]
 rcases t1 with ⟨Y,iQ,e1⟩ | ⟨iS,eI,e1⟩
 case inr=>
  have e1:k4 F (⟨(⟨h.Words,h.ar,h.aO,h.aZ,h.aU,h.aS,h.Next⟩:aV),(⟨(⟨k.a4,k.a0,k.Fields,k.Names,k.a1⟩:aP)⟩:cb),[],[],[]⟩:bc) 1 h.aZ=some ([],false,(⟨h,⟨k⟩,[],[],eI⟩:bc)):=e1
  rw [e1,Option.bind_some]
  have t2:∃ r,k4 F (⟨(⟨h.Words,h.ar,h.aO,h.aZ,h.aU,h.aS,h.Next⟩:aV),(⟨(⟨k.a4,k.a0,k.Fields,k.Names,k.a1⟩:aP)⟩:cb),[],[],eI⟩:bc) (h.ar+ 1) h.aU=some r:=by
   unfold k4
   have key:∀ (f q:Nat) (acc:List Int) (m:List (Int × Bool)),q<=h.aU.toNat->h.aU.toNat - q <f->acc.length+(h.aU.toNat - q)<= 5000 -> ∃ r,mV h.aU (⟨h,⟨k⟩,[],[],eI⟩:bc) f acc m (q:Int)=some r:=by
    intro f
    induction f with
    | zero=>intro q acc m _ aQ;omega
    | succ f ba=>
      intro q acc m aQ af sl
      rw [mV]
      by_cases bs:(q:Int) <h.aU
      case neg=>rw [decide_eq_false bs];exact ⟨_,rfl⟩
      rw [decide_eq_true bs,cond_true,cE (n:=(q:Int)+ 3) (by omega) (by omega)]
      by_cases aq:h.aU <(q:Int)+ 3
      · rw [decide_eq_true aq];exact ⟨_,rfl⟩
      rw [decide_eq_false aq,cond_false]
      show ∃ r,(idx h.Words (q:Int)).bind _=some r
      rw [gp (by omega),Option.bind_some]
      show ∃ r,(idx h.Words (aE ((q:Int)+ 1))).bind _=some r
      rw [cE (n:=(q:Int)+ 1) (by omega) (by omega),m4 (i:=q+ 1) (by omega) (by omega),Option.bind_some]
      have e1:st (⟨(⟨k.a4,k.a0,k.Fields,k.Names,k.a1⟩:aP)⟩:cb) (wd h.Words q)=some (gr k (wd h.Words q)):=ab5 ai _
      show ∃ r,(st (⟨(⟨k.a4,k.a0,k.Fields,k.Names,k.a1⟩:aP)⟩:cb) (wd h.Words q)).bind _=some r
      rw [e1,Option.bind_some]
      cases aJ:gr k (wd h.Words q) with
      | false=>exact ⟨_,rfl⟩
      | true=>
        have e2:su (⟨(⟨k.a4,k.a0,k.Fields,k.Names,k.a1⟩:aP)⟩:cb) (wd h.Words q) (wd h.Words (q+ 1))=some (isLen k (wd h.Words q) (wd h.Words (q+ 1))):=ab6 ai aJ _
        rw [Bool.not_true,cond_false]
        show ∃ r,(su (⟨(⟨k.a4,k.a0,k.Fields,k.Names,k.a1⟩:aP)⟩:cb) (wd h.Words q) (wd h.Words (q+ 1))).bind _=some r
        rw [e2,Option.bind_some]
        cases ak:isLen k (wd h.Words q) (wd h.Words (q+ 1)) with
        | false=>exact ⟨_,rfl⟩
        | true=>
          obtain ⟨⟨qX,l1⟩,_⟩:=m5.1 ak
          rw [Bool.not_true,Bool.false_or,cE (n:=(q:Int)+ 3 +wd h.Words (q+ 1)) (by omega) (by omega)]
          by_cases DK:h.aU <(q:Int)+ 3 +wd h.Words (q+ 1)
          · rw [decide_eq_true DK];exact ⟨_,rfl⟩
          rw [decide_eq_false DK,cond_false,hW (by simp;omega),Option.bind_some,cE (n:=3 +wd h.Words (q+ 1)) (by omega) (by omega),cE (n:=(q:Int)+(3 +wd h.Words (q+ 1))) (by omega) (by omega),
           show (q:Int)+(3 +wd h.Words (q+ 1))=((q+ 3 +(wd h.Words (q+ 1)).toNat:Nat):Int) by omega]
          exact ba _ _ _ (by omega) (by omega) (by simp;omega)
   obtain ⟨r,ay⟩:=key F (h.ar+ 1).toNat [] eI (by omega) (by omega) (by simp;omega)
   rw [show (((h.ar+ 1).toNat:Nat):Int)=h.ar+ 1 by omega] at ay
   have ay:mV h.aU (⟨(⟨h.Words,h.ar,h.aO,h.aZ,h.aU,h.aS,h.Next⟩:aV),(⟨(⟨k.a4,k.a0,k.Fields,k.Names,k.a1⟩:aP)⟩:cb),[],[],eI⟩:bc) F [] eI (h.ar+ 1)=some r:=ay
   rw [ay]
   cases r <;> exact ⟨_,rfl⟩
  obtain ⟨r,e2⟩:=t2
  rw [e2,Option.bind_some]
  exact ⟨_,rfl,.form b' (fun Y O ak=>iS Y ak.y)⟩
 have e1:k4 F (⟨(⟨h.Words,h.ar,h.aO,h.aZ,h.aU,h.aS,h.Next⟩:aV),(⟨(⟨k.a4,k.a0,k.Fields,k.Names,k.a1⟩:aP)⟩:cb),[],[],[]⟩:bc) 1 h.aZ=some (Y,true,(⟨h,⟨k⟩,[],[],Y.map fun a=>(a,true)⟩:bc)):=e1
 rw [e1,Option.bind_some]
 have t2:=acm (F:=F) (by omega) (⟨h,⟨k⟩,[],[],Y.map fun a=>(a,true)⟩:bc) ai (q:=(h.ar+ 1).toNat) (to:=h.aU.toNat) (by omega) (by show _<=h.Words.length;omega) (by show h.Words.length<= 5000;omega) (fun p aD=>by
  obtain ⟨a,aK,rfl⟩:=List.mem_map.1 aD
  have aoK:eX k h.Words h.aZ.toNat 1 Y:=iQ
  obtain ⟨n,rfl,I,aa,_⟩:=aoK.mem a aK
  show (n:Int) <_
  omega)
 rw [show ((h.aU.toNat:Nat):Int)=h.aU by omega,show (((h.ar+ 1).toNat:Nat):Int)=h.ar+ 1 by omega] at t2
 rcases t2 with ⟨O,hJ,e2⟩ | ⟨iS,eI,e2⟩
 case inr=>
  have e2:k4 F (⟨(⟨h.Words,h.ar,h.aO,h.aZ,h.aU,h.aS,h.Next⟩:aV),(⟨(⟨k.a4,k.a0,k.Fields,k.Names,k.a1⟩:aP)⟩:cb),[],[],Y.map fun a=>(a,true)⟩:bc) (h.ar+ 1) h.aU=_:=e2
  show ∃ r,(k4 F (⟨(⟨h.Words,h.ar,h.aO,h.aZ,h.aU,h.aS,h.Next⟩:aV),(⟨(⟨k.a4,k.a0,k.Fields,k.Names,k.a1⟩:aP)⟩:cb),[],[],Y.map fun a=>(a,true)⟩:bc) (h.ar+ 1) h.aU).bind _=some r/\_
  rw [e2,Option.bind_some]
  exact ⟨_,rfl,.form b' (fun CY Aa ak=>iS Aa ak.o)⟩
 have e2:k4 F (⟨(⟨h.Words,h.ar,h.aO,h.aZ,h.aU,h.aS,h.Next⟩:aV),(⟨(⟨k.a4,k.a0,k.Fields,k.Names,k.a1⟩:aP)⟩:cb),[],[],Y.map fun a=>(a,true)⟩:bc) (h.ar+ 1) h.aU=some (O,true,(⟨h,⟨k⟩,[],[],(Y.map fun a=>(a,true))++O.map fun a=>(a,true)⟩:bc)):=e2
 show ∃ r,(k4 F (⟨(⟨h.Words,h.ar,h.aO,h.aZ,h.aU,h.aS,h.Next⟩:aV),(⟨(⟨k.a4,k.a0,k.Fields,k.Names,k.a1⟩:aP)⟩:cb),[],[],Y.map fun a=>(a,true)⟩:bc) (h.ar+ 1) h.aU).bind _=some r/\_
 rw [e2,Option.bind_some,<-List.map_append]
 have ak:hn h k Y O:=⟨iQ,hJ⟩
 have ag:=ak.oN ai b'
 have gz:A6 F (⟨(⟨h.Words,h.ar,h.aO,h.aZ,h.aU,h.aS,h.Next⟩:aV),(⟨(⟨k.a4,k.a0,k.Fields,k.Names,k.a1⟩:aP)⟩:cb),Y,O,(Y++O).map fun a=>(a,true)⟩:bc)=some (a5 (view h k Y O)):=
  aoP az (view h k Y O) ag.pa (fun a aK=>⟨(ag.p4 a aK).pos,by have:=(ag.p4 a aK).fit;omega⟩) (by have:=ag.hE;omega) (by simp [view])
 have lB:A8 F (⟨(⟨h.Words,h.ar,h.aO,h.aZ,h.aU,h.aS,h.Next⟩:aV),(⟨(⟨k.a4,k.a0,k.Fields,k.Names,k.a1⟩:aP)⟩:cb),Y,O,(Y++O).map fun a=>(a,true)⟩:bc)=some (kM (view h k Y O)):=
  ayn az ag (by show 0 <=h.ar;omega) ⟨by show 0 <=h.aZ;omega,by show h.aZ<=h.ar+ 1;omega,by show h.ar+ 1 <=h.Words.length;omega⟩ ⟨by show 0 <=h.aU;omega,by show h.aU<=h.Words.length;omega⟩
 have wM:A7 F (⟨(⟨h.Words,h.ar,h.aO,h.aZ,h.aU,h.aS,h.Next⟩:aV),(⟨(⟨k.a4,k.a0,k.Fields,k.Names,k.a1⟩:aP)⟩:cb),Y,O,(Y++O).map fun a=>(a,true)⟩:bc)=some (vX (view h k Y O)):=
  atO az ag aA.1 aA.2 (fun iR=>by
   refine Nat.le_trans (ace (N:=5000) (S7 fun i hi=>?_) (fun i hi=>?_)) (by omega)
   · have:=iR (i+ 1) hi
     unfold gW at this
     simp only [Bool.or_eq_false_iff,Bool.and_eq_false_iff,decide_eq_false_iff_not,Nat.add_sub_cancel] at this
     rcases this.1 with z | z
     · omega
     · have z: ¬ wd h.aS (i+ 1)<=wd h.aS i:=z
       show wd h.aS i <wd h.aS (i+ 1);omega
   · have:=iR i hi
     unfold gW pR at this
     simp only [Bool.or_eq_false_iff] at this
     have hm:wd (view h k Y O).H.aS i ∈ (view h k Y O).ar++(view h k Y O).aO:=by
      have:=this.2.1.1
      simp only [Bool.not_eq_false'] at this
      exact of_decide_eq_true this
     have aJ:=ag.p4 _ hm
     have I:0 <=wd h.aS i:=aJ.pos
     have aa:(wd h.aS i).toNat+ 3 +(wd h.Words ((wd h.aS i).toNat+ 1)).toNat<=h.Words.length:=aJ.fit
     exact ⟨I,by show wd h.aS i <((5000 :Nat):Int);omega⟩)
 simp only [Bool.not_true,Bool.or_self,cond_false]
 rw [gz,Option.bind_some]
 by_cases bk:a5 (view h k Y O)= 0
 case neg=>
  rw [pS bk]
  have b6:my (view h k Y O)=a5 (view h k Y O):=by unfold my;rw [if_neg bk]
  have:=Spec.rest b' ak
  rw [b6,if_neg bk] at this
  exact ⟨_,rfl,this⟩
 rw [bk,pd,lB,Option.bind_some]
 by_cases bH:kM (view h k Y O)= 0
 case neg=>
  rw [pS bH]
  have b6:my (view h k Y O)=kM (view h k Y O):=by unfold my;rw [if_pos bk,if_neg bH]
  have:=Spec.rest b' ak
  rw [b6,if_neg bH] at this
  exact ⟨_,rfl,this⟩
 rw [bH,pd,wM,Option.bind_some]
 have b6:my (view h k Y O)=vX (view h k Y O):=by unfold my;rw [if_pos bk,if_pos bH]
 have yF:=Spec.rest b' ak
 rw [b6] at yF
 by_cases bU:vX (view h k Y O)= 0
 · rw [bU] at yF ⊢
   rw [pd]
   exact ⟨_,rfl,yF⟩
 · rw [pS bU]
   rw [if_neg bU] at yF
   exact ⟨_,rfl,yF⟩
end
end J
namespace J
theorem KC {W:List Int} {p j:Nat} {x:Int} (aD:p <W.length):wd (W.set p x) j=if j=p then x else wd W j:=by
 unfold wd
 rw [List.getElem?_set]
 by_cases e:j=p
 · subst e;simp [aD]
 · have: ¬ p=j:=fun h=>e h.symm
   simp [e,this]
theorem Z4 {h:aV} {x:Int} (hy:0 <=h.ar) (ad:x ∈ free h):∃ i:Nat,i <h.Words.length/\(i= 0 \/(h.aZ<=i/\(i:Int)<=h.ar)\/h.aU<=i)/\x=wd h.Words i:=by
 unfold free at ad
 rw [List.mem_append,List.mem_append] at ad
 rcases ad with ad | ad | ad
 · obtain ⟨i,hi,e⟩:=List.getElem_of_mem ad
   have cL:i < 1 /\i <h.Words.length:=by rw [List.length_take] at hi;omega
   refine ⟨i,cL.2,.inl (by omega),?_⟩
   rw [<-e,List.getElem_take];exact (lx (List.getElem?_eq_getElem cL.2)).symm
 · obtain ⟨i,hi,e⟩:=List.getElem_of_mem ad
   have cL:i <min (h.ar+ 1).toNat h.Words.length - h.aZ.toNat:=by simpa using hi
   have aa:h.aZ.toNat+i <h.Words.length:=by omega
   refine ⟨h.aZ.toNat+i,aa,.inr (.inl ⟨by omega,by omega⟩),?_⟩
   rw [<-e,List.getElem_drop,List.getElem_take];exact (lx (List.getElem?_eq_getElem aa)).symm
 · obtain ⟨i,hi,e⟩:=List.getElem_of_mem ad
   have cL:i <h.Words.length - h.aU.toNat:=by simpa using hi
   have aa:h.aU.toNat+i <h.Words.length:=by omega
   refine ⟨h.aU.toNat+i,aa,.inr (.inr (by omega)),?_⟩
   rw [<-e,List.getElem_drop];exact (lx (List.getElem?_eq_getElem aa)).symm
theorem XR {h:aV} (aN:0 <=h.aZ/\ 0 <=h.aU) {i:Nat} (hi:i <h.Words.length) (hc:i= 0 \/(h.aZ<=i/\(i:Int)<=h.ar)\/h.aU<=i):wd h.Words i ∈ free h:=by
 have key:wd h.Words i=h.Words[i]:=lx (List.getElem?_eq_getElem hi)
 unfold free
 rw [List.mem_append,List.mem_append,key]
 rcases hc with rfl | ⟨I,aa⟩ | I
 · left
   rw [List.mem_iff_getElem?]
   exact ⟨0,by rw [List.getElem?_take,if_pos (by omega)];exact List.getElem?_eq_getElem hi⟩
 · right;left
   rw [List.mem_iff_getElem?]
   refine ⟨i - h.aZ.toNat,?_⟩
   rw [List.getElem?_drop,List.getElem?_take,if_pos (by omega),show h.aZ.toNat+(i - h.aZ.toNat)=i by omega]
   exact List.getElem?_eq_getElem hi
 · right;right
   rw [List.mem_iff_getElem?]
   refine ⟨i - h.aU.toNat,?_⟩
   rw [List.getElem?_drop,show h.aU.toNat+(i - h.aU.toNat)=i by omega]
   exact List.getElem?_eq_getElem hi
structure dl (h:aV) (k:aP) (Y O:List Int):Prop where
 hash:∀ a ∈ Y++O,1 <=ao h.Words a/\ao h.Words a <h.Next
 nodup:((Y++O).map (ao h.Words)).Nodup
 ref:∀ a ∈ Y++O,∀ w ∈ refs k h.Words a.toNat,wd h.Words w.toNat= 0 \/wd h.Words w.toNat ∈ Y++O
 a_:∀ i:Nat,i <h.Words.length->(i= 0 \/(h.aZ<=i/\(i:Int)<=h.ar)\/h.aU<=i)->wd h.Words i= 0
 S6:ur h.aS
 nt:∀ x ∈ h.aS,x ∈ O/\refs k h.Words x.toNat≠ []
 must:∀ a ∈ O,¬ a ∈ h.aS-> ∀ w ∈ refs k h.Words a.toNat,¬ (0 <wd h.Words w.toNat/\wd h.Words w.toNat<=h.ar)
section
variable {F:Nat} {k:aP} {h:aV} {Y O:List Int}
theorem hn.CB (ao:h1 h) (ak:hn h k Y O):∀ a ∈ Y,1 <=a/\a.toNat+ 3 +(wd h.Words (a.toNat+ 1)).toNat<=h.aZ.toNat:=fun a aK=>by
 obtain ⟨n,rfl,I,aa,_⟩:=ak.y.mem a aK
 exact ⟨by omega,by rw [Int.toNat_natCast];exact aa⟩
theorem hn.kD (ao:h1 h) (ak:hn h k Y O):∀ a ∈ O,h.ar+ 1 <=a/\a.toNat+ 3 +(wd h.Words (a.toNat+ 1)).toNat<=h.aU.toNat:=fun a aK=>by
 obtain ⟨n,rfl,I,aa,_⟩:=ak.o.mem a aK
 have:=ao.A.1.1
 exact ⟨by omega,by rw [Int.toNat_natCast];exact aa⟩
theorem acX (ai:fF k) (b':h1 h) (ak:hn h k Y O):my (view h k Y O)= 0 ↔ dl h k Y O:=by
 have ag:=ak.oN ai b'
 obtain ⟨⟨⟨cF,dc⟩,dJ,eH⟩,b,⟨c1,c2⟩,⟨c3,c4⟩,c5⟩:=id b'
 have hy:=ak.CB b';have ap:=ak.kD b'
 have e1:a5 (view h k Y O)= 0 ↔ (∀ a ∈ Y++O,ks (view h k Y O) a=false)/\((Y++O).map (ao h.Words)).Nodup:=by
  unfold a5
  show (if (Y++O).any (ks (view h k Y O)) then (3 :Int) else if ((Y++O).map (ao h.Words)).Nodup then 0 else 6)= 0 ↔ _
  cases ah:(Y++O).any (ks (view h k Y O)) with
  | true=>
    rw [if_pos rfl]
    refine ⟨fun e=>(by cases e),fun ⟨e,_⟩=>?_⟩
    obtain ⟨x,ad,e2⟩:=List.any_eq_true.1 ah
    rw [e x ad] at e2;cases e2
  | false=>
    rw [if_neg (by decide)]
    rw [List.any_eq_false] at ah
    have fK:∀ a ∈ Y++O,ks (view h k Y O) a=false:=fun a aK=>by simpa using ah a aK
    split
    · rename_i aA;exact ⟨fun _=>⟨fK,aA⟩,fun _=>rfl⟩
    · rename_i aA;exact ⟨fun e=>(by cases e),fun e=>absurd e.2 aA⟩
 have e2:kM (view h k Y O)= 0 ↔ (∀ a ∈ Y++O,mo (view h k Y O) a=false)/\ ∀ x ∈ free h,x= 0 :=by
  unfold kM
  show (if (Y++O).any (mo (view h k Y O)) then (5 :Int) else if (free h).any (fun x=>!decide (x= 0)) then 1 else 0)= 0 ↔ _
  cases ah:(Y++O).any (mo (view h k Y O)) with
  | true=>
    rw [if_pos rfl]
    refine ⟨fun e=>(by cases e),fun ⟨e,_⟩=>?_⟩
    obtain ⟨x,ad,e2⟩:=List.any_eq_true.1 ah
    rw [e x ad] at e2;cases e2
  | false=>
    rw [if_neg (by decide)]
    rw [List.any_eq_false] at ah
    have fK:∀ a ∈ Y++O,mo (view h k Y O) a=false:=fun a aK=>by simpa using ah a aK
    cases af:(free h).any (fun x=>!decide (x= 0)) with
    | true=>
      rw [if_pos rfl]
      refine ⟨fun e=>(by cases e),fun ⟨_,e⟩=>?_⟩
      obtain ⟨x,ad,e2⟩:=List.any_eq_true.1 af
      rw [e x ad] at e2;cases e2
    | false=>
      rw [if_neg (by decide)]
      rw [List.any_eq_false] at af
      exact ⟨fun _=>⟨fK,fun x ad=>by simpa using af x ad⟩,fun _=>rfl⟩
 have e3:vX (view h k Y O)= 0 ↔ (∀ i,i <h.aS.length->gW (view h k Y O) i=false)/\ ∀ a ∈ O,nG (view h k Y O) a=false:=by
  unfold vX
  show (if (List.range h.aS.length).any (gW (view h k Y O)) || O.any (nG (view h k Y O)) then (4 :Int) else 0)= 0 ↔ _
  cases ah:(List.range h.aS.length).any (gW (view h k Y O)) with
  | true=>
    rw [Bool.true_or,if_pos rfl]
    refine ⟨fun e=>(by cases e),fun ⟨e,_⟩=>?_⟩
    obtain ⟨x,ad,e2⟩:=List.any_eq_true.1 ah
    rw [e x (by simpa using ad)] at e2;cases e2
  | false=>
    rw [Bool.false_or]
    rw [List.any_eq_false] at ah
    have fK:∀ i,i <h.aS.length->gW (view h k Y O) i=false:=fun i hi=>by simpa using ah i (by simpa using hi)
    cases af:O.any (nG (view h k Y O)) with
    | true=>
      rw [if_pos rfl]
      refine ⟨fun e=>(by cases e),fun ⟨_,e⟩=>?_⟩
      obtain ⟨x,ad,e2⟩:=List.any_eq_true.1 af
      rw [e x ad] at e2;cases e2
    | false=>
      rw [if_neg (by decide)]
      rw [List.any_eq_false] at af
      exact ⟨fun _=>⟨fK,fun x ad=>by simpa using af x ad⟩,fun _=>rfl⟩
 have e4:my (view h k Y O)= 0 ↔ a5 (view h k Y O)= 0 /\kM (view h k Y O)= 0 /\vX (view h k Y O)= 0 :=by
  unfold my
  by_cases bk:a5 (view h k Y O)= 0
  · rw [if_pos bk]
    by_cases bH:kM (view h k Y O)= 0
    · rw [if_pos bH];exact ⟨fun e=>⟨bk,bH,e⟩,fun e=>e.2.2⟩
    · rw [if_neg bH];exact ⟨fun e=>absurd e bH,fun e=>absurd e.2.1 bH⟩
  · rw [if_neg bk];exact ⟨fun e=>absurd e bk,fun e=>absurd e.1 bk⟩
 rw [e4,e1,e2,e3]
 have qR:∀ x,(pR (view h k Y O) x=false) ↔ x ∈ O/\refs k h.Words x.toNat≠ []:=fun x=>by
  unfold pR jo
  show ((!decide (x ∈ Y++O) || (decide (0 <x) && decide (x<=h.ar))) || (refs k h.Words x.toNat).isEmpty)=false ↔ _
  rw [Bool.or_eq_false_iff,Bool.or_eq_false_iff]
  constructor
  · rintro ⟨⟨I,aa⟩,aq⟩
    have I:x ∈ Y++O:=by simp only [Bool.not_eq_false'] at I;exact of_decide_eq_true I
    refine ⟨?_,fun e=>by rw [e] at aq;cases aq⟩
    rcases List.mem_append.1 I with a' | a'
    · have:=hy x a'
      rw [decide_eq_true (by omega),decide_eq_true (by omega)] at aa
      cases aa
    · exact a'
  · rintro ⟨I,aa⟩
    have:=ap x I
    refine ⟨⟨?_,?_⟩,?_⟩
    · rw [decide_eq_true (List.mem_append_right _ I)];rfl
    · rw [decide_eq_false (p:=x<=h.ar) (by omega),Bool.and_false]
    · cases e:refs k h.Words x.toNat with
      | nil=>exact absurd e aa
      | cons _ _=>rfl
 constructor
 · rintro ⟨⟨I,aa⟩,⟨aq,a'⟩,c8,gH⟩
   refine ⟨fun a aK=>?_,aa,fun a aK w hw=>?_,fun i hi hc=>a' _ (XR ⟨by omega,by omega⟩ hi hc),S7 fun i hi=>?_,fun x ad=>?_,fun a aK aA w hw=>?_⟩
   · have:=I a aK
     unfold ks at this
     rw [Bool.or_eq_false_iff,decide_eq_false_iff_not,decide_eq_false_iff_not] at this
     have t1: ¬ ao h.Words a < 1 :=this.1
     have t2: ¬ h.Next<=ao h.Words a:=this.2
     omega
   · have:=aq a aK
     unfold mo at this
     rw [List.any_eq_false] at this
     have hY:=this w hw
     unfold rB at hY
     by_cases e:wd h.Words w.toNat= 0
     · exact .inl e
     · refine .inr ?_
       by_cases e2:wd h.Words w.toNat ∈ Y++O
       · exact e2
       · refine absurd ?_ hY
         show (!decide (wd h.Words w.toNat= 0) && !decide (wd h.Words w.toNat ∈ Y++O))=true
         rw [decide_eq_false e,decide_eq_false e2];rfl
   · have:=c8 (i+ 1) hi
     unfold gW at this
     simp only [Bool.or_eq_false_iff,Bool.and_eq_false_iff,decide_eq_false_iff_not,Nat.add_sub_cancel] at this
     rcases this.1 with z | z
     · omega
     · have z: ¬ wd h.aS (i+ 1)<=wd h.aS i:=z
       omega
   · obtain ⟨i,hi,e⟩:=Qv ad
     have:=c8 i hi
     unfold gW at this
     rw [Bool.or_eq_false_iff] at this
     have hY:pR (view h k Y O) (wd h.aS i)=false:=this.2
     rw [e] at hY
     exact (qR x).1 hY
   · rintro ⟨qa,w9⟩
     have:=gH a aK
     unfold nG at this
     have this:(!decide (a ∈ h.aS) && (refs k h.Words a.toNat).any fun w=>jo (view h k Y O) (wd h.Words w.toNat))=false:=this
     rw [decide_eq_false aA,Bool.not_false,Bool.true_and,List.any_eq_false] at this
     refine this w hw ?_
     show (decide (0 <wd h.Words w.toNat) && decide (wd h.Words w.toNat<=h.ar))=true
     rw [decide_eq_true qa,decide_eq_true w9];rfl
 · intro g
   refine ⟨⟨fun a aK=>?_,g.nodup⟩,⟨fun a aK=>?_,fun x ad=>?_⟩,fun i hi=>?_,fun a aK=>?_⟩
   · have:=g.hash a aK
     show (decide (ao h.Words a < 1) || decide (h.Next<=ao h.Words a))=false
     rw [decide_eq_false (by omega),decide_eq_false (by omega)];rfl
   · show ((refs k h.Words a.toNat).any (rB (view h k Y O)))=false
     rw [List.any_eq_false]
     intro w hw
     show ¬ (!decide (wd h.Words w.toNat= 0) && !decide (wd h.Words w.toNat ∈ Y++O))=true
     rcases g.ref a aK w hw with e | e
     · rw [decide_eq_true e];simp
     · rw [decide_eq_true e];simp
   · obtain ⟨i,hi,hc,e⟩:=Z4 (by omega) ad
     rw [e];exact g.a_ i hi hc
   · show ((decide (0 <i) && decide (wd h.aS i<=wd h.aS (i - 1))) || pR (view h k Y O) (wd h.aS i))=false
     rw [(qR _).2 (g.nt _ (Tm hi)),Bool.or_false]
     by_cases aN:0 <i
     · have:=g.S6 (i - 1) i (by omega) hi
       rw [decide_eq_false (p:=wd h.aS i<=wd h.aS (i - 1)) (by omega),Bool.and_false]
     · rw [decide_eq_false aN];rfl
   · show (!decide (a ∈ h.aS) && (refs k h.Words a.toNat).any fun w=>jo (view h k Y O) (wd h.Words w.toNat))=false
     by_cases aA:a ∈ h.aS
     · rw [decide_eq_true aA];rfl
     · rw [decide_eq_false aA,Bool.not_false,Bool.true_and,List.any_eq_false]
       intro w hw e
       have e:(decide (0 <wd h.Words w.toNat) && decide (wd h.Words w.toNat<=h.ar))=true:=e
       simp only [Bool.and_eq_true,decide_eq_true_eq] at e
       exact g.must a aK aA w hw e
theorem eX.apart {W:List Int} {to q:Nat} {L:List Int} (h:eX k W to q L):∀ a ∈ L,∀ b ∈ L,a≠b->a.toNat+ 3 +(wd W (a.toNat+ 1)).toNat<=b.toNat\/b.toNat+ 3 +(wd W (b.toNat+ 1)).toNat<=a.toNat:=by
 induction h with
 | nil=>intro a aK;cases aK
 | cons I aa aq hw ba=>
   intro a aK b ah b2
   rcases List.mem_cons.1 aK with rfl | aK
   · rcases List.mem_cons.1 ah with rfl | ah
     · exact absurd rfl b2
     · obtain ⟨n,rfl,a',_⟩:=hw.mem b ah
       left;simp only [Int.toNat_natCast];exact a'
   · rcases List.mem_cons.1 ah with rfl | ah
     · obtain ⟨n,rfl,a',_⟩:=hw.mem a aK
       right;simp only [Int.toNat_natCast];exact a'
     · exact ba a aK b ah b2
theorem hn.apart (ao:h1 h) (ak:hn h k Y O):∀ a ∈ Y++O,∀ b ∈ Y++O,a≠b->a.toNat+ 3 +(wd h.Words (a.toNat+ 1)).toNat<=b.toNat\/b.toNat+ 3 +(wd h.Words (b.toNat+ 1)).toNat<=a.toNat:=by
 intro a aK b ah b2
 have hc:=ao.C.1.2
 rcases List.mem_append.1 aK with aK | aK <;> rcases List.mem_append.1 ah with ah | ah
 · exact ak.y.apart a aK b ah b2
 · have:=ak.CB ao a aK;have:=ak.kD ao b ah;left;omega
 · have:=ak.kD ao a aK;have:=ak.CB ao b ah;right;omega
 · exact ak.o.apart a aK b ah b2
theorem eX.congr {W cy:List Int} {to q:Nat} {L:List Int} (h:eX k W to q L) (he:∀ a ∈ L,wd cy a.toNat=wd W a.toNat/\wd cy (a.toNat+ 1)=wd W (a.toNat+ 1)):eX k cy to q L:=by
 induction h with
 | nil=>exact .nil
 | @cons q r I aa aq hw ba=>
   obtain ⟨e1,e2⟩:=he _ List.mem_cons_self
   simp only [Int.toNat_natCast] at e1 e2
   have:=ba (fun a aK=>he a (List.mem_cons_of_mem _ aK))
   rw [<-e2] at this aq aa
   rw [<-e1] at I aa
   exact .cons I aa aq this
theorem awT {W cy:List Int} {q:Nat} (I:wd cy q=wd W q) (aa:wd cy (q+ 1)=wd W (q+ 1)):refs k cy q=refs k W q:=by unfold refs;rw [I,aa]
end
end J
namespace J
section
variable {F:Nat} {k:aP}
theorem awd (h:fF k) (t:Int):Aj k t=some (gr k t):=by
 have hc:=h.gG
 unfold Aj gr
 rw [cE (by omega) (by omega),Option.some.injEq,Bool.eq_iff_iff]
 simp;omega
theorem awa (h:fF k) {t:Int} (aJ:gr k t=true) (n:Int):Ai k t n=some (isLen k t n):=by
 unfold Ai fv isLen
 simp only [Option.bind_some]
 cases ah:(decide (0 <=n) && decide (n<= 500)) with
 | false=>simp
 | true=>
   by_cases aq:t < 3
   · simp [aq]
   · rw [Kq h aJ aq];simp [aq]
theorem abt (h:fF k) {t:Int} (aJ:gr k t=true) {n:Int} (aA:isLen k t n=true) {j:Nat} (aC:(j:Int) <n):uo k t (j:Int)=some (eN k t j):=by
 unfold uo eN
 obtain ⟨_,ak⟩:=m5.1 aA
 by_cases aa:t= 2
 · simp [aa]
 by_cases aq:t < 3
 · have: ¬ 3 <=t:=by omega
   simp [aa,this]
 · have ak:=ak.resolve_left aq
   have OA:3 <=t:=by omega
   have l7:j <(kL k t).length:=by omega
   rw [Kq h aJ aq,Option.bind_some,bm (List.getElem?_eq_getElem l7),List.getElem?_eq_getElem l7]
   simp [aa,OA]
theorem eX.le {W:List Int} {to q:Nat} {L:List Int} (h:eX k W to q L):q<=to:=by
 cases h with
 | nil=>exact Nat.le_refl _
 | cons I aa aq a'=>omega
theorem an6 (h:aV) (ao:fF k) {to:Nat} (fX:to<=h.Words.length) (fJ:h.Words.length<= 5000):∀ (f q:Nat) (acc:List Int),to - q <f->q<= 6000 ->acc.length+(to - q)<= 6000 ->
 (∃ L,eX k h.Words to q L/\uk h k (to:Int) f acc (q:Int)=some (.go (acc++L,(to:Int)))) \/
 ((∀ L,¬ eX k h.Words to q L)/\(uk h k (to:Int) f acc (q:Int)=some (.out ([],false))\/ ∃ x,uk h k (to:Int) f acc (q:Int)=some (.go x)/\x.2 ≠(to:Int))):=by
 intro f
 induction f with
 | zero=>intro q acc h;omega
 | succ f ba=>
   intro q acc af aQ sl
   rw [uk]
   by_cases bs:q <to
   case neg=>
    by_cases e:q=to
    · subst e
      refine .inl ⟨[],.nil,?_⟩
      rw [bE];simp
    · rw [show decide ((q:Int) <(to:Int))=false from decide_eq_false (by omega)]
      exact .inr ⟨fun L dK=>by have:=dK.le;omega,.inr ⟨(acc,(q:Int)),rfl,by show (q:Int)≠(to:Int);omega⟩⟩
   rw [bF bs,cond_true,cE (n:=(q:Int)+ 3) (by omega) (by omega)]
   by_cases aq:(to:Int) <(q:Int)+ 3
   · rw [decide_eq_true aq]
     refine .inr ⟨fun L dK=>?_,.inl rfl⟩
     obtain ⟨_,_,_,_,h,_⟩:=dK.inv bs
     omega
   rw [decide_eq_false aq,cond_false,gp (by omega),Option.bind_some]
   have e1:Aj (⟨k.a4,k.a0,k.Fields,k.Names,k.a1⟩:aP) (wd h.Words q)=some (gr k (wd h.Words q)):=awd ao _
   rw [e1,Option.bind_some]
   cases aJ:gr k (wd h.Words q) with
   | false=>
     refine .inr ⟨fun L dK=>?_,.inl rfl⟩
     obtain ⟨_,_,h,_⟩:=dK.inv bs
     rw [aJ] at h;cases h
   | true=>
     have e2:Ai (⟨k.a4,k.a0,k.Fields,k.Names,k.a1⟩:aP) (wd h.Words q) (wd h.Words (q+ 1))=some (isLen k (wd h.Words q) (wd h.Words (q+ 1))):=awa ao aJ _
     rw [Bool.not_true,cond_false,Option.bind_some,cE (n:=(q:Int)+ 1) (by omega) (by omega),m4 (i:=q+ 1) (by omega) (by omega),Option.bind_some,e2,Option.bind_some]
     cases ak:isLen k (wd h.Words q) (wd h.Words (q+ 1)) with
     | false=>
       refine .inr ⟨fun L dK=>?_,.inl rfl⟩
       obtain ⟨_,_,_,h,_⟩:=dK.inv bs
       rw [ak] at h;cases h
     | true=>
       obtain ⟨⟨qX,l1⟩,_⟩:=m5.1 ak
       rw [Bool.not_true,cond_false,hW (by simp;omega),Option.bind_some,Option.bind_some,cE (n:=3 +wd h.Words (q+ 1)) (by omega) (by omega),cE (n:=(q:Int)+(3 +wd h.Words (q+ 1))) (by omega) (by omega)]
       rw [show (q:Int)+(3 +wd h.Words (q+ 1))=((q+ 3 +(wd h.Words (q+ 1)).toNat:Nat):Int) by omega]
       rcases ba (q+ 3 +(wd h.Words (q+ 1)).toNat) (acc++[(q:Int)]) (by omega) (by omega) (by simp;omega) with ⟨L,dK,e⟩ | ⟨aA,e⟩
       · refine .inl ⟨(q:Int)::L,.cons aJ ak dK.le dK,?_⟩
         rw [e];simp
       · refine .inr ⟨fun L dK=>?_,e⟩
         obtain ⟨r,_,_,_,_,h⟩:=dK.inv bs
         exact aA r h
theorem abq (az:6000 <F) (h:aV) (ao:fF k) {to q:Nat} (aQ:q<= 5000) (fX:to<=h.Words.length) (fJ:h.Words.length<= 5000) :
 (∃ L,eX k h.Words to q L/\o0 F h k (q:Int) (to:Int)=some (L,true))\/((∀ L,¬ eX k h.Words to q L)/\ ∃ l,o0 F h k (q:Int) (to:Int)=some (l,false)):=by
 unfold o0
 rcases an6 h ao fX fJ F q [] (by omega) (by omega) (by simp;omega) with ⟨L,dK,e⟩ | ⟨aA,e | ⟨x,e,ad⟩⟩
 · exact .inl ⟨L,dK,by rw [e,oI];simp⟩
 · exact .inr ⟨aA,[],by rw [e,ab2]⟩
 · exact .inr ⟨aA,x.1,by rw [e,oI];show some (x.1,decide (x.2 =(to:Int)))=_;rw [decide_eq_false ad]⟩
theorem Nu {α ρ:Type} {p:α->Bool} {e:ρ}:∀ l:List α,l.findSome? (fun x=>if p x then some e else none)=if l.any p then some e else none
 | []=>rfl
 | x::r=>by
   rw [List.findSome?_cons,List.any_cons]
   cases p x with
   | true=>rfl
   | false=>simp only [Bool.false_or];exact Nu r
theorem BV {l:List Int} (ak:Small F l.length) (n:Int):kg F l n=some (decide (n ∈ l)):=by
 unfold kg
 have l1:xH l n F 0 =some (cn (l.findSome? fun x=>if decide (x=n) then some true else none)):=each _ ak.1 (fun f i x ad=>by
  rw [xH,bF (List.getElem?_eq_some_iff.1 ad).1,cond_true,bm ad,Option.bind_some]
  cases decide (x=n) <;> rfl) (fun f=>by rw [xH,bE];rfl) ak.2
 rw [l1,Nu]
 by_cases e:n ∈ l
 · rw [show (l.any fun x=>decide (x=n))=true from List.any_eq_true.2 ⟨n,e,by simp⟩,decide_eq_true e];rfl
 · rw [show (l.any fun x=>decide (x=n))=false from List.any_eq_false.2 fun x ad=>by simp;rintro rfl;exact e ad,decide_eq_false e];rfl
theorem awc (az:6000 <F) (h:aV) (ao:fF k) {q:Nat} (aQ:q+ 3 +(wd h.Words (q+ 1)).toNat<=h.Words.length) (fJ:h.Words.length<= 5000) (aJ:gr k (wd h.Words q)=true) (ak:isLen k (wd h.Words q) (wd h.Words (q+ 1))=true) :
 nQ F h k (q:Int)=some (refs k h.Words q):=by
 obtain ⟨⟨qX,l1⟩,_⟩:=m5.1 ak
 unfold nQ
 generalize aA:(wd h.Words (q+ 1)).toNat=n at aQ
 have Db:wd h.Words (q+ 1)=(n:Int):=by omega
 have mZ:=ak
 rw [Db] at mZ
 have l1:=r2 (l:=List.range n) (fun f acc i=>rX (q:Int) h k f acc (i:Int)) (fun j=>if eN k (wd h.Words q) j then [((q+ 3 +j:Nat):Int)] else []) 1 5000 (fun x _=>by split <;> simp) (fun f i x acc ad aK=>by
  have hi:i <n:=by have:=(List.getElem?_eq_some_iff.1 ad).1;simpa using this
  rw [List.getElem?_range hi] at ad
  simp only [Option.some.injEq] at ad
  subst ad
  rw [rX,cE (n:=(q:Int)+ 1) (by omega) (by omega),m4 (i:=q+ 1) (by omega) (by omega),Option.bind_some,Db,bF hi,cond_true,gp (by omega),Option.bind_some]
  have e1:uo (⟨k.a4,k.a0,k.Fields,k.Names,k.a1⟩:aP) (wd h.Words q) (i:Int)=some (eN k (wd h.Words q) i):=abt ao aJ mZ (by omega)
  rw [e1,Option.bind_some]
  show _=rX (q:Int) h k f _ _
  cases eN k (wd h.Words q) i with
  | true=>
    rw [cond_true,cE (n:=(q:Int)+ 3) (by omega) (by omega),cE (n:=(q:Int)+ 3 +i) (by omega) (by omega),hW (by simp;omega),Option.bind_some,Option.bind_some,eK hi (by omega),if_pos rfl]
    congr 2
  | false=>
    rw [cond_false,Option.bind_some,eK hi (by omega),if_neg (by decide),List.append_nil]) (fun f acc=>by
  rw [List.length_range,rX,cE (n:=(q:Int)+ 1) (by omega) (by omega),m4 (i:=q+ 1) (by omega) (by omega),Option.bind_some,Db,bE];rfl) (F:=F) (by simp;omega) (acc:=[]) (by simp;omega)
 have l1:rX (q:Int) h k F [] 0 =_:=l1
 rw [l1,Option.bind_some,List.nil_append,refs,aA]
theorem abr (az:6000 <F) {h:aV} (ai:fF k) (ao:h1 h):(∃ Y O,hn h k Y O/\o1 F h k=some (Y,O,true))\/((∀ Y O,¬ hn h k Y O)/\ ∃ Y O,o1 F h k=some (Y,O,false)):=by
 have hw:=ao.hE
 obtain ⟨⟨⟨cF,dc⟩,dJ,eH⟩,b,⟨c1,c2⟩,⟨c3,c4⟩,c5⟩:=id ao
 unfold okB at b
 unfold o1
 have t1:=abq (F:=F) az h ai (q:=1) (to:=h.aZ.toNat) (by omega) (by omega) (by omega)
 have t2:=abq (F:=F) az h ai (q:=(h.ar+ 1).toNat) (to:=h.aU.toNat) (by omega) (by omega) (by omega)
 rw [show ((h.aZ.toNat:Nat):Int)=h.aZ by omega] at t1
 rw [show ((h.aU.toNat:Nat):Int)=h.aU by omega,show (((h.ar+ 1).toNat:Nat):Int)=h.ar+ 1 by omega] at t2
 rw [cE (n:=h.ar+ 1) (by omega) (by omega)]
 have u1:∀ r,o0 F h k 1 h.aZ=some r->o0 F (⟨h.Words,h.ar,h.aO,h.aZ,h.aU,h.aS,h.Next⟩:aV) (⟨k.a4,k.a0,k.Fields,k.Names,k.a1⟩:aP) 1 h.aZ=some r:=fun r e=>e
 have u2:∀ r,o0 F h k (h.ar+ 1) h.aU=some r->o0 F (⟨h.Words,h.ar,h.aO,h.aZ,h.aU,h.aS,h.Next⟩:aV) (⟨k.a4,k.a0,k.Fields,k.Names,k.a1⟩:aP) (h.ar+ 1) h.aU=some r:=fun r e=>e
 rcases t1 with ⟨Y,iQ,e1⟩ | ⟨Bz,Y,e1⟩ <;> rcases t2 with ⟨O,hJ,e2⟩ | ⟨BA,O,e2⟩ <;> rw [u1 _ e1,Option.bind_some,u2 _ e2,Option.bind_some]
 · exact .inl ⟨Y,O,⟨iQ,hJ⟩,rfl⟩
 · exact .inr ⟨fun Y O h=>BA _ h.o,Y,O,rfl⟩
 · exact .inr ⟨fun Y O h=>Bz _ h.y,Y,O,rfl⟩
 · exact .inr ⟨fun Y O h=>Bz _ h.y,Y,O,rfl⟩
end
end J
namespace J
section
variable {F:Nat} {k:aP} {h:aV} {Y O:List Int}
theorem PX {b:Bool} {e:Int} {K:Option (Way Int Unit)}:gy (if b=true then some e else none) K=cond b (some (.out e)) K:=by cases b <;> rfl
theorem awh (az:10000 <F) (I:1 <=h.Next) (aA:h.Next<= 9223372036854775807) (ag:mK (view h k Y O)):xi h (Y++O) F 0 =some (cn (if (Y++O).any (ks (view h k Y O)) then some 3 else none)):=by
 have hc:Y.length+O.length<= 5000 :=ag.pa
 have hw:h.Words.length<= 4900 :=ag.hE
 rw [<-lZ]
 exact each _ (by simp;omega) (fun f i a aK=>by
  have hm:=List.mem_of_getElem? aK
  have aJ:o4 (view h k Y O) a:=ag.p4 a hm
  have aN:0 <=a:=aJ.pos
  have aa:a.toNat+ 3 +(wd h.Words (a.toNat+ 1)).toNat<=h.Words.length:=aJ.fit
  rw [xi,bF (List.getElem?_eq_some_iff.1 aK).1,cond_true,bm aK,Option.bind_some,cE (n:=a+ 2) (by omega) (by omega),m4 (i:=a.toNat+ 2) (by omega) (by omega),Option.bind_some]
  unfold fv
  rw [Option.bind_some,cE (n:=h.Next - 1) (by omega) (by omega),PX]
  congr 1
  show _=(decide (wd h.Words (a.toNat+ 2) < 1) || decide (h.Next<=wd h.Words (a.toNat+ 2)))
  rw [Bool.eq_iff_iff];simp;omega) (fun f=>by rw [xi,bE];rfl) (by simp;omega)
theorem atN {l:List Int}:(List.range l.length).any (fun i=>(List.range i).any fun j=>decide (wd l i=wd l j))= !decide l.Nodup:=by
 rw [Bool.eq_iff_iff,List.any_eq_true]
 simp only [List.mem_range,List.any_eq_true,decide_eq_true_eq,Bool.not_eq_true',decide_eq_false_iff_not]
 rw [List.Nodup,List.pairwise_iff_getElem]
 constructor
 · rintro ⟨i,hi,j,aC,e⟩ aD
   have:=aD j i (by omega) hi aC
   rw [lx (List.getElem?_eq_getElem hi),lx (List.getElem?_eq_getElem (by omega:j <l.length))] at e
   exact this e.symm
 · intro aD
   apply Classical.byContradiction
   intro b2
   refine aD fun j i aC hi fb e=>b2 ⟨i,hi,j,fb,?_⟩
   rw [lx (List.getElem?_eq_getElem hi),lx (List.getElem?_eq_getElem aC)];exact e.symm
theorem awi (az:10000 <F) (ag:mK (view h k Y O)):uc F h (Y++O) F 0 =some (cn (if ((Y++O).map (ao h.Words)).Nodup then none else some 6)):=by
 have hc:Y.length+O.length<= 5000 :=ag.pa
 have hw:h.Words.length<= 4900 :=ag.hE
 have ak:(Y++O).length<= 5000 :=by simp;omega
 have at_:∀ i,i <(Y++O).length->idx (Y++O) (i:Int)=some (wd (Y++O) i)/\idx h.Words (aE (wd (Y++O) i+ 2))=some (wd ((Y++O).map (ao h.Words)) i):=fun i hi=>by
  have e1:wd (Y++O) i=(Y++O)[i]:=lx (List.getElem?_eq_getElem hi)
  have aJ:o4 (view h k Y O) (Y++O)[i]:=ag.p4 _ (List.getElem_mem hi)
  have aN:0 <=(Y++O)[i]:=aJ.pos
  have aa:(Y++O)[i].toNat+ 3 +(wd h.Words ((Y++O)[i].toNat+ 1)).toNat<=h.Words.length:=aJ.fit
  refine ⟨gp hi,?_⟩
  rw [e1,cE (by omega) (by omega),m4 (i:=(Y++O)[i].toNat+ 2) (by omega) (by omega)]
  refine congrArg some (lx ?_).symm
  rw [List.getElem?_map,List.getElem?_eq_getElem hi];rfl
 have l1:uc F h (Y++O) F 0 =some (cn ((List.range (Y++O).length).findSome? fun i=>if (List.range i).any (fun j=>decide (wd ((Y++O).map (ao h.Words)) i=wd ((Y++O).map (ao h.Words)) j)) then some 6 else none)):=jA _ (by omega) (fun f i hi=>by
  rw [uc,bF hi,cond_true]
  have cj:xj h (Y++O) (i:Int) F 0 =some (cn ((List.range i).findSome? fun j=>if decide (wd ((Y++O).map (ao h.Words)) i=wd ((Y++O).map (ao h.Words)) j) then some 6 else none)):=jA _ (by omega) (fun bG j aC=>by
   rw [xj,bF aC,cond_true,(at_ i hi).1,Option.bind_some,(at_ i hi).2,Option.bind_some,(at_ j (by omega)).1,Option.bind_some,(at_ j (by omega)).2,Option.bind_some]
   cases decide (wd ((Y++O).map (ao h.Words)) i=wd ((Y++O).map (ao h.Words)) j) <;> rfl) (fun bG=>by rw [xj,bE];rfl) (by omega)
  rw [cj,lZ]
  cases (List.range i).any (fun j=>decide (wd ((Y++O).map (ao h.Words)) i=wd ((Y++O).map (ao h.Words)) j)) <;> rfl) (fun f=>by rw [uc,bE];rfl) (by omega)
 rw [l1,lZ]
 have e:=atN (l:=(Y++O).map (ao h.Words))
 rw [List.length_map] at e
 rw [e]
 by_cases aL:((Y++O).map (ao h.Words)).Nodup
 · rw [if_pos aL,decide_eq_true aL];rfl
 · rw [if_neg aL,decide_eq_false aL];rfl
theorem FL (az:10000 <F) (ag:mK (view h k Y O)) {a:Int} (aK:a ∈ Y++O):nQ F (⟨h.Words,h.ar,h.aO,h.aZ,h.aU,h.aS,h.Next⟩:aV) (⟨k.a4,k.a0,k.Fields,k.Names,k.a1⟩:aP) a=some (refs k h.Words a.toNat):=by
 have aJ:o4 (view h k Y O) a:=ag.p4 a aK
 have hw:h.Words.length<= 4900 :=ag.hE
 have:=awc (F:=F) (by omega) h ag.jJ (q:=a.toNat) aJ.fit (by omega) aJ.tag aJ.len
 rwa [show ((a.toNat:Nat):Int)=a by have:=aJ.pos;omega] at this
theorem awj (az:10000 <F) (ag:mK (view h k Y O)):xk F h k (Y++O) F 0 =some (cn (if (Y++O).any (mo (view h k Y O)) then some 5 else none)):=by
 have hc:Y.length+O.length<= 5000 :=ag.pa
 have hw:h.Words.length<= 4900 :=ag.hE
 rw [<-lZ]
 exact each _ (by simp;omega) (fun f i a aK=>by
  have hm:=List.mem_of_getElem? aK
  have aJ:o4 (view h k Y O) a:=ag.p4 a hm
  have Ir:(refs k h.Words a.toNat).length<= 5000 :=J0 ag aJ
  rw [xk,bF (List.getElem?_eq_some_iff.1 aK).1,cond_true,bm aK,Option.bind_some,FL az ag hm,Option.bind_some]
  have cj:ud F h (Y++O) (refs k h.Words a.toNat) F 0 =some (cn ((refs k h.Words a.toNat).findSome? fun w=>if rB (view h k Y O) w then some 5 else none)):=each _ (by omega) (fun bG i' w fY=>by
   have dV:=List.mem_of_getElem? fY
   have ad:idx h.Words w=some (wd h.Words w.toNat):=aJ.JZ dV
   rw [ud,bF (List.getElem?_eq_some_iff.1 fY).1,cond_true,bm fY,Option.bind_some,ad,Option.bind_some,Option.bind_some,ad,Option.bind_some,BV ⟨by simp;omega,by simp;omega⟩,Option.bind_some]
   show _=gy (if (!decide (wd h.Words w.toNat= 0) && !decide (wd h.Words w.toNat ∈ Y++O))=true then some 5 else none) _
   cases decide (wd h.Words w.toNat= 0) <;> cases decide (wd h.Words w.toNat ∈ Y++O) <;> rfl) (fun bG=>by rw [ud,bE];rfl) (by omega)
  rw [cj,lZ]
  show _=gy (if (refs k h.Words a.toNat).any (rB (view h k Y O)) then some 5 else none) _
  cases (refs k h.Words a.toNat).any (rB (view h k Y O)) <;> rfl) (fun f=>by rw [xk,bE];rfl) (by simp;omega)
theorem awk (az:10000 <F) (b':h1 h):rU h F 0 =some (cn (if (free h).any (fun x=>!decide (x= 0)) then some 1 else none)):=by
 have hw:=b'.hE
 obtain ⟨⟨⟨cF,dc⟩,dJ,eH⟩,b,⟨c1,c2⟩,⟨c3,c4⟩,c5⟩:=id b'
 have l1:rU h F 0 =some (cn ((List.range h.Words.length).findSome? fun i=>if (!decide (wd h.Words i= 0) && (decide ((i:Int)= 0) || ((decide (h.aZ<=(i:Int)) && decide ((i:Int)<=h.ar)) || decide (h.aU<=(i:Int))))) then some 1 else none)):=jA _ (by omega) (fun f i hi=>by
  rw [rU,bF hi,cond_true,gp hi,Option.bind_some]
  unfold fv
  rw [Option.bind_some]
  cases decide (wd h.Words i= 0) <;> cases decide ((i:Int)= 0) <;> cases ((decide (h.aZ<=(i:Int)) && decide ((i:Int)<=h.ar)) || decide (h.aU<=(i:Int))) <;> rfl) (fun f=>by rw [rU,bE];rfl) (by omega)
 rw [l1,lZ]
 refine congrArg (fun b:Bool=>some (cn (if b=true then some 1 else none))) ?_
 rw [Bool.eq_iff_iff,List.any_eq_true,List.any_eq_true]
 constructor
 · rintro ⟨i,hi,e⟩
   simp only [Bool.and_eq_true,Bool.or_eq_true,Bool.not_eq_true',decide_eq_false_iff_not,decide_eq_true_eq] at e
   rw [List.mem_range] at hi
   exact ⟨wd h.Words i,XR ⟨by omega,by omega⟩ hi (by rcases e.2 with e | e | e;exact .inl (by omega);exact .inr (.inl e);exact .inr (.inr e)),by simpa using e.1⟩
 · rintro ⟨x,ad,e⟩
   obtain ⟨i,hi,hc,rfl⟩:=Z4 (by omega) ad
   refine ⟨i,List.mem_range.2 hi,?_⟩
   simp only [Bool.and_eq_true,Bool.or_eq_true,Bool.not_eq_true',decide_eq_false_iff_not,decide_eq_true_eq] at e ⊢
   exact ⟨e,by rcases hc with e | e | e;exact .inl (by omega);exact .inr (.inl e);exact .inr (.inr e)⟩
theorem aaB (b':h1 h) (ak:hn h k Y O) {x:Int}:x ∈ O ↔ x ∈ Y++O/\jo (view h k Y O) x=false:=by
 obtain ⟨⟨⟨cF,dc⟩,dJ,eH⟩,b,⟨c1,c2⟩,⟨c3,c4⟩,c5⟩:=id b'
 have e:jo (view h k Y O) x=(decide (0 <x) && decide (x<=h.ar)):=rfl
 rw [e]
 constructor
 · intro ad
   have:=ak.kD b' x ad
   exact ⟨List.mem_append.2 (.inr ad),by simp;omega⟩
 · rintro ⟨ad,e⟩
   rcases List.mem_append.1 ad with ad | ad
   · have:=ak.CB b' x ad
     simp at e;omega
   · exact ad
theorem awo (az:10000 <F) (b':h1 h) (ak:hn h k Y O) (ag:mK (view h k Y O)) (x:Int) (Z:Option Int) (l4:Z=some x) (K:Option (Way Int Unit)):((kg F O x).bind fun St=>
 cond (!St) (some (.out 4)) (Z.bind fun TR=>
 (nQ F (⟨h.Words,h.ar,h.aO,h.aZ,h.aU,h.aS,h.Next⟩:aV) (⟨k.a4,k.a0,k.Fields,k.Names,k.a1⟩:aP) TR).bind fun Su=>
 cond (decide ((Su.length:Int)= 0)) (some (.out 4)) K))=gy (if pR (view h k Y O) x then some 4 else none) K:=by
 have hc:Y.length+O.length<= 5000 :=ag.pa
 subst l4
 rw [BV ⟨by omega,by omega⟩,Option.bind_some,PX]
 have e:pR (view h k Y O) x=(!decide (x ∈ Y++O) || jo (view h k Y O) x || (refs k h.Words x.toNat).isEmpty):=rfl
 rw [e]
 by_cases ad:x ∈ O
 · obtain ⟨I,aa⟩:=(aaB b' ak).1 ad
   rw [decide_eq_true ad,decide_eq_true I,aa,Bool.not_true,cond_false,Option.bind_some,FL az ag I,Option.bind_some]
   cases refs k h.Words x.toNat with
   | nil=>rfl
   | cons a r=>rw [decide_eq_false (by simp;omega)];rfl
 · rw [decide_eq_false ad]
   have:(!decide (x ∈ Y++O) || jo (view h k Y O) x)=true:=by
    cases aL:decide (x ∈ Y++O) with
    | false=>rfl
    | true=>
      cases hy:jo (view h k Y O) x with
      | true=>rfl
      | false=>exact absurd ((aaB b' ak).2 ⟨of_decide_eq_true aL,hy⟩) ad
   rw [this];rfl
theorem awl (az:10000 <F) (b':h1 h) (ak:hn h k Y O) (ag:mK (view h k Y O)) (aA:Small F h.aS.length):nO F h k (Y,O,true) F 0 =some (cn (if (List.range h.aS.length).any (gW (view h k Y O)) then some 4 else none)):=by
 rw [<-lZ]
 exact jA _ aA.1 (fun f i hi=>by
  rw [nO,bF hi,cond_true]
  have e:gW (view h k Y O) i=((decide (0 <i) && decide (wd h.aS i<=wd h.aS (i - 1))) || pR (view h k Y O) (wd h.aS i)):=rfl
  have ay:=awo az b' ak ag (wd h.aS i) (idx h.aS (i:Int)) (gp hi) (nO F h k (Y,O,true) f (aE ((i:Int)+ 1)))
  rw [e]
  have Il:=aA.1
  by_cases aN:0 <i
  · rw [show decide ((0 :Int) <(i:Int))=true from decide_eq_true (by omega),cond_true]
    rw [show ∀ K:Int->Option (Way Int Unit),(idx h.aS (i:Int)).bind K=K (wd h.aS i) from fun K=>by rw [gp hi];rfl]
    rw [cE (n:=(i:Int) - 1) (by omega) (by omega),m4 (i:=i - 1) (by omega) (by omega),Option.bind_some,decide_eq_true aN,Bool.true_and]
    cases decide (wd h.aS i<=wd h.aS (i - 1)) with
    | true=>rfl
    | false=>
      rw [cond_false,Bool.false_or,<-ay]
      rw [gp hi];rfl
  · rw [show decide ((0 :Int) <(i:Int))=false from decide_eq_false (by omega),cond_false,decide_eq_false aN,Bool.false_and,Bool.false_or,<-ay]
    rw [gp hi];rfl) (fun f=>by rw [nO,bE];rfl) aA.2
theorem awm (az:10000 <F) (ag:mK (view h k Y O)) (aA:Small F h.aS.length):qk F h k (Y,O,true) F 0 =some (cn (if O.any (nG (view h k Y O)) then some 4 else none)):=by
 have hc:Y.length+O.length<= 5000 :=ag.pa
 rw [<-lZ]
 exact each _ (by omega) (fun f i a aK=>by
  have hm:=List.mem_append.2 (Or.inr (a:=a ∈ Y) (List.mem_of_getElem? aK))
  have aJ:o4 (view h k Y O) a:=ag.p4 a hm
  have Ir:(refs k h.Words a.toNat).length<= 5000 :=J0 ag aJ
  rw [qk,bF (List.getElem?_eq_some_iff.1 aK).1,cond_true,bm aK,Option.bind_some,FL az ag hm,Option.bind_some]
  have cj:oX F h (Y,O,true) (i:Int) (refs k h.Words a.toNat) F 0 =some (cn ((refs k h.Words a.toNat).findSome? fun w=>if (!decide (a ∈ h.aS) && jo (view h k Y O) (wd h.Words w.toNat)) then some 4 else none)):=each _ (by omega) (fun bG i' w fY=>by
   have dV:=List.mem_of_getElem? fY
   have ad:idx h.Words w=some (wd h.Words w.toNat):=aJ.JZ dV
   rw [oX,bF (List.getElem?_eq_some_iff.1 fY).1,cond_true,bm fY,Option.bind_some,ad,Option.bind_some]
   unfold fv
   rw [Option.bind_some,bm aK,Option.bind_some,BV aA,Option.bind_some,PX]
   have e:jo (view h k Y O) (wd h.Words w.toNat)=(decide (1 <=wd h.Words w.toNat) && decide (wd h.Words w.toNat<=h.ar)):=rfl
   rw [e]
   cases (decide (1 <=wd h.Words w.toNat) && decide (wd h.Words w.toNat<=h.ar)) <;> cases decide (a ∈ h.aS) <;> rfl) (fun bG=>by rw [oX,bE];rfl) (by omega)
  rw [cj,lZ]
  have e:nG (view h k Y O) a=((refs k h.Words a.toNat).any fun w=>!decide (a ∈ h.aS) && jo (view h k Y O) (wd h.Words w.toNat)):=by
   show (!decide (a ∈ h.aS) && (refs k h.Words a.toNat).any fun w=>jo (view h k Y O) (wd h.Words w.toNat))=_
   cases decide (a ∈ h.aS) with
   | true=>simp
   | false=>simp
  rw [e]
  cases (refs k h.Words a.toNat).any (fun w=>!decide (a ∈ h.aS) && jo (view h k Y O) (wd h.Words w.toNat)) <;> rfl) (fun f=>by rw [qk,bE];rfl) (by omega)
theorem awn (az:10000 <F) (ai:fF k) (aA:Small F h.aS.length) (hi:h.Next<= 9223372036854775807):∃ r,Af F h k=some r.2 /\Spec h k r:=by
 unfold Af
 by_cases dB:zn h
 case neg=>
  refine ⟨(none,ln h),?_,.size fun s=>dB s.A⟩
  show _=some (ln h)
  unfold ln fv
  rw [if_neg dB,Option.bind_some,Option.bind_some]
  cases ah:(decide (3 <=h.ar) && decide (h.ar<= 2000)) with
  | false=>rfl
  | true=>
    cases A2:(decide (3 <=h.aO) && decide (h.aO<= 2000)) with
    | false=>rfl
    | true=>exact absurd ⟨by simpa using ah,by simpa using A2⟩ dB
 obtain ⟨⟨cF,dc⟩,dJ,eH⟩:=id dB
 have bX:fv h.ar 3 2000 =some true:=by unfold fv;rw [decide_eq_true cF,decide_eq_true dc];rfl
 have eb:fv h.aO 3 2000 =some true:=by unfold fv;rw [decide_eq_true dJ,decide_eq_true eH];rfl
 rw [bX,eb,Option.bind_some,Option.bind_some,Bool.not_true,cond_false,cond_false,cE (n:=1 +h.ar) (by omega) (by omega),cE (n:=1 +h.ar+h.aO) (by omega) (by omega)]
 by_cases bN:okB h
 case neg=>
  refine ⟨(none,ln h),?_,.size fun s=>bN s.B⟩
  show _=some (ln h)
  unfold ln
  rw [if_pos dB,if_neg bN]
  unfold okB at bN
  rw [decide_eq_false bN];rfl
 have Yg:=bN
 unfold okB at Yg
 rw [decide_eq_true Yg,Bool.not_true,cond_false,cE (n:=h.ar+ 1) (by omega) (by omega),cE (n:=h.ar+h.aO) (by omega) (by omega),cE (n:=h.ar+h.aO+ 1) (by omega) (by omega)]
 by_cases hr:EW h
 case neg=>
  refine ⟨(none,ln h),?_,.size fun s=>hr s.C⟩
  show _=some (ln h)
  unfold ln fv
  rw [if_pos dB,if_pos bN,if_neg hr,Option.bind_some,Option.bind_some]
  cases ah:(decide (1 <=h.aZ) && decide (h.aZ<=h.ar+ 1)) with
  | false=>rfl
  | true=>
    cases A2:(decide (h.ar+ 1 <=h.aU) && decide (h.aU<=h.ar+h.aO+ 1)) with
    | false=>rfl
    | true=>
      cases Yq:decide (h.Next < 1) with
      | true=>rfl
      | false=>exact absurd ⟨by simpa using ah,by simpa using A2,by simp at Yq;omega⟩ hr
 have b':h1 h:=⟨dB,bN,hr⟩
 obtain ⟨⟨c1,c2⟩,⟨c3,c4⟩,c5⟩:=id hr
 have gk:fv h.aZ 1 (h.ar+ 1)=some true:=by unfold fv;rw [decide_eq_true c1,decide_eq_true c2];rfl
 have gE:fv h.aU (h.ar+ 1) (h.ar+h.aO+ 1)=some true:=by unfold fv;rw [decide_eq_true c3,decide_eq_true c4];rfl
 rw [gk,gE,Option.bind_some,Option.bind_some,Bool.not_true,cond_false,decide_eq_false (show ¬ h.Next < 1 by omega),Bool.or_self,cond_false]
 have u1:∀ r,o1 F h k=some r->o1 F (⟨h.Words,h.ar,h.aO,h.aZ,h.aU,h.aS,h.Next⟩:aV) (⟨k.a4,k.a0,k.Fields,k.Names,k.a1⟩:aP)=some r:=fun r e=>e
 rcases abr (F:=F) (by omega) ai b' with ⟨Y,O,ak,e⟩ | ⟨iS,Y,O,e⟩
 case inr=>
  refine ⟨(none,1),?_,.form b' iS⟩
  rw [u1 _ e];rfl
 have ag:=ak.oN ai b'
 have hc:Y.length+O.length<= 5000 :=ag.pa
 refine ⟨_,?_,.rest b' ak⟩
 show _=some (my (view h k Y O))
 have dN:bR 8 ([]:List Int) Y=some Y:=by rw [hW (by simp;omega)];rfl
 have f':bR 8 Y O=some (Y++O):=hW (by omega)
 have l1:=awh (k:=k) (Y:=Y) (O:=O) az c5 hi ag
 have cj:=awi (F:=F) az ag
 have y1:=awj (F:=F) az ag
 have Ey:=awk (F:=F) az b'
 have Qc:=awl az b' ak ag aA
 have Qd:=awm az ag aA
 rw [u1 _ e,Option.bind_some]
 show (bR 8 ([]:List Int) Y).bind _=_
 rw [dN,Option.bind_some]
 show (bR 8 Y O).bind _=_
 rw [f',Option.bind_some,l1,jc]
 unfold my a5
 show nf (if (Y++O).any (ks (view h k Y O))=true then some 3 else none) _=some (if (if (Y++O).any (ks (view h k Y O))=true then (3 :Int) else if ((Y++O).map (ao h.Words)).Nodup then 0 else 6)= 0 then _ else (if (Y++O).any (ks (view h k Y O))=true then (3 :Int) else if ((Y++O).map (ao h.Words)).Nodup then 0 else 6))
 cases (Y++O).any (ks (view h k Y O)) with
 | true=>rfl
 | false=>
   rw [if_neg Bool.false_ne_true,if_neg Bool.false_ne_true]
   show cd _ _=_
   rw [cj,jc]
   by_cases aL:((Y++O).map (ao h.Words)).Nodup
   case neg=>rw [if_neg aL,if_neg aL];rfl
   rw [if_pos aL,if_pos aL,if_pos rfl]
   show cd _ _=_
   rw [y1,jc]
   unfold kM
   show nf (if (Y++O).any (mo (view h k Y O))=true then some 5 else none) _=some (if (if (Y++O).any (mo (view h k Y O))=true then (5 :Int) else if (free h).any (fun x=>!decide (x= 0))=true then 1 else 0)= 0 then _ else (if (Y++O).any (mo (view h k Y O))=true then (5 :Int) else if (free h).any (fun x=>!decide (x= 0))=true then 1 else 0))
   cases (Y++O).any (mo (view h k Y O)) with
   | true=>rfl
   | false=>
     rw [if_neg Bool.false_ne_true,if_neg Bool.false_ne_true]
     show cd _ _=_
     rw [Ey,jc]
     cases (free h).any (fun x=>!decide (x= 0)) with
     | true=>rfl
     | false=>
       rw [if_neg Bool.false_ne_true,if_neg Bool.false_ne_true,if_pos rfl]
       show cd _ _=_
       rw [Qc,jc]
       unfold vX
       show nf (if (List.range h.aS.length).any (gW (view h k Y O))=true then some 4 else none) _=some (if ((List.range h.aS.length).any (gW (view h k Y O)) || O.any (nG (view h k Y O)))=true then (4 :Int) else 0)
       cases (List.range h.aS.length).any (gW (view h k Y O)) with
       | true=>rfl
       | false=>
         rw [if_neg Bool.false_ne_true,Bool.false_or]
         show cd _ _=_
         rw [Qd,jc]
         cases O.any (nG (view h k Y O)) <;> rfl
theorem Spec.wy {r h3:Option bc × Int} (s:Spec h k r) (s':Spec h k h3):r=h3:=by
 cases s with
 | size aA=>cases s' with
   | size _=>rfl
   | form ap _=>exact absurd ap aA
   | rest ap _=>exact absurd ap aA
 | form ap iS=>cases s' with
   | size aA=>exact absurd ap aA
   | form _ _=>rfl
   | rest _ ak=>exact absurd ak (iS _ _)
 | rest ap ak=>cases s' with
   | size aA=>exact absurd ap aA
   | form _ iS=>exact absurd ak (iS _ _)
   | rest _ mZ=>
     obtain rfl:=ak.y.wy mZ.y
     obtain rfl:=ak.o.wy mZ.o
     rfl
end
end J
namespace J
section
variable {k:aP} {h:aV} {Y O:List Int}
theorem hn.fit (b':h1 h) (ak:hn h k Y O):∀ a ∈ Y++O,1 <=a/\a.toNat+ 3 +(wd h.Words (a.toNat+ 1)).toNat<=h.Words.length/\(a.toNat+ 3 +(wd h.Words (a.toNat+ 1)).toNat<=h.aZ.toNat\/(h.ar+ 1 <=a/\a.toNat+ 3 +(wd h.Words (a.toNat+ 1)).toNat<=h.aU.toNat)):=by
 intro a aK
 have bN:(h.Words.length:Int)= 1 +h.ar+h.aO:=b'.B
 obtain ⟨⟨c1,c2⟩,⟨c3,c4⟩,_⟩:=b'.C
 obtain ⟨⟨cF,_⟩,dJ,_⟩:=b'.A
 rcases List.mem_append.1 aK with aK | aK
 · obtain ⟨I,aa⟩:=ak.CB b' a aK;exact ⟨I,by omega,.inl aa⟩
 · obtain ⟨I,aa⟩:=ak.kD b' a aK;exact ⟨by omega,by omega,.inr ⟨I,aa⟩⟩
theorem hn.FJ (ak:hn h k Y O):∀ a ∈ Y++O,gr k (wd h.Words a.toNat)=true/\isLen k (wd h.Words a.toNat) (wd h.Words (a.toNat+ 1))=true:=by
 intro a aK
 rcases List.mem_append.1 aK with aK | aK
 · obtain ⟨n,rfl,_,_,aq⟩:=ak.y.mem a aK;exact aq
 · obtain ⟨n,rfl,_,_,aq⟩:=ak.o.mem a aK;exact aq
theorem dl.set (b':h1 h) (ak:hn h k Y O) (g:dl h k Y O) {a:Int} (aK:a ∈ Y++O) {n:Nat} (aA:n <(wd h.Words (a.toNat+ 1)).toNat) {value:Int}
 (ag:eN k (wd h.Words a.toNat) n=true->value= 0 \/value ∈ Y++O) {nt:List Int} (I:ur nt) (aa:∀ x ∈ nt,x ∈ h.aS\/(x=a/\a ∈ O/\eN k (wd h.Words a.toNat) n=true)) (aq:∀ x ∈ h.aS,x ∈ nt)
 (a':eN k (wd h.Words a.toNat) n=true->a ∈ O-> 0 <value->value<=h.ar->a ∈ nt) :
 h1 (⟨h.Words.set (a.toNat+ 3 +n) value,h.ar,h.aO,h.aZ,h.aU,nt,h.Next⟩:aV)/\hn (⟨h.Words.set (a.toNat+ 3 +n) value,h.ar,h.aO,h.aZ,h.aU,nt,h.Next⟩:aV) k Y O /\
 dl (⟨h.Words.set (a.toNat+ 3 +n) value,h.ar,h.aO,h.aZ,h.aU,nt,h.Next⟩:aV) k Y O:=by
 obtain ⟨f1,f2,f3⟩:=ak.fit b' a aK
 have aD:a.toNat+ 3 +n <h.Words.length:=by omega
 have hw:∀ j,wd (h.Words.set (a.toNat+ 3 +n) value) j=if j=a.toNat+ 3 +n then value else wd h.Words j:=fun j=>KC aD
 have head:∀ b ∈ Y++O,wd (h.Words.set (a.toNat+ 3 +n) value) b.toNat=wd h.Words b.toNat/\wd (h.Words.set (a.toNat+ 3 +n) value) (b.toNat+ 1)=wd h.Words (b.toNat+ 1)/\wd (h.Words.set (a.toNat+ 3 +n) value) (b.toNat+ 2)=wd h.Words (b.toNat+ 2):=by
  intro b ah
  rw [hw,hw,hw]
  by_cases e:b=a
  · subst e
    rw [if_neg (by omega),if_neg (by omega),if_neg (by omega)];exact ⟨rfl,rfl,rfl⟩
  · have:=ak.apart b' b ah a aK e
    rw [if_neg (by omega),if_neg (by omega),if_neg (by omega)];exact ⟨rfl,rfl,rfl⟩
 have bN:(h.Words.length:Int)= 1 +h.ar+h.aO:=b'.B
 obtain ⟨⟨c1,c2⟩,⟨c3,c4⟩,c5⟩:=id b'.C
 have ay:∀ b ∈ Y++O,refs k (h.Words.set (a.toNat+ 3 +n) value) b.toNat=refs k h.Words b.toNat:=fun b ah=>awT (head b ah).1 (head b ah).2.1
 have Ia:∀ b ∈ Y++O,ao (h.Words.set (a.toNat+ 3 +n) value) b=ao h.Words b:=fun b ah=>(head b ah).2.2
 have Ik:(Y++O).map (ao (h.Words.set (a.toNat+ 3 +n) value))=(Y++O).map (ao h.Words):=List.map_congr_left Ia
 have qH:∀ b ∈ Y++O,∀ w ∈ refs k h.Words b.toNat,w.toNat=a.toNat+ 3 +n->b=a/\eN k (wd h.Words a.toNat) n=true:=by
  intro b ah w fY e
  obtain ⟨j,aC,yx,rfl⟩:=Bv.1 fY
  simp only [Int.toNat_natCast] at e
  have Hq:b=a:=by
   by_cases Hq:b=a
   · exact Hq
   · have:=ak.apart b' b ah a aK Hq;omega
  subst Hq
  have:j=n:=by omega
  subst this
  exact ⟨rfl,yx⟩
 refine ⟨⟨b'.A,?_,b'.C⟩,⟨ak.y.congr fun b ah=>?_,ak.o.congr fun b ah=>?_⟩,⟨fun b ah=>?_,?_,fun b ah w fY=>?_,fun i hi hc=>?_,I,fun x ad=>?_,fun b ah YS w fY=>?_⟩⟩
 · show ((h.Words.set (a.toNat+ 3 +n) value).length:Int)=_;rw [List.length_set];exact bN
 · obtain ⟨gz,lB,_⟩:=head b (List.mem_append_left _ ah);exact ⟨gz,lB⟩
 · obtain ⟨gz,lB,_⟩:=head b (List.mem_append_right _ ah);exact ⟨gz,lB⟩
 · show 1 <=ao (h.Words.set (a.toNat+ 3 +n) value) b/\ao (h.Words.set (a.toNat+ 3 +n) value) b <h.Next
   rw [Ia b ah];exact g.hash b ah
 · show ((Y++O).map (ao (h.Words.set (a.toNat+ 3 +n) value))).Nodup
   rw [Ik];exact g.nodup
 · have fY:w ∈ refs k (h.Words.set (a.toNat+ 3 +n) value) b.toNat:=fY
   rw [ay b ah] at fY
   show wd (h.Words.set (a.toNat+ 3 +n) value) w.toNat= 0 \/wd (h.Words.set (a.toNat+ 3 +n) value) w.toNat ∈ Y++O
   rw [hw]
   by_cases e:w.toNat=a.toNat+ 3 +n
   · rw [if_pos e];exact ag (qH b ah w fY e).2
   · rw [if_neg e];exact g.ref b ah w fY
 · have hi:i <(h.Words.set (a.toNat+ 3 +n) value).length:=hi
   rw [List.length_set] at hi
   have hc:i= 0 \/(h.aZ<=i/\(i:Int)<=h.ar)\/h.aU<=i:=hc
   show wd (h.Words.set (a.toNat+ 3 +n) value) i= 0
   rw [hw,if_neg (by omega)]
   exact g.a_ i hi hc
 · show x ∈ O/\refs k (h.Words.set (a.toNat+ 3 +n) value) x.toNat≠ []
   rcases aa x ad with ad | ⟨rfl,hJ,aC⟩
   · obtain ⟨gz,lB⟩:=g.nt x ad
     rw [ay x (List.mem_append_right _ gz)];exact ⟨gz,lB⟩
   · refine ⟨hJ,?_⟩
     rw [ay x aK]
     intro e
     have:((x.toNat+ 3 +n:Nat):Int) ∈ refs k h.Words x.toNat:=Bv.2 ⟨n,aA,aC,rfl⟩
     rw [e] at this;cases this
 · have fK:b ∈ Y++O:=List.mem_append_right _ ah
   have fY:w ∈ refs k (h.Words.set (a.toNat+ 3 +n) value) b.toNat:=fY
   rw [ay b fK] at fY
   show ¬ (0 <wd (h.Words.set (a.toNat+ 3 +n) value) w.toNat/\wd (h.Words.set (a.toNat+ 3 +n) value) w.toNat<=h.ar)
   rw [hw]
   by_cases e:w.toNat=a.toNat+ 3 +n
   · rw [if_pos e]
     obtain ⟨rfl,aC⟩:=qH b fK w fY e
     rintro ⟨qa,w9⟩
     exact YS (a' aC ah qa w9)
   · rw [if_neg e]
     exact g.must b ah (fun hm=>YS (aq b hm)) w fY
end
end J
namespace J
structure Good (F:Nat) (h:aV) (k:aP) (Y O:List Int):Prop where
 qu:m' F k=some 0
 jJ:fF k
 s:h1 h
 l:hn h k Y O
 ok:dl h k Y O
section
variable {F:Nat} {k:aP} {h:aV} {Y O:List Int}
theorem Good.Jv (g:Good F h k Y O):h.aS.length<= 5000 :=by
 refine ace (N:=5000) g.ok.S6 (fun i hi=>?_)
 obtain ⟨I,_⟩:=g.ok.nt _ (Tm hi)
 obtain ⟨f1,f2,_⟩:=g.l.fit g.s _ (List.mem_append_right Y I)
 have:=g.s.hE
 omega
theorem Good.open (az:10000 <F) (g:Good F h k Y O):jC F h k=some (some (view h k Y O),0):=by
 unfold jC
 have e1:m' F (⟨k.a4,k.a0,k.Fields,k.Names,k.a1⟩:aP)=some 0 :=g.qu
 have aA:=g.Jv
 obtain ⟨r,e2,g0⟩:=Q7 az g.jJ (h:=h) ⟨by omega,by omega⟩
 have e2:qP F (⟨h.Words,h.ar,h.aO,h.aZ,h.aU,h.aS,h.Next⟩:aV) (⟨k.a4,k.a0,k.Fields,k.Names,k.a1⟩:aP)=some r:=e2
 rw [e1,Option.bind_some,pd,e2,Option.bind_some]
 cases g0 with
 | size ao=>exact absurd g.s ao
 | form _ af=>exact absurd g.l (af Y O)
 | @rest CY Aa _ ak=>
   have HG:=ak.y.wy g.l.y
   have kn:=ak.o.wy g.l.o
   subst HG kn
   rw [(acX g.jJ g.s g.l).2 g.ok];rfl
theorem at7 (az:10000 <F) (yp:∃ e,m' F k=some e/\(e≠ 0 \/(e= 0 /\fF k))) (aA:Small F h.aS.length) :
 ∃ r,jC F h k=some r/\((r.2 ≠ 0 /\r.1 =none)\/ ∃ Y O,Good F h k Y O/\r=(some (view h k Y O),0)):=by
 obtain ⟨e,e1,he⟩:=yp
 unfold jC
 have MB:m' F (⟨k.a4,k.a0,k.Fields,k.Names,k.a1⟩:aP)=some e:=e1
 rw [MB,Option.bind_some]
 rcases he with he | ⟨rfl,ai⟩
 · rw [pS he];exact ⟨_,rfl,.inl ⟨he,rfl⟩⟩
 obtain ⟨r,e2,g0⟩:=Q7 az ai aA
 have e2:qP F (⟨h.Words,h.ar,h.aO,h.aZ,h.aU,h.aS,h.Next⟩:aV) (⟨k.a4,k.a0,k.Fields,k.Names,k.a1⟩:aP)=some r:=e2
 rw [pd,e2,Option.bind_some]
 refine ⟨_,rfl,?_⟩
 cases g0 with
 | size ao=>exact .inl ⟨fun e=>ao (SZ.1 e),rfl⟩
 | form _ af=>exact .inl ⟨by decide,rfl⟩
 | @rest CY Aa ao ak=>
   by_cases q:my (view h k CY Aa)= 0
   · exact .inr ⟨CY,Aa,⟨e1,ai,ao,ak,(acX ai ao ak).1 q⟩,by rw [q];rfl⟩
   · exact .inl ⟨q,by rw [if_neg q]⟩
theorem Good.dM (_:Good F h k Y O) (a:Int):A4 (view h k Y O) a=some (decide (a ∈ Y++O)):=by
 unfold A4
 show some ((du ((Y++O).map fun a=>(a,true)) a).getD false)=_
 rw [Qw]
end
end J
namespace J
theorem J' {F:Nat} {l:List Int} (h:Small F l.length):nR F l l=some true:=by
 unfold nR
 have l1:=I3 (n:=l.length) (fun k i=>rZ l l k (i:Int)) (.go ()) (fun k i hi=>by
  obtain ⟨x,ad⟩:∃ x,l[i]? =some x:=⟨l[i],List.getElem?_eq_getElem hi⟩
  rw [rZ,bF hi,cond_true,bm ad,Option.bind_some,Option.bind_some,decide_eq_true rfl]
  show rZ l l k _=_
  rw [eK hi h.1]) (fun k=>by rw [rZ,bE];rfl) h.2
 have l1:rZ l l F 0 =some (.go ()):=l1
 rw [l1,decide_eq_true rfl]
 rfl
theorem abX {F:Nat} {h:aV} (I:Small F h.Words.length) (aa:Small F h.aS.length):xO F h h=some true:=by
 unfold xO
 rw [J' I,J' aa]
 simp
end J
namespace J
open Go Go.Proofs.YteeliipnilghaaaGreat
theorem tB {n:Nat} (h:n<=reachBytes):Small 140737488356000 n:=by
 have:reachBytes= 140737488351232 :=rfl
 unfold Small
 omega
theorem nq {n:Nat} (k:Nat) (h:n*(k+ 1)<=reachBytes):Small 140737488356000 n:=
 tB (Nat.le_trans (Nat.le_mul_of_pos_right n (Nat.succ_pos k)) h)
theorem anU {m:Method} (h:GR reachBytes m):m.Fits 140737488356000 :=
 ⟨tB h.1,nq 23 h.2.2.1.1,fun k ai=>tB (h.2.2.1.2 k ai).2,tB h.2.2.2.1.2,nq 39 h.2.2.2.2.2.2.2.1,fun x ad=>tB (h.2.2.2.2.2.2.2.2 x ad).2.2.2⟩
theorem anT {c:al} (h:CL reachBytes c):c.Fits 140737488356000 :=
 ⟨tB h.1,tB h.2.1,nq 39 h.2.2.1.1,fun f af=>⟨tB (h.2.2.1.2 f af).1,tB (h.2.2.1.2 f af).2.2⟩,nq 127 h.2.2.2.1,fun m hm=>anU (h.2.2.2.2 m hm)⟩
theorem anV {l:List al} (h:l.length* 80 <=reachBytes/\ ∀ x ∈ l,CL reachBytes x):Fits 140737488356000 l:=
 ⟨nq 79 h.1,fun c hc=>anT (h.2 c hc)⟩
theorem asB {k:aP} (h:GQ reachBytes k):GN 140737488356000 k:=
 ⟨nq 7 h.2.1.1,nq 23 h.2.2.1.1,fun x ad=>nq 39 (h.2.2.1.2 x ad).1,nq 23 h.2.2.2.1.1,fun x ad=>nq 15 (h.2.2.2.1.2 x ad).1,nq 23 h.2.2.2.2.1,fun x ad=>nq 15 (h.2.2.2.2.2 x ad).1⟩
end J
namespace J
theorem axD {k:aP} (jR:hl k.a4) (e:k=linked k.a4):fF k:=by
 have:=jR.right.len
 exact ⟨by omega,by rw [e];exact aw4⟩
theorem alz {k:aP} (I:Go.Proofs.YteeliipnilghaaaGreat.GQ Go.reachBytes k):∃ e,m' 140737488356000 k=some e/\rW 140737488356000 k=some e/\(e≠ 0 \/(e= 0 /\fF k)):=by
 obtain ⟨e,c1,c2,c3⟩:=aly (F:=140737488356000) (by omega) (anV I.1) (asB I)
 refine ⟨e,c1,c2,?_⟩
 rcases c3 with rfl | ⟨rfl,jR,ai⟩
 · exact .inl (by decide)
 · exact .inr ⟨rfl,axD jR ai⟩
theorem at6 {F:Nat} {h:aV} {k:aP} (az:10000 <F) (yp:∃ e,m' F k=some e/\rW F k=some e/\(e≠ 0 \/(e= 0 /\fF k))) (aA:Small F h.aS.length) (hi:h.Next<= 9223372036854775807) :
 ∃ r,jC F h k=some r/\qo F h k=some r.2 /\((r.2 ≠ 0 /\r.1 =none)\/ ∃ Y O,Good F h k Y O/\r=(some (view h k Y O),0)):=by
 obtain ⟨e,c1,c2,c3⟩:=yp
 obtain ⟨r,e1,ay⟩:=at7 az ⟨e,c1,c3⟩ aA
 refine ⟨r,e1,?_,ay⟩
 have alh:m' F (⟨k.a4,k.a0,k.Fields,k.Names,k.a1⟩:aP)=some e:=c1
 have ali:rW F (⟨k.a4,k.a0,k.Fields,k.Names,k.a1⟩:aP)=some e:=c2
 unfold qo
 unfold jC at e1
 rw [alh,Option.bind_some] at e1
 rw [ali,Option.bind_some]
 rcases c3 with c3 | ⟨rfl,ai⟩
 · rw [pS c3] at e1
   obtain rfl:=Option.some.inj e1
   rw [decide_eq_false c3];rfl
 · rw [pd] at e1
   obtain ⟨b9,dz,s1⟩:=Q7 az ai aA
   obtain ⟨cJ,c9,s2⟩:=awn az ai aA hi
   have dz:qP F (⟨h.Words,h.ar,h.aO,h.aZ,h.aU,h.aS,h.Next⟩:aV) (⟨k.a4,k.a0,k.Fields,k.Names,k.a1⟩:aP)=some b9:=dz
   have c9:Af F (⟨h.Words,h.ar,h.aO,h.aZ,h.aU,h.aS,h.Next⟩:aV) (⟨k.a4,k.a0,k.Fields,k.Names,k.a1⟩:aP)=some cJ.2 :=c9
   obtain rfl:=s1.wy s2
   rw [dz,Option.bind_some] at e1
   obtain rfl:=Option.some.inj e1
   rw [show decide ((0 :Int)= 0)=true from rfl,cond_true,c9];rfl
end J
namespace Go.Proofs.YteeliipnilghaaaGreat
open J
def cc (y:Int) (o:List Int) (a:Int):List Int:=if (1 <=a/\a<=y)/\a ∉ o then o++[a] else o
structure Ord (Y o:List Int):Prop where
 QT:o.Nodup
 sub:∀ a ∈ o,a ∈ Y
theorem aae:∀ {o Y:List Int},o.Nodup->(∀ a ∈ o,a ∈ Y)->o.length<=Y.length
 | [],Y,_,_=>Nat.zero_le _
 | a::r,Y,aA,ao=>by
   have aA:=List.nodup_cons.1 aA
   have aK:a ∈ Y:=ao a (by simp)
   have I:=aae (o:=r) (Y:=Y.erase a) aA.2 fun b ah=>(List.mem_erase_of_ne fun e=>by subst e;exact aA.1 ah).2 (ao b (by simp [ah]))
   rw [List.length_erase_of_mem aK] at I
   have:0 <Y.length:=List.length_pos_of_mem aK
   simp only [List.length_cons]
   omega
theorem Ord.len {Y o:List Int} (h:Ord Y o):o.length<=Y.length:=aae h.QT h.sub
theorem Ord.nil {Y:List Int}:Ord Y []:=⟨List.nodup_nil,fun _ h=>by simp at h⟩
theorem Ord.cc {Y o:List Int} {y a:Int} (h:Ord Y o) (aK:1 <=a->a<=y->a ∈ Y):Ord Y (cc y o a):=by
 unfold Go.Proofs.YteeliipnilghaaaGreat.cc
 split
 · rename_i I
   refine ⟨List.nodup_append.2 ⟨h.QT,by simp,fun b ah c hc e=>?_⟩,fun b ah=>?_⟩
   · cases List.mem_singleton.1 hc
     subst e
     exact I.2 ah
   · rcases List.mem_append.1 ah with ah | ah
     · exact h.sub b ah
     · cases List.mem_singleton.1 ah
       exact aK I.1.1 I.1.2
 · exact h
theorem Ord.fold {Y:List Int} {y:Int}:∀ {l o:List Int},Ord Y o->(∀ a ∈ l,1 <=a->a<=y->a ∈ Y)->Ord Y (l.foldl (Go.Proofs.YteeliipnilghaaaGreat.cc y) o)
 | [],o,h,_=>h
 | a::r,o,h,aK=>Ord.fold (l:=r) (o:=Go.Proofs.YteeliipnilghaaaGreat.cc y o a) (h.cc (aK a (by simp))) fun b ah=>aK b (by simp [ah])
theorem Sz {y a:Int} {o:List Int}:∃ t,cc y o a=o++t:=by
 unfold cc
 split
 · exact ⟨_,rfl⟩
 · exact ⟨[],by simp⟩
theorem Dj {y:Int}:∀ {l o:List Int},∃ t,l.foldl (cc y) o=o++t
 | [],o=>⟨[],by simp⟩
 | a::r,o=>by
   obtain ⟨t,h⟩:=Sz (y:=y) (a:=a) (o:=o)
   obtain ⟨u,aa⟩:=Dj (y:=y) (l:=r) (o:=cc y o a)
   exact ⟨t++u,by rw [List.foldl_cons,aa,h,List.append_assoc]⟩
theorem SE {F:Nat} {a y ol yt ot nx:Int} {W nt o:List Int} (az:10000 <F) (ap:o.length<= 5000) :
 xB F a W y ol yt ot nt nx o=some ((),((W,y,ol,yt,ot,nt,nx,()),((((),()),(cc y o a,()))))):=by
 unfold xB cc
 by_cases I:1 <=a/\a<=y
 · rw [decide_eq_true I.1,decide_eq_true I.2]
   rw [show kg F o a=some (decide (a ∈ o)) from BV ⟨by omega,by omega⟩ a,Bool.and_self,cond_true,Option.bind_some]
   by_cases aa:a ∈ o
   · rw [decide_eq_true aa,Bool.not_true,cond_false,if_neg (fun h=>h.2 aa)]
   · rw [decide_eq_false aa,Bool.not_false,cond_true,if_pos ⟨I,aa⟩]
     have:bR 8 o [a]=some (o++[a]):=by
      unfold bR
      rw [if_pos (by simp only [List.length_append,List.length_singleton];omega)]
     rw [this,Option.bind_some]
 · have:(decide (1 <=a) && decide (a<=y))=false:=by
    rw [Bool.eq_false_iff]
    intro h
    simp only [Bool.and_eq_true,decide_eq_true_eq] at h
    exact I h
   rw [this,cond_false,if_neg (fun h=>I h.1)]
end Go.Proofs.YteeliipnilghaaaGreat
namespace Go.Proofs.YteeliipnilghaaaGreat
open J
section
variable {F:Nat} {Y:List Int} {y ol yt ot nx:Int} {W nt:List Int} {c1:List al} {c2:List Int} {c3:List (List J.Field)} {c4:List (List (List UInt8))} {c5:List (List J.Target)} {e1 e6:List Int} {e2 e3 e4 e5 e7:Int}
theorem al0 (az:10000 <F) (iQ:Y.length<= 5000) {l:List Int} (ak:l.length<= 140737488355328) (hm:∀ a ∈ l,1 <=a->a<=y->a ∈ Y):∀ (d i f:Nat) (o:List Int),i+d=l.length->d <f->Ord Y o ->
 xC F f l (i:Int) W y ol yt ot nt nx c1 c2 c3 c4 c5 e1 e2 e3 e4 e5 e6 e7 o=some ((l,(),(),(),(),((),(),()),()),(W,y,ol,yt,ot,nt,nx,()),(c1,c2,c3,c4,c5,()),(e1,e2,e3,e4,e5,e6,e7,()),((),()),(l.drop i).foldl (cc y) o,()):=by
 intro d
 induction d with
 | zero=>
   intro i f o h af ap
   obtain ⟨f,rfl⟩:∃ bG,f=bG+ 1 :=⟨f - 1,by omega⟩
   have:i=l.length:=by omega
   subst this
   rw [xC,bE,cond_false,List.drop_length]
   rfl
 | succ d ba=>
   intro i f o h af ap
   obtain ⟨f,rfl⟩:∃ bG,f=bG+ 1 :=⟨f - 1,by omega⟩
   have hi:i <l.length:=by omega
   have ad:l[i]? =some l[i]:=List.getElem?_eq_getElem hi
   rw [xC,bF hi,cond_true,bm ad,Option.bind_some,SE az (by have:=ap.len;omega),Option.bind_some,eK hi ak]
   refine (ba (i+ 1) f (cc y o l[i]) (by omega) (by omega) (ap.cc (hm _ (List.getElem_mem hi)))).trans ?_
   rw [List.drop_eq_getElem_cons hi,List.foldl_cons]
theorem al2 (az:10000 <F) (iQ:Y.length<= 5000) {l r:List Int} {j:Int} (ak:l.length<= 140737488355328) (hw:∀ w ∈ l,0 <=w/\w.toNat <W.length) (hm:∀ w ∈ l,1 <=wd W w.toNat->wd W w.toNat<=y->wd W w.toNat ∈ Y):∀ (d i f:Nat) (o:List Int),i+d=l.length->d <f->Ord Y o ->
 xE F f r j l (i:Int) W y ol yt ot nt nx c1 c2 c3 c4 c5 e1 e2 e3 e4 e5 e6 e7 o=some ((r,(),(),(),(),((),(),()),j,()),(W,y,ol,yt,ot,nt,nx,()),(c1,c2,c3,c4,c5,()),(e1,e2,e3,e4,e5,e6,e7,()),((),()),((l.drop i).map fun w=>wd W w.toNat).foldl (cc y) o,()):=by
 intro d
 induction d with
 | zero=>
   intro i f o h af ap
   obtain ⟨f,rfl⟩:∃ bG,f=bG+ 1 :=⟨f - 1,by omega⟩
   have:i=l.length:=by omega
   subst this
   rw [xE,bE,cond_false,List.drop_length]
   rfl
 | succ d ba=>
   intro i f o h af ap
   obtain ⟨f,rfl⟩:∃ bG,f=bG+ 1 :=⟨f - 1,by omega⟩
   have hi:i <l.length:=by omega
   have ad:l[i]? =some l[i]:=List.getElem?_eq_getElem hi
   have hZ:l[i] ∈ l:=List.getElem_mem hi
   obtain ⟨w0,fQ⟩:=hw _ hZ
   rw [xE,bF hi,cond_true,bm ad,Option.bind_some,m4 (show l[i]=(l[i].toNat:Int) by omega) fQ,Option.bind_some,SE az (by have:=ap.len;omega),Option.bind_some,eK hi ak]
   refine (ba (i+ 1) f (cc y o (wd W l[i].toNat)) (by omega) (by omega) (ap.cc (hm _ hZ))).trans ?_
   rw [List.drop_eq_getElem_cons hi,List.map_cons,List.foldl_cons]
theorem al4 (az:10000 <F) (iQ:Y.length<= 5000) {l r:List Int} {j:Int} (ak:l.length<= 140737488355328) (hw:∀ w ∈ l,0 <=w/\w.toNat <W.length) (hm:∀ w ∈ l,1 <=wd W w.toNat->wd W w.toNat<=y->wd W w.toNat ∈ Y):∀ (d i f:Nat) (o:List Int),i+d=l.length->d <f->Ord Y o ->
 xG F f r j l (i:Int) W y ol yt ot nt nx c1 c2 c3 c4 c5 e1 e2 e3 e4 e5 e6 e7 o=some ((r,(),(),(),(),((),(),()),j,()),(W,y,ol,yt,ot,nt,nx,()),(c1,c2,c3,c4,c5,()),(e1,e2,e3,e4,e5,e6,e7,()),((),()),((l.drop i).map fun w=>wd W w.toNat).foldl (cc y) o,()):=by
 intro d
 induction d with
 | zero=>
   intro i f o h af ap
   obtain ⟨f,rfl⟩:∃ bG,f=bG+ 1 :=⟨f - 1,by omega⟩
   have:i=l.length:=by omega
   subst this
   rw [xG,bE,cond_false,List.drop_length]
   rfl
 | succ d ba=>
   intro i f o h af ap
   obtain ⟨f,rfl⟩:∃ bG,f=bG+ 1 :=⟨f - 1,by omega⟩
   have hi:i <l.length:=by omega
   have ad:l[i]? =some l[i]:=List.getElem?_eq_getElem hi
   have hZ:l[i] ∈ l:=List.getElem_mem hi
   obtain ⟨w0,fQ⟩:=hw _ hZ
   rw [xG,bF hi,cond_true,bm ad,Option.bind_some,m4 (show l[i]=(l[i].toNat:Int) by omega) fQ,Option.bind_some,SE az (by have:=ap.len;omega),Option.bind_some,eK hi ak]
   refine (ba (i+ 1) f (cc y o (wd W l[i].toNat)) (by omega) (by omega) (ap.cc (hm _ hZ))).trans ?_
   rw [List.drop_eq_getElem_cons hi,List.map_cons,List.foldl_cons]
end
end Go.Proofs.YteeliipnilghaaaGreat
namespace Go.Proofs.YteeliipnilghaaaGreat
open J
def gN (k:aP) (W:List Int) (a:Int):List Int:=(refs k W a.toNat).map fun w=>wd W w.toNat
def scan (k:aP) (W:List Int) (y:Int):Nat->Nat->List Int->List Int
 | 0,_,o=>o
 | d+ 1,i,o=>match o[i]? with
   | some a=>scan k W y d (i+ 1) ((gN k W a).foldl (cc y) o)
   | none=>o
section
variable {F:Nat} {h:aV} {k:aP} {Y O:List Int} {e1 e6:List Int} {e2 e3 e4 e5 e7:Int}
theorem nH (g:J.Good F h k Y O) {v:Int} (ag:v= 0 \/v ∈ Y++O) (I:1 <=v) (aa:v<=h.ar):v ∈ Y:=by
 rcases ag with ag | ag
 · omega
 · rcases List.mem_append.1 ag with ag | ag
   · exact ag
   · have:=(g.l.kD g.s v ag).1;omega
theorem B3 (g:J.Good F h k Y O) {a:Int} (aK:a ∈ Y++O):∀ v ∈ gN k h.Words a,v= 0 \/v ∈ Y++O:=fun v ag=>by
 obtain ⟨w,hw,rfl⟩:=List.mem_map.1 ag
 exact g.ok.ref a aK w hw
theorem abH (g:J.Good F h k Y O) {a:Int} (aK:a ∈ Y++O):∀ w ∈ refs k h.Words a.toNat,0 <=w/\w.toNat <h.Words.length:=fun w hw=>by
 obtain ⟨j,aC,_,rfl⟩:=Bv.1 hw
 have:=(g.l.fit g.s a aK).2.1
 omega
theorem J1 (g:J.Good F h k Y O) {a:Int} (aK:a ∈ Y++O):(refs k h.Words a.toNat).length<= 5000 :=by
 have I:=(g.l.fit g.s a aK).2.1
 have aa:=g.s.hE
 have:(refs k h.Words a.toNat).length<=(wd h.Words (a.toNat+ 1)).toNat:=by
  unfold refs
  have key:∀ n:Nat,((List.range n).flatMap fun j=>if eN k (wd h.Words a.toNat) j then [((a.toNat+ 3 +j:Nat):Int)] else []).length<=n:=by
   intro n
   induction n with
   | zero=>simp
   | succ n ba=>
     rw [List.range_succ,List.flatMap_append,List.length_append]
     have:([n].flatMap fun j=>if eN k (wd h.Words a.toNat) j then [((a.toNat+ 3 +j:Nat):Int)] else []).length<= 1 :=by
      simp only [List.flatMap_cons,List.flatMap_nil,List.append_nil]
      split <;> simp
     omega
  exact key _
 omega
theorem AF (ai:fF k) (g:J.Good F h k Y O):Y.length<= 5000 :=by
 have:=(g.l.oN ai g.s).pa
 have:Y.length+O.length<= 5000 :=this
 omega
theorem al1 (az:10000 <F) (g:J.Good F h k Y O) (aA:h.aS.length<= 5000) {r:List Int}:∀ (d i f:Nat) (o:List Int),i+d=h.aS.length->d <f->Ord Y o ->
 xD F f r (i:Int) h.Words h.ar h.aO h.aZ h.aU h.aS h.Next k.a4 k.a0 k.Fields k.Names k.a1 e1 e2 e3 e4 e5 e6 e7 o=some ((r,(),(),(),(),((),(),()),()),(h.Words,h.ar,h.aO,h.aZ,h.aU,h.aS,h.Next,()),(k.a4,k.a0,k.Fields,k.Names,k.a1,()),(e1,e2,e3,e4,e5,e6,e7,()),((),()),((h.aS.drop i).flatMap (gN k h.Words)).foldl (cc h.ar) o,()):=by
 intro d
 have iQ:=AF g.jJ g
 induction d with
 | zero=>
   intro i f o hi af ap
   obtain ⟨f,rfl⟩:∃ bG,f=bG+ 1 :=⟨f - 1,by omega⟩
   have:i=h.aS.length:=by omega
   subst this
   rw [xD,bE,cond_false,List.drop_length]
   rfl
 | succ d ba=>
   intro i f o aL af ap
   obtain ⟨f,rfl⟩:∃ bG,f=bG+ 1 :=⟨f - 1,by omega⟩
   have hi:i <h.aS.length:=by omega
   have ad:h.aS[i]? =some h.aS[i]:=List.getElem?_eq_getElem hi
   have aK:h.aS[i] ∈ Y++O:=List.mem_append_right Y (g.ok.nt _ (List.getElem_mem hi)).1
   have OY:Ord Y ((gN k h.Words h.aS[i]).foldl (cc h.ar) o):=ap.fold fun v ag=>nH g (B3 g aK v ag)
   rw [xD,bF hi,cond_true,bm ad,Option.bind_some,FL az (g.l.oN g.jJ g.s) aK,Option.bind_some]
   have WL:=al2 (Y:=Y) (y:=h.ar) (ol:=h.aO) (yt:=h.aZ) (ot:=h.aU) (nx:=h.Next) (W:=h.Words) (nt:=h.aS) (c1:=k.a4) (c2:=k.a0) (c3:=k.Fields) (c4:=k.Names) (c5:=k.a1) (e1:=e1) (e2:=e2) (e3:=e3) (e4:=e4) (e5:=e5) (e6:=e6) (e7:=e7) az iQ (r:=r) (j:=(i:Int)) (by have:=J1 g aK;omega) (abH g aK) (fun w hw=>nH g (g.ok.ref _ aK w hw)) (refs k h.Words h.aS[i].toNat).length 0 F o (by omega) (by have:=J1 g aK;omega) ap
   rw [List.drop_zero] at WL
   have amR:xE F F r (i:Int) (refs k h.Words h.aS[i].toNat) 0 h.Words h.ar h.aO h.aZ h.aU h.aS h.Next k.a4 k.a0 k.Fields k.Names k.a1 e1 e2 e3 e4 e5 e6 e7 o=_:=WL
   rw [amR,Option.bind_some,eK hi (by omega)]
   refine (ba (i+ 1) f _ (by omega) (by omega) OY).trans ?_
   rw [List.drop_eq_getElem_cons hi,List.flatMap_cons,List.foldl_append]
theorem al3 (az:10000 <F) (g:J.Good F h k Y O) {r:List Int}:∀ (d i f:Nat) (o:List Int),Y.length <i+d->d <f->i<=o.length->Ord Y o ->
 xF F f r (i:Int) h.Words h.ar h.aO h.aZ h.aU h.aS h.Next k.a4 k.a0 k.Fields k.Names k.a1 e1 e2 e3 e4 e5 e6 e7 o=some ((r,(),(),(),(),()),(h.Words,h.ar,h.aO,h.aZ,h.aU,h.aS,h.Next,()),(k.a4,k.a0,k.Fields,k.Names,k.a1,()),(e1,e2,e3,e4,e5,e6,e7,()),((),()),scan k h.Words h.ar d i o,()):=by
 intro d
 have iQ:=AF g.jJ g
 induction d with
 | zero=>
   intro i f o hi af DS ap
   have:=ap.len
   omega
 | succ d ba=>
   intro i f o aL af DS ap
   obtain ⟨f,rfl⟩:∃ bG,f=bG+ 1 :=⟨f - 1,by omega⟩
   rcases Nat.lt_or_ge i o.length with hi | hi
   · have ad:o[i]? =some o[i]:=List.getElem?_eq_getElem hi
     have aK:o[i] ∈ Y++O:=List.mem_append_left O (ap.sub _ (List.getElem_mem hi))
     have OY:Ord Y ((gN k h.Words o[i]).foldl (cc h.ar) o):=ap.fold fun v ag=>nH g (B3 g aK v ag)
     rw [xF,bF hi,cond_true,bm ad,Option.bind_some,FL az (g.l.oN g.jJ g.s) aK,Option.bind_some]
     have WN:=al4 (Y:=Y) (y:=h.ar) (ol:=h.aO) (yt:=h.aZ) (ot:=h.aU) (nx:=h.Next) (W:=h.Words) (nt:=h.aS) (c1:=k.a4) (c2:=k.a0) (c3:=k.Fields) (c4:=k.Names) (c5:=k.a1) (e1:=e1) (e2:=e2) (e3:=e3) (e4:=e4) (e5:=e5) (e6:=e6) (e7:=e7) az iQ (r:=r) (j:=(i:Int)) (by have:=J1 g aK;omega) (abH g aK) (fun w hw=>nH g (g.ok.ref _ aK w hw)) (refs k h.Words o[i].toNat).length 0 F o (by omega) (by have:=J1 g aK;omega) ap
     rw [List.drop_zero] at WN
     have amY:xG F F r (i:Int) (refs k h.Words o[i].toNat) 0 h.Words h.ar h.aO h.aZ h.aU h.aS h.Next k.a4 k.a0 k.Fields k.Names k.a1 e1 e2 e3 e4 e5 e6 e7 o=_:=WN
     rw [amY,Option.bind_some,eK hi (by have:=ap.len;omega)]
     obtain ⟨t,aJ⟩:=Dj (y:=h.ar) (l:=gN k h.Words o[i]) (o:=o)
     refine (ba (i+ 1) f ((gN k h.Words o[i]).foldl (cc h.ar) o) (by omega) (by omega) (by rw [aJ,List.length_append];omega) OY).trans ?_
     rw [scan,ad]
   · have:i=o.length:=by omega
     subst this
     rw [xF,bE,cond_false,scan,List.getElem?_eq_none (Nat.le_refl _)]
def order (k:aP) (h:aV) (Y roots:List Int):List Int:=scan k h.Words h.ar (Y.length+ 1) 0 ((h.aS.flatMap (gN k h.Words)).foldl (cc h.ar) (roots.foldl (cc h.ar) []))
theorem abZ (g:J.Good F h k Y O):∀ {d i:Nat} {o:List Int},Ord Y o->Ord Y (scan k h.Words h.ar d i o)
 | 0,i,o,ap=>ap
 | d+ 1,i,o,ap=>by
   unfold scan
   split
   · rename_i a aK
     exact abZ g (ap.fold fun v ag=>nH g (B3 g (List.mem_append_left O (ap.sub _ (List.mem_of_getElem? aK))) v ag))
   · exact ap
theorem Q_ (g:J.Good F h k Y O) {roots:List Int} (ay:∀ a ∈ roots,a= 0 \/a ∈ Y++O):Ord Y (roots.foldl (cc h.ar) []):=Ord.nil.fold fun v ag=>nH g (ay v ag)
theorem Q' (g:J.Good F h k Y O) {roots:List Int} (ay:∀ a ∈ roots,a= 0 \/a ∈ Y++O):Ord Y ((h.aS.flatMap (gN k h.Words)).foldl (cc h.ar) (roots.foldl (cc h.ar) [])):=(Q_ g ay).fold fun v ag=>by
 obtain ⟨a,aK,ag⟩:=List.mem_flatMap.1 ag
 exact nH g (B3 g (List.mem_append_right Y (g.ok.nt a aK).1) v ag)
theorem aaE (g:J.Good F h k Y O) {roots:List Int} (ay:∀ a ∈ roots,a= 0 \/a ∈ Y++O):Ord Y (order k h Y roots):=abZ g (Q' g ay)
theorem al5 (az:10000 <F) (g:J.Good F h k Y O) (aA:h.aS.length<= 5000) {roots:List Int} (ak:roots.length<= 5000) (ay:∀ a ∈ roots,a= 0 \/a ∈ Y++O) :
 Ah F h.Words h.ar h.aO h.aZ h.aU h.aS h.Next k.a4 k.a0 k.Fields k.Names k.a1 roots =
  xY F h.Words h.ar h.aO h.aZ h.aU h.aS h.Next k.a4 k.a0 k.Fields k.Names k.a1 (order k h Y roots) h.aU roots:=by
 have iQ:=AF g.jJ g
 unfold Ah
 have cW:=al0 (Y:=Y) (y:=h.ar) (ol:=h.aO) (yt:=h.aZ) (ot:=h.aU) (nx:=h.Next) (W:=h.Words) (nt:=h.aS) (c1:=k.a4) (c2:=k.a0) (c3:=k.Fields) (c4:=k.Names) (c5:=k.a1) (e1:=[]) (e2:=0) (e3:=0) (e4:=0) (e5:=0) (e6:=[]) (e7:=0) az iQ (l:=roots) (by omega) (fun v ag=>nH g (ay v ag)) roots.length 0 F [] (by omega) (by omega) Ord.nil
 rw [List.drop_zero] at cW
 have Ho:xC F F roots 0 h.Words h.ar h.aO h.aZ h.aU h.aS h.Next k.a4 k.a0 k.Fields k.Names k.a1 [] 0 0 0 0 [] 0 []=_:=cW
 rw [Ho,Option.bind_some]
 have e2:=al1 (e1:=[]) (e2:=0) (e3:=0) (e4:=0) (e5:=0) (e6:=[]) (e7:=0) az g aA (r:=roots) h.aS.length 0 F (roots.foldl (cc h.ar) []) (by omega) (by omega) (Q_ g ay)
 rw [List.drop_zero] at e2
 have amz:xD F F roots 0 h.Words h.ar h.aO h.aZ h.aU h.aS h.Next k.a4 k.a0 k.Fields k.Names k.a1 [] 0 0 0 0 [] 0 (roots.foldl (cc h.ar) [])=_:=e2
 dsimp only
 rw [amz,Option.bind_some]
 have e6:=al3 (e1:=[]) (e2:=0) (e3:=0) (e4:=0) (e5:=0) (e6:=[]) (e7:=0) az g (r:=roots) (Y.length+ 1) 0 F _ (by omega) (by omega) (Nat.zero_le _) (Q' g ay)
 dsimp only
 have amU:xF F F roots 0 h.Words h.ar h.aO h.aZ h.aU h.aS h.Next k.a4 k.a0 k.Fields k.Names k.a1 [] 0 0 0 0 [] 0 ((h.aS.flatMap (gN k h.Words)).foldl (cc h.ar) (roots.foldl (cc h.ar) []))=_:=e6
 rw [amU,Option.bind_some]
 show (xY F h.Words h.ar h.aO h.aZ h.aU h.aS h.Next k.a4 k.a0 k.Fields k.Names k.a1 (order k h Y roots) h.aU roots).bind _=_
 cases xY F h.Words h.ar h.aO h.aZ h.aU h.aS h.Next k.a4 k.a0 k.Fields k.Names k.a1 (order k h Y roots) h.aU roots with
 | none=>rfl
 | some r=>rfl
end
end Go.Proofs.YteeliipnilghaaaGreat
namespace Go.Proofs.YteeliipnilghaaaGreat
open J
def sz (W:List Int) (a:Int):Nat:=3 +(wd W (a.toNat+ 1)).toNat
def news (W:List Int):Nat->List Int->List Int
 | _,[]=>[]
 | t,a::r=>(t:Int)::news W (t+sz W a) r
def bV (W:List Int):Nat->List Int->Nat
 | t,[]=>t
 | t,a::r=>bV W (t+sz W a) r
theorem Jq {W:List Int}:∀ {o:List Int} {t:Nat},(news W t o).length=o.length
 | [],_=>rfl
 | a::r,t=>by simp [news,Jq (o:=r)]
theorem Jp {W:List Int} {b:Int}:∀ {o:List Int} {t:Nat},news W t (o++[b])=news W t o++[(bV W t o:Int)]
 | [],t=>rfl
 | a::r,t=>by simp [news,bV,Jp (o:=r)]
theorem Cd {W:List Int} {b:Int}:∀ {o:List Int} {t:Nat},bV W t (o++[b])=bV W t o+sz W b
 | [],t=>rfl
 | a::r,t=>by simp [bV,Cd (o:=r)]
theorem lq {W:List Int}:∀ {o:List Int} {t:Nat},t<=bV W t o
 | [],t=>Nat.le_refl _
 | a::r,t=>Nat.le_trans (Nat.le_add_right _ _) (lq (o:=r))
theorem Ks {W:List Int} {p:List Int}:∀ {o:List Int} {t:Nat},bV W t (o++p)=bV W (bV W t o) p
 | [],t=>rfl
 | a::r,t=>by simp [bV,Ks (o:=r)]
def pos:List Int->Int->Option Nat
 | [],_=>none
 | b::r,a=>if b=a then some 0 else (pos r a).map (· + 1)
theorem JG:∀ {o:List Int} {a:Int} {j:Nat},pos o a=some j->o[j]? =some a
 | [],a,j,h=>by simp [pos] at h
 | b::r,a,j,h=>by
   unfold pos at h
   split at h
   · rename_i e
     cases h
     simp [e]
   · obtain ⟨i,I,rfl⟩:=Option.map_eq_some_iff.1 h
     simpa using JG I
theorem BP:∀ {o:List Int} {a:Int},pos o a=none ↔ a ∉ o
 | [],a=>by simp [pos]
 | b::r,a=>by
   unfold pos
   split
   · rename_i e;simp [e]
   · rename_i e
     rw [Option.map_eq_none_iff,BP]
     simp only [List.mem_cons,not_or]
     exact ⟨fun h=>⟨fun e'=>e e'.symm,h⟩,fun h=>h.2⟩
def ej (o ns:List Int) (a:Int):Int:=if a= 0 then a else match pos o a with
 | some j=>(ns[j]?).getD 0
 | none=>a
section
variable {F:Nat}
theorem aug {o:List Int} {a:Int} (ak:o.length<= 140737488355328):∀ (d i f:Nat),i+d=o.length->d <f->xJ F f o a (i:Int)=some (match pos (o.drop i) a with
 | some j=>.inl ((((i+j:Nat):Int),()),())
 | none=>.inr ((),())):=by
 intro d
 induction d with
 | zero=>
   intro i f h af
   obtain ⟨f,rfl⟩:∃ bG,f=bG+ 1 :=⟨f - 1,by omega⟩
   have:i=o.length:=by omega
   subst this
   rw [xJ,bE,cond_false,List.drop_length]
   rfl
 | succ d ba=>
   intro i f h af
   obtain ⟨f,rfl⟩:∃ bG,f=bG+ 1 :=⟨f - 1,by omega⟩
   have hi:i <o.length:=by omega
   have ad:o[i]? =some o[i]:=List.getElem?_eq_getElem hi
   rw [xJ,bF hi,cond_true,bm ad,Option.bind_some,List.drop_eq_getElem_cons hi]
   by_cases e:o[i]=a
   · rw [decide_eq_true e,cond_true,pos,if_pos e]
     rfl
   · rw [decide_eq_false e,cond_false,eK hi ak,ba (i+ 1) f (by omega) (by omega),pos,if_neg e]
     cases pos (o.drop (i+ 1)) a with
     | none=>rfl
     | some j=>simp only [Option.map_some,Option.some.injEq,Sum.inl.injEq,Prod.mk.injEq,and_true];omega
theorem auh {o:List Int} {a:Int} (ak:o.length<= 5000) (az:10000 <F):CU F o a=some ((match pos o a with
 | some j=>(j:Int)
 | none=>-1,()),()):=by
 unfold CU
 have e:xJ F F o a 0 =_:=aug (o:=o) (a:=a) (by omega) o.length 0 F (by omega) (by omega)
 rw [e,List.drop_zero]
 cases pos o a with
 | none=>rfl
 | some j=>simp [dx]
theorem acx {o ns:List Int} {a:Int} (ak:o.length<= 5000) (az:10000 <F) (aA:ns.length=o.length):CW F a o ns=some ((ej o ns a,()),(o,()),((),()),ns,()):=by
 unfold CW ej
 rw [auh ak az,Option.bind_some]
 by_cases aN:a= 0
 · rw [decide_eq_true aN,Bool.true_or,cond_true,if_pos aN]
 · rw [decide_eq_false aN,Bool.false_or,if_neg aN]
   cases aD:pos o a with
   | none=>rfl
   | some j=>
     have aC:=JG aD
     have bs:j <ns.length:=by rw [aA];exact (List.getElem?_eq_some_iff.1 aC).1
     dsimp only
     rw [decide_eq_false (by omega),cond_false,bm (List.getElem?_eq_getElem bs),Option.bind_some,List.getElem?_eq_getElem bs]
     rfl
end
end Go.Proofs.YteeliipnilghaaaGreat
