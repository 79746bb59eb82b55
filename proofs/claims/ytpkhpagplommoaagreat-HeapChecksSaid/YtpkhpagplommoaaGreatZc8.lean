/- LAW: THE WALK AND THE PLAIN LAW, JOINED TO THE GIVEN STATEMENT: for every input that the row speaks of, the call returns true and what came in reads as it did. Made by program (liftgen2.py). -/
import Derived.Test.YtpkhpagplommoaaGreatZc7
import Derived.KernelRfl
import Derived.Test.YtpkhpagplommoaaGreatRows
import Derived.WalkKit
import Derived.ProofKit
import Derived.OpenShut
import Derived.Deep.DeepHandedRow
namespace J
theorem nB {α:Type} [DecidableEq α] {F:Nat} {a b:List α} (aC:a.length=b.length) {L:Nat->Int->Option (Way Bool Unit)} (ai:a.length<= 140737488355328)
 (bc:∀ k (i:Nat) x y,a[i]? =some x->b[i]? =some y->L (k+ 1) (i:Int)=cond (!decide (x=y)) (some (.out false)) (L k (av ((i:Int)+ 1)))) (he:∀ k,L (k+ 1) (a.length:Int)=some (.go ())) (b4:a.length <F) :
 L F 0 =some (if a=b then .go () else .out false):=by
 have l1:L F 0 =some (dF ((List.range a.length).findSome? fun i=>if a[i]? =b[i]? then none else some false)):=lM _ ai (fun k i hi=>by
  rw [bc k i a[i] (b[i]'(by omega)) (List.getElem?_eq_getElem hi) (List.getElem?_eq_getElem (show i <b.length by omega)),List.getElem?_eq_getElem hi,List.getElem?_eq_getElem (show i <b.length by omega)]
  simp only [Option.some.injEq]
  by_cases e:a[i]=b[i]'(by omega)
  · rw [decide_eq_true e,if_pos e];rfl
  · rw [decide_eq_false e,if_neg e];rfl) he b4
 rw [l1]
 cases I:(List.range a.length).findSome? fun i=>if a[i]? =b[i]? then none else some false with
 | some e=>
   obtain ⟨i,hi,aI⟩:=List.exists_of_findSome?_eq_some I
   split at aI
   · cases aI
   · rename_i fo
     injection aI with aI
     subst aI
     rw [if_neg (fun e=>fo (by rw [e]))];rfl
 | none=>
   rw [if_pos];rfl
   apply List.ext_getElem?
   intro i
   by_cases hi:i <a.length
   · have:=List.findSome?_eq_none_iff.1 I i (by simpa using hi)
     split at this
     · assumption
     · cases this
   · rw [List.getElem?_eq_none (by omega),List.getElem?_eq_none (by omega)]
theorem Qt {α β:Type} (l:List α):l.findSome? (fun _=>(none:Option β))=none:=by rw [List.findSome?_eq_none_iff];intro _ _;rfl
theorem pg {p:Prop} [Decidable p] {Y:Option Bool}:dD (α:=Unit) (some (if p then (.go ():Way Bool Unit) else .out false)) (fun _=>Y)=if p then Y else some false:=by by_cases h:p <;> simp [h]
theorem aaB {p:Prop} [Decidable p] {Y:Option (Way Bool Unit)}:et (α:=Unit) (some (if p then (.go ():Way Bool Unit) else .out false)) (fun _=>Y)=if p then Y else some (.out false):=by by_cases h:p <;> simp [h]
theorem nU {α:Type} {a b:List α}:decide ((a.length:Int)=(b.length:Int))=decide (a.length=b.length):=by
 rw [Bool.eq_iff_iff];simp;omega
theorem ra {α:Type} [DecidableEq α] {a b:List α} (h:a.length≠b.length):decide (a=b)=false:=decide_eq_false (fun e=>h (by rw [e]))
section
variable {F:Nat}
theorem aeg {a b:List Field} (bN:Small F a.length):BM F a b=some (decide (a=b)):=by
 unfold BM
 rw [nU]
 by_cases aC:a.length=b.length
 · rw [decide_eq_true aC]
   simp only [Bool.not_true,cond_false]
   rw [nB aC bN.1 (L:=w3 a b) (fun k i x y al hy=>by rw [w3,cP (List.getElem?_eq_some_iff.1 al).1,cond_true,cu al,Option.bind_some,cu hy,Option.bind_some]) (fun k=>by rw [w3,cO];rfl) bN.2,pg]
   by_cases h:a=b <;> simp [h]
 · rw [decide_eq_false aC,ra aC];rfl
theorem aEV {a b:List Kind} (bN:Small F a.length):tG F a b=some (decide (a=b)):=by
 unfold tG
 rw [nU]
 by_cases aC:a.length=b.length
 · rw [decide_eq_true aC]
   simp only [Bool.not_true,cond_false]
   rw [nB aC bN.1 (L:=o7 a b) (fun k i x y al hy=>by rw [o7,cP (List.getElem?_eq_some_iff.1 al).1,cond_true,cu al,Option.bind_some,cu hy,Option.bind_some]) (fun k=>by rw [o7,cO];rfl) bN.2,pg]
   by_cases h:a=b <;> simp [h]
 · rw [decide_eq_false aC,ra aC];rfl
theorem aEY {l:List aR} (h:Fits F l):BL F l l=some true:=by
 unfold BL
 rw [decide_eq_true rfl]
 simp only [Bool.not_true,cond_false]
 have l1:w0 F l l F 0 =some (dF (l.findSome? fun _=>(none:Option Bool))):=each (fun _=>none) h.1.1 (fun k i c al=>by
  have hc:=h.2 c (List.mem_of_getElem? al)
  have g3:w1 F c c F 0 =some (dF (c.az.findSome? fun _=>(none:Option Bool))):=each (fun _=>none) hc.methods.1 (fun k i m hy=>by
   have hm:=hc.method m (List.mem_of_getElem? hy)
   have pK:w2 m m F 0 =some (dF (m.bp.findSome? fun _=>(none:Option Bool))):=each (fun _=>none) hm.xV.1 (fun k i x c8=>by
    rw [w2,cP (List.getElem?_eq_some_iff.1 c8).1,cond_true,cu c8,Option.bind_some,Option.bind_some,decide_eq_true rfl];rfl) (fun k=>by rw [w2,cO];rfl) hm.xV.2
   rw [w1,cP (List.getElem?_eq_some_iff.1 hy).1,cond_true,cu hy,Option.bind_some,Option.bind_some,aEV hm.args,Option.bind_some,pK,Qt]
   simp
   rfl) (fun k=>by rw [w1,cO];rfl) hc.methods.2
  rw [w0,cP (List.getElem?_eq_some_iff.1 al).1,cond_true,cu al,Option.bind_some,Option.bind_some,aeg hc.fields,Option.bind_some,g3,Qt]
  simp
  rfl) (fun k=>by rw [w0,cO];rfl) h.1.2
 rw [l1,Qt];rfl
structure JQ (F:Nat) (k:bC):Prop where
 b7:Small F k.aK.length
 fields:Small F k.Fields.length
 field:∀ x ∈ k.Fields,Small F x.length
 names:Small F k.Names.length
 name:∀ x ∈ k.Names,Small F x.length
 targets:Small F k.aL.length
 target:∀ x ∈ k.aL,Small F x.length
instance:DecidableEq (List (List Field)):=inferInstance
theorem aEW {a b:bC} (bN:JQ F a) (hc:BL F a.aO b.aO=some true) :
 BN F a b=some (decide (a.aK=b.aK/\a.Fields=b.Fields/\a.Names=b.Names/\a.aL=b.aL)):=by
 unfold BN
 rw [hc,Option.bind_some,nU,nU,nU,nU]
 have bY:∀ (_: ¬ (a.aK=b.aK/\a.Fields=b.Fields/\a.Names=b.Names/\a.aL=b.aL)),decide (a.aK=b.aK/\a.Fields=b.Fields/\a.Names=b.Names/\a.aL=b.aL)=false:=fun h=>decide_eq_false h
 by_cases aI:b.aK.length=a.aK.length
 case neg=>rw [bY (fun e=>aI (by rw [e.1])),decide_eq_false aI];rfl
 by_cases aV:a.Fields.length=b.Fields.length
 case neg=>rw [bY (fun e=>aV (by rw [e.2.1])),decide_eq_true aI,decide_eq_false aV];rfl
 by_cases bX:a.Names.length=b.Names.length
 case neg=>rw [bY (fun e=>bX (by rw [e.2.2.1])),decide_eq_true aI,decide_eq_true aV,decide_eq_false bX];rfl
 by_cases eP:a.aL.length=b.aL.length
 case neg=>rw [bY (fun e=>eP (by rw [e.2.2.2])),decide_eq_true aI,decide_eq_true aV,decide_eq_true bX,decide_eq_false eP];rfl
 rw [decide_eq_true aI,decide_eq_true aV,decide_eq_true bX,decide_eq_true eP]
 simp only [Bool.not_true,Bool.or_self,cond_false]
 have l1:=nB (F:=F) aI.symm bN.b7.1 (L:=w4 a b) (fun k i x y al hy=>by rw [w4,cP (List.getElem?_eq_some_iff.1 al).1,cond_true,cu al,Option.bind_some,cu hy,Option.bind_some]) (fun k=>by rw [w4,cO];rfl) bN.b7.2
 have g3:=nB (F:=F) aV bN.fields.1 (L:=w5 F a b) (fun k i x y al hy=>by
  rw [w5,cP (List.getElem?_eq_some_iff.1 al).1,cond_true,cu al,Option.bind_some,cu hy,Option.bind_some,aeg (bN.field x (List.mem_of_getElem? al)),Option.bind_some]) (fun k=>by rw [w5,cO];rfl) bN.fields.2
 have pK:=nB (F:=F) bX bN.names.1 (L:=w6 F a b) (fun k i x y al hy=>by
  have iE:=bN.name x (List.mem_of_getElem? al)
  rw [w6,cP (List.getElem?_eq_some_iff.1 al).1,cond_true,cu al,Option.bind_some,cu hy,Option.bind_some,nU]
  by_cases aC:x.length=y.length
  · rw [decide_eq_true aC]
    simp only [Bool.not_true,cond_false]
    rw [nB (F:=F) aC iE.1 (L:=w7 a b i) (fun k j u v hu ah=>by
     rw [w7,cu al,Option.bind_some,cP (List.getElem?_eq_some_iff.1 hu).1,cond_true,Option.bind_some,cu hu,Option.bind_some,cu hy,Option.bind_some,cu ah,Option.bind_some]) (fun k=>by rw [w7,cu al,Option.bind_some,cO];rfl) iE.2,aaB]
    by_cases h:x=y
    · rw [if_pos h,decide_eq_true h];rfl
    · rw [if_neg h,decide_eq_false h];rfl
  · rw [decide_eq_false aC,ra aC];rfl) (fun k=>by rw [w6,cO];rfl) bN.names.2
 have VX:=nB (F:=F) eP bN.targets.1 (L:=w8 F a b) (fun k i x y al hy=>by
  have iE:=bN.target x (List.mem_of_getElem? al)
  rw [w8,cP (List.getElem?_eq_some_iff.1 al).1,cond_true,cu al,Option.bind_some,cu hy,Option.bind_some,nU]
  by_cases aC:x.length=y.length
  · rw [decide_eq_true aC]
    simp only [Bool.not_true,cond_false]
    rw [nB (F:=F) aC iE.1 (L:=w9 a b i) (fun k j u v hu ah=>by
     rw [w9,cu al,Option.bind_some,cP (List.getElem?_eq_some_iff.1 hu).1,cond_true,Option.bind_some,cu hu,Option.bind_some,cu hy,Option.bind_some,cu ah,Option.bind_some]) (fun k=>by rw [w9,cu al,Option.bind_some,cO];rfl) iE.2,aaB]
    by_cases h:x=y
    · rw [if_pos h,decide_eq_true h];rfl
    · rw [if_neg h,decide_eq_false h];rfl
  · rw [decide_eq_false aC,ra aC];rfl) (fun k=>by rw [w8,cO];rfl) bN.targets.2
 rw [l1,g3,pK,VX,pg,pg,pg,pg]
 by_cases bS:a.aK=b.aK
 · by_cases cf:a.Fields=b.Fields
   · by_cases eI:a.Names=b.Names
     · by_cases iy:a.aL=b.aL <;> simp [bS,cf,eI,iy]
     · simp [eI]
   · simp [cf]
 · simp [bS]
end
section
variable {F:Nat} {l:List aR}
theorem aEI {β:Type} {f:Int->β} {n:Nat}:(rows f n).length=n:=by simp [rows]
end
end J
namespace J
section
variable {F:Nat}
theorem aiG {a b:List (Int)} (bN:Small F a.length):Ii F a b=some (decide (a=b)):=by
 unfold Ii
 rw [nU]
 by_cases aC:a.length=b.length
 · rw [decide_eq_true aC]
   simp only [Bool.not_true,cond_false]
   rw [nB aC bN.1 (L:=yS a b) (fun k i x y al hy=>by rw [yS,cP (List.getElem?_eq_some_iff.1 al).1,cond_true,cu al,Option.bind_some,cu hy,Option.bind_some]) (fun k=>by rw [yS,cO];rfl) bN.2,pg]
   by_cases h:a=b <;> simp [h]
 · rw [decide_eq_false aC,ra aC];rfl
theorem aiE {a b:List (Field)} (bN:Small F a.length):If F a b=some (decide (a=b)):=by
 unfold If
 rw [nU]
 by_cases aC:a.length=b.length
 · rw [decide_eq_true aC]
   simp only [Bool.not_true,cond_false]
   rw [nB aC bN.1 (L:=yQ a b) (fun k i x y al hy=>by rw [yQ,cP (List.getElem?_eq_some_iff.1 al).1,cond_true,cu al,Option.bind_some,cu hy,Option.bind_some]) (fun k=>by rw [yQ,cO];rfl) bN.2,pg]
   by_cases h:a=b <;> simp [h]
 · rw [decide_eq_false aC,ra aC];rfl
theorem aiH {a b:List (List UInt8)} (bN:Small F a.length):Ij F a b=some (decide (a=b)):=by
 unfold Ij
 rw [nU]
 by_cases aC:a.length=b.length
 · rw [decide_eq_true aC]
   simp only [Bool.not_true,cond_false]
   rw [nB aC bN.1 (L:=yT a b) (fun k i x y al hy=>by rw [yT,cP (List.getElem?_eq_some_iff.1 al).1,cond_true,cu al,Option.bind_some,cu hy,Option.bind_some]) (fun k=>by rw [yT,cO];rfl) bN.2,pg]
   by_cases h:a=b <;> simp [h]
 · rw [decide_eq_false aC,ra aC];rfl
theorem aiJ {a b:List (Target)} (bN:Small F a.length):Ih F a b=some (decide (a=b)):=by
 unfold Ih
 rw [nU]
 by_cases aC:a.length=b.length
 · rw [decide_eq_true aC]
   simp only [Bool.not_true,cond_false]
   rw [nB aC bN.1 (L:=yR a b) (fun k i x y al hy=>by rw [yR,cP (List.getElem?_eq_some_iff.1 al).1,cond_true,cu al,Option.bind_some,cu hy,Option.bind_some]) (fun k=>by rw [yR,cO];rfl) bN.2,pg]
   by_cases h:a=b <;> simp [h]
 · rw [decide_eq_false aC,ra aC];rfl
theorem aiF {a b:List (List Field)} (bN:Small F a.length) (al:∀ x ∈ a,Small F x.length):Ia F a b=some (decide (a=b)):=by
 unfold Ia
 rw [nU]
 by_cases aC:a.length=b.length
 · rw [decide_eq_true aC]
   simp only [Bool.not_true,cond_false]
   rw [nB aC bN.1 (L:=yN F a b) (fun k i x y aI aV=>by rw [yN,cP (List.getElem?_eq_some_iff.1 aI).1,cond_true,cu aI,Option.bind_some,cu aV,Option.bind_some,aiE (al x (List.mem_of_getElem? aI)),Option.bind_some]) (fun k=>by rw [yN,cO];rfl) bN.2,pg]
   by_cases h:a=b <;> simp [h]
 · rw [decide_eq_false aC,ra aC];rfl
theorem aiI {a b:List (List (List UInt8))} (bN:Small F a.length) (al:∀ x ∈ a,Small F x.length):Ic F a b=some (decide (a=b)):=by
 unfold Ic
 rw [nU]
 by_cases aC:a.length=b.length
 · rw [decide_eq_true aC]
   simp only [Bool.not_true,cond_false]
   rw [nB aC bN.1 (L:=yP F a b) (fun k i x y aI aV=>by rw [yP,cP (List.getElem?_eq_some_iff.1 aI).1,cond_true,cu aI,Option.bind_some,cu aV,Option.bind_some,aiH (al x (List.mem_of_getElem? aI)),Option.bind_some]) (fun k=>by rw [yP,cO];rfl) bN.2,pg]
   by_cases h:a=b <;> simp [h]
 · rw [decide_eq_false aC,ra aC];rfl
theorem aiK {a b:List (List Target)} (bN:Small F a.length) (al:∀ x ∈ a,Small F x.length):Ib F a b=some (decide (a=b)):=by
 unfold Ib
 rw [nU]
 by_cases aC:a.length=b.length
 · rw [decide_eq_true aC]
   simp only [Bool.not_true,cond_false]
   rw [nB aC bN.1 (L:=yO F a b) (fun k i x y aI aV=>by rw [yO,cP (List.getElem?_eq_some_iff.1 aI).1,cond_true,cu aI,Option.bind_some,cu aV,Option.bind_some,aiJ (al x (List.mem_of_getElem? aI)),Option.bind_some]) (fun k=>by rw [yO,cO];rfl) bN.2,pg]
   by_cases h:a=b <;> simp [h]
 · rw [decide_eq_false aC,ra aC];rfl
theorem aEX {a b:bC} (bN:JQ F a):CU F a b=some (decide (a.aK=b.aK/\a.Fields=b.Fields/\a.Names=b.Names/\a.aL=b.aL)):=by
 unfold CU
 rw [aiG bN.b7,Option.bind_some]
 by_cases bS:a.aK=b.aK
 case neg=>rw [decide_eq_false bS,decide_eq_false (fun e=>bS e.1)];rfl
 rw [decide_eq_true bS,cond_true,aiF bN.fields bN.field,Option.bind_some]
 by_cases cf:a.Fields=b.Fields
 case neg=>rw [decide_eq_false cf,decide_eq_false (fun e=>cf e.2.1)];rfl
 rw [decide_eq_true cf,cond_true,aiI bN.names bN.name,Option.bind_some]
 by_cases eI:a.Names=b.Names
 case neg=>rw [decide_eq_false eI,decide_eq_false (fun e=>eI e.2.2.1)];rfl
 rw [decide_eq_true eI,cond_true,aiK bN.targets bN.target,Option.bind_some]
 congr 1
 rw [Bool.eq_iff_iff]
 simp [bS,cf,eI]
theorem ah5 {k:bC} (b4:1100 <F) (hc:Fits F k.aO) (bi:JQ F k):∃ e,rE F k=some e/\wU F k=some e/\((e= 4)\/(e= 0 /\jy k.aO/\k=linked k.aO)):=by
 obtain ⟨r,aI,aV,bX,eP⟩:=aDj b4 hc
 unfold rE wU
 rw [aI,aV,Option.bind_some,Option.bind_some]
 by_cases bH:r.2 = 0
 case neg=>rw [rL bH,rL bH];exact ⟨4,rfl,rfl,.inl rfl⟩
 obtain ⟨mf,e⟩:=bX bH
 have s1:CU F (⟨k.aO,k.aK,k.Fields,k.Names,k.aL⟩:bC) (⟨r.1.aO,r.1.aK,r.1.Fields,r.1.Names,r.1.aL⟩:bC)=some (decide (k.aK=r.1.aK/\k.Fields=r.1.Fields/\k.Names=r.1.Names/\k.aL=r.1.aL)):=aEX (a:=k) (b:=r.1) bi
 have s2:BN F (⟨k.aO,k.aK,k.Fields,k.Names,k.aL⟩:bC) (⟨r.1.aO,r.1.aK,r.1.Fields,r.1.Names,r.1.aL⟩:bC)=some (decide (k.aK=r.1.aK/\k.Fields=r.1.Fields/\k.Names=r.1.Names/\k.aL=r.1.aL)):=aEW (a:=k) (b:=r.1) bi (by rw [e];exact aEY hc)
 rw [s1,s2,bH];simp only [sx,Option.bind_some]
 by_cases bc:k.aK=r.1.aK/\k.Fields=r.1.Fields/\k.Names=r.1.Names/\k.aL=r.1.aL
 · rw [decide_eq_true bc]
   refine ⟨0,rfl,rfl,.inr ⟨rfl,mf,?_⟩⟩
   obtain ⟨bS,cf,eI,iy⟩:=bc
   rw [e] at bS cf eI iy
   obtain ⟨a,b,c,d,f⟩:=k
   simp only at bS cf eI iy
   subst bS cf eI iy
   rfl
 · rw [decide_eq_false bc]
   exact ⟨4,rfl,rfl,.inl rfl⟩
end
end J
namespace J
def AL (h:bO):Prop:=(3 <=h.aA/\h.aA<= 2000)/\(3 <=h.aP/\h.aP<= 2000)
def okB (h:bO):Prop:=(h.Words.length:Int)= 1 +h.aA+h.aP
def HS (h:bO):Prop:=(1 <=h.aZ/\h.aZ<=h.aA+ 1)/\(h.aA+ 1 <=h.aY/\h.aY<=h.aA+h.aP+ 1)/\ 1 <=h.Next
instance (h:bO):Decidable (AL h):=inferInstanceAs (Decidable ((3 <=h.aA/\h.aA<= 2000)/\(3 <=h.aP/\h.aP<= 2000)))
instance (h:bO):Decidable (okB h):=inferInstanceAs (Decidable ((h.Words.length:Int)= 1 +h.aA+h.aP))
instance (h:bO):Decidable (HS h):=inferInstanceAs (Decidable ((1 <=h.aZ/\h.aZ<=h.aA+ 1)/\(h.aA+ 1 <=h.aY/\h.aY<=h.aA+h.aP+ 1)/\ 1 <=h.Next))
def n5 (h:bO):Int:=if AL h then (if okB h then (if HS h then 0 else 3) else 1) else 3
theorem aE9 (h:bO):Cx h=some (n5 h):=by
 unfold Cx ox n5
 simp only [Option.bind_some]
 by_cases hD:AL h
 case neg=>
  rw [if_neg hD]
  unfold AL at hD
  by_cases a:3 <=h.aA/\h.aA<= 2000
  · have b: ¬ (3 <=h.aP/\h.aP<= 2000):=fun b=>hD ⟨a,b⟩
    rw [show (decide (3 <=h.aA) && decide (h.aA<= 2000))=true by simpa using a,show (decide (3 <=h.aP) && decide (h.aP<= 2000))=false by rw [Bool.eq_false_iff];simpa using b]
    rfl
  · rw [show (decide (3 <=h.aA) && decide (h.aA<= 2000))=false by rw [Bool.eq_false_iff];simpa using a]
    rfl
 rw [if_pos hD]
 unfold AL at hD
 obtain ⟨⟨eu,fw⟩,a3,a4⟩:=hD
 rw [show (decide (3 <=h.aA) && decide (h.aA<= 2000))=true by simp;omega,show (decide (3 <=h.aP) && decide (h.aP<= 2000))=true by simp;omega,
  e8 (n:=1 +h.aA) (by omega) (by omega),e8 (n:=1 +h.aA+h.aP) (by omega) (by omega),e8 (n:=h.aA+ 1) (by omega) (by omega),e8 (n:=h.aA+h.aP) (by omega) (by omega),e8 (n:=h.aA+h.aP+ 1) (by omega) (by omega)]
 simp only [Bool.not_true,cond_false]
 by_cases j':okB h
 case neg=>
  rw [if_neg j',show decide ((h.Words.length:Int)= 1 +h.aA+h.aP)=false from decide_eq_false j'];rfl
 rw [if_pos j',show decide ((h.Words.length:Int)= 1 +h.aA+h.aP)=true from decide_eq_true j']
 simp only [Bool.not_true,cond_false]
 by_cases p8:HS h
 · rw [if_pos p8]
   obtain ⟨eD,eH,gK⟩:=p8
   rw [show (decide (1 <=h.aZ) && decide (h.aZ<=h.aA+ 1))=true by simpa using eD,show (decide (h.aA+ 1 <=h.aY) && decide (h.aY<=h.aA+h.aP+ 1))=true by simpa using eH,show decide (h.Next < 1)=false from decide_eq_false (by omega)]
   rfl
 · rw [if_neg p8]
   by_cases eD:1 <=h.aZ/\h.aZ<=h.aA+ 1
   · rw [show (decide (1 <=h.aZ) && decide (h.aZ<=h.aA+ 1))=true by simpa using eD]
     by_cases eH:h.aA+ 1 <=h.aY/\h.aY<=h.aA+h.aP+ 1
     · have gK:h.Next < 1 :=by
        rcases Int.lt_or_le h.Next 1 with c | c
        · exact c
        · exact absurd ⟨eD,eH,c⟩ p8
       rw [decide_eq_true gK,Bool.or_true];rfl
     · rw [show (decide (h.aA+ 1 <=h.aY) && decide (h.aY<=h.aA+h.aP+ 1))=false by rw [Bool.eq_false_iff];simpa using eH]
       rfl
   · rw [show (decide (1 <=h.aZ) && decide (h.aZ<=h.aA+ 1))=false by rw [Bool.eq_false_iff];simpa using eD]
     rfl
structure ki (h:bO):Prop where
 A:AL h
 B:okB h
 C:HS h
theorem Xu {h:bO}:n5 h= 0 ↔ ki h:=by
 unfold n5
 constructor
 · intro e
   split at e
   · split at e
     · split at e
       · exact ⟨‹_›,‹_›,‹_›⟩
       · cases e
     · cases e
   · cases e
 · rintro ⟨a,b,c⟩
   rw [if_pos a,if_pos b,if_pos c]
section
variable {F:Nat} {k:bC} {W:List Int}
theorem hN.mem {to q:Nat} {L:List Int} (h:hN k W to q L):∀ a ∈ L,∃ n:Nat,a=(n:Int)/\q<=n/\n+ 3 +(wd W (n+ 1)).toNat<=to/\jH k (wd W n)=true/\isLen k (wd W n) (wd W (n+ 1))=true:=by
 induction h with
 | nil=>intro a bN;cases bN
 | cons aI aV bX _ cA=>
   intro a bN
   rcases List.mem_cons.1 bN with rfl | bN
   · exact ⟨_,rfl,Nat.le_refl _,bX,aI,aV⟩
   · obtain ⟨n,e,eP,mY⟩:=cA a bN
     exact ⟨n,e,by omega,mY⟩
theorem hN.MP {to q:Nat} {L L':List Int} (h:hN k W to q L) (dU:hN k W to q L'):L=L':=by
 induction h generalizing L' with
 | nil=>
   cases dU with
   | nil=>rfl
   | cons _ _ _ _=>omega
 | cons _ _ bX _ cA=>
   cases dU with
   | nil=>omega
   | cons _ _ _ eP=>rw [cA eP]
theorem hN.len {to q:Nat} {L:List Int} (h:hN k W to q L):3 *L.length+q<=to:=by
 induction h with
 | nil=>simp
 | cons _ _ bX _ cA=>simp only [List.length_cons];omega
theorem aFc {l:List Int} {N:Nat} (h:zn l) (bH:∀ i,i <l.length-> 0 <=wd l i/\wd l i <N):l.length<=N:=by
 have key:∀ i,i <l.length->(i:Int)<=wd l i:=by
  intro i
  induction i with
  | zero=>intro hi;exact (bH 0 hi).1
  | succ i cA=>
    intro hi
    have:=h i (i+ 1) (by omega) hi
    have:=cA (by omega)
    omega
 rcases Nat.eq_zero_or_pos l.length with e | e
 · omega
 · have:=key (l.length - 1) (by omega)
   have:=(bH (l.length - 1) (by omega)).2
   omega
theorem V_ (x:Int):∀ A:List Int,(dr (A.map fun a=>(a,true)) x).getD false=decide (x ∈ A)
 | []=>by simp [dr]
 | a::r=>by
   rw [List.map_cons,dr]
   by_cases e:a=x
   · simp [e]
   · rw [if_neg e,V_ x r]
     have: ¬ x=a:=fun h=>e h.symm
     simp [this]
def view (h:bO) (k:bC) (Y O:List Int):cy:=⟨h,⟨k⟩,Y,O,(Y++O).map fun a=>(a,true)⟩
structure jz (h:bO) (k:bC) (Y O:List Int):Prop where
 y:hN k h.Words h.aZ.toNat 1 Y
 o:hN k h.Words h.aY.toNat (h.aA+ 1).toNat O
theorem ki.n6 {h:bO} (bc:ki h):h.Words.length<= 4001 :=by
 obtain ⟨⟨⟨a,b⟩,c,d⟩,e,_⟩:=bc
 unfold okB at e;omega
theorem jz.XE {h:bO} {Y O:List Int} (bi:jA k) (bc:ki h) (aC:jz h k Y O):o9 (view h k Y O):=by
 have hw:=bc.n6
 obtain ⟨⟨⟨eu,fw⟩,a3,a4⟩,b,⟨eD,eH⟩,⟨gK,kN⟩,ma⟩:=bc
 unfold okB at b
 refine ⟨bi,by show h.Words.length<= 4900;omega,?_,fun a bN=>?_,fun x=>V_ x _⟩
 · have:=aC.y.len;have:=aC.o.len
   show Y.length+O.length<= 5000
   omega
 · have bN:a ∈ Y++O:=bN
   rcases List.mem_append.1 bN with bN | bN
   · obtain ⟨n,rfl,aI,aV,bX,eP⟩:=aC.y.mem a bN
     exact ⟨by omega,by show ((n:Int).toNat)+ 3 +(wd h.Words ((n:Int).toNat+ 1)).toNat<=h.Words.length;rw [Int.toNat_natCast];omega,by rw [Int.toNat_natCast];exact bX,by rw [Int.toNat_natCast];exact eP⟩
   · obtain ⟨n,rfl,aI,aV,bX,eP⟩:=aC.o.mem a bN
     exact ⟨by omega,by show ((n:Int).toNat)+ 3 +(wd h.Words ((n:Int).toNat+ 1)).toNat<=h.Words.length;rw [Int.toNat_natCast];omega,by rw [Int.toNat_natCast];exact bX,by rw [Int.toNat_natCast];exact eP⟩
def hb (v:cy):Int:=if (v.aA++v.aP).any (m1 v) then 3 else if ((v.aA++v.aP).map (bc v.H.Words)).Nodup then 0 else 6
def s' (v:cy):Int:=if (v.aA++v.aP).any (oM v) then 5 else if (free v.H).any (fun x=>!decide (x= 0)) then 1 else 0
def yE (v:cy):Int:=if (List.range v.H.ay.length).any (kA v) || v.aP.any (pW v) then 4 else 0
def oS (v:cy):Int:=if hb v= 0 then (if s' v= 0 then yE v else s' v) else hb v
inductive Spec (h:bO) (k:bC):Option cy × Int->Prop
 | size: ¬ ki h->Spec h k (none,n5 h)
 | form:ki h->(∀ Y O,¬ jz h k Y O)->Spec h k (none,1)
 | rest {Y O:List Int}:ki h->jz h k Y O->Spec h k (if oS (view h k Y O)= 0 then some (view h k Y O) else none,oS (view h k Y O))
theorem adS (b4:10000 <F) {h:bO} (bi:jA k) (ai:Small F h.ay.length):∃ r,z8 F h k=some r/\Spec h k r:=by
 unfold z8
 have jU:Cx (⟨h.Words,h.aA,h.aP,h.aZ,h.aY,h.ay,h.Next⟩:bO)=some (n5 h):=aE9 h
 rw [jU,Option.bind_some]
 by_cases bc:ki h
 case neg=>
  rw [rL (fun e=>bc (Xu.1 e))]
  exact ⟨_,rfl,.size bc⟩
 rw [Xu.2 bc,sx]
 have hw:=bc.n6
 have dR:=bc
 obtain ⟨⟨⟨eu,fw⟩,a3,a4⟩,b,⟨eD,eH⟩,⟨gK,kN⟩,ma⟩:=bc
 unfold okB at b
 have t1:=aet (F:=F) (by omega) (⟨h,⟨k⟩,[],[],[]⟩:cy) bi (q:=1) (to:=h.aZ.toNat) (by omega) (by show _<=h.Words.length;omega) (by show h.Words.length<= 5000;omega) (fun p b9=>by cases b9)
 rw [show ((h.aZ.toNat:Nat):Int)=h.aZ by omega] at t1
 rw [e8 (n:=h.aA+ 1) (by omega) (by omega)]
 rcases t1 with ⟨Y,KW,bS⟩ | ⟨pB,jq,bS⟩
 case inr=>
  have bS:nL F (⟨(⟨h.Words,h.aA,h.aP,h.aZ,h.aY,h.ay,h.Next⟩:bO),(⟨(⟨k.aO,k.aK,k.Fields,k.Names,k.aL⟩:bC)⟩:dI),[],[],[]⟩:cy) 1 h.aZ=some ([],false,(⟨h,⟨k⟩,[],[],jq⟩:cy)):=bS
  rw [bS,Option.bind_some]
  have t2:∃ r,nL F (⟨(⟨h.Words,h.aA,h.aP,h.aZ,h.aY,h.ay,h.Next⟩:bO),(⟨(⟨k.aO,k.aK,k.Fields,k.Names,k.aL⟩:bC)⟩:dI),[],[],jq⟩:cy) (h.aA+ 1) h.aY=some r:=by
   unfold nL
   have key:∀ (f q:Nat) (acc:List Int) (m:List (Int × Bool)),q<=h.aY.toNat->h.aY.toNat - q <f->acc.length+(h.aY.toNat - q)<= 5000 -> ∃ r,rm h.aY (⟨h,⟨k⟩,[],[],jq⟩:cy) f acc m (q:Int)=some r:=by
    intro f
    induction f with
    | zero=>intro q acc m _ eE;omega
    | succ f cA=>
      intro q acc m eE I ux
      rw [rm]
      by_cases ey:(q:Int) <h.aY
      case neg=>rw [decide_eq_false ey];exact ⟨_,rfl⟩
      rw [decide_eq_true ey,cond_true,e8 (n:=(q:Int)+ 3) (by omega) (by omega)]
      by_cases bX:h.aY <(q:Int)+ 3
      · rw [decide_eq_true bX];exact ⟨_,rfl⟩
      rw [decide_eq_false bX,cond_false]
      show ∃ r,(idx h.Words (q:Int)).bind _=some r
      rw [m4 (by omega),Option.bind_some]
      show ∃ r,(idx h.Words (av ((q:Int)+ 1))).bind _=some r
      rw [e8 (n:=(q:Int)+ 1) (by omega) (by omega),rv (i:=q+ 1) (by omega) (by omega),Option.bind_some]
      have bS:uD (⟨(⟨k.aO,k.aK,k.Fields,k.Names,k.aL⟩:bC)⟩:dI) (wd h.Words q)=some (jH k (wd h.Words q)):=ael bi _
      show ∃ r,(uD (⟨(⟨k.aO,k.aK,k.Fields,k.Names,k.aL⟩:bC)⟩:dI) (wd h.Words q)).bind _=some r
      rw [bS,Option.bind_some]
      cases bV:jH k (wd h.Words q) with
      | false=>exact ⟨_,rfl⟩
      | true=>
        have cf:uE (⟨(⟨k.aO,k.aK,k.Fields,k.Names,k.aL⟩:bC)⟩:dI) (wd h.Words q) (wd h.Words (q+ 1))=some (isLen k (wd h.Words q) (wd h.Words (q+ 1))):=aem bi bV _
        rw [Bool.not_true,cond_false]
        show ∃ r,(uE (⟨(⟨k.aO,k.aK,k.Fields,k.Names,k.aL⟩:bC)⟩:dI) (wd h.Words q) (wd h.Words (q+ 1))).bind _=some r
        rw [cf,Option.bind_some]
        cases aC:isLen k (wd h.Words q) (wd h.Words (q+ 1)) with
        | false=>exact ⟨_,rfl⟩
        | true=>
          obtain ⟨⟨CP,l1⟩,_⟩:=yn.1 aC
          rw [Bool.not_true,Bool.false_or,e8 (n:=(q:Int)+ 3 +wd h.Words (q+ 1)) (by omega) (by omega)]
          by_cases uI:h.aY <(q:Int)+ 3 +wd h.Words (q+ 1)
          · rw [decide_eq_true uI];exact ⟨_,rfl⟩
          rw [decide_eq_false uI,cond_false,lh (by simp;omega),Option.bind_some,e8 (n:=3 +wd h.Words (q+ 1)) (by omega) (by omega),e8 (n:=(q:Int)+(3 +wd h.Words (q+ 1))) (by omega) (by omega),
           show (q:Int)+(3 +wd h.Words (q+ 1))=((q+ 3 +(wd h.Words (q+ 1)).toNat:Nat):Int) by omega]
          exact cA _ _ _ (by omega) (by omega) (by simp;omega)
   obtain ⟨r,b5⟩:=key F (h.aA+ 1).toNat [] jq (by omega) (by omega) (by simp;omega)
   rw [show (((h.aA+ 1).toNat:Nat):Int)=h.aA+ 1 by omega] at b5
   have b5:rm h.aY (⟨(⟨h.Words,h.aA,h.aP,h.aZ,h.aY,h.ay,h.Next⟩:bO),(⟨(⟨k.aO,k.aK,k.Fields,k.Names,k.aL⟩:bC)⟩:dI),[],[],jq⟩:cy) F [] jq (h.aA+ 1)=some r:=b5
   rw [b5]
   cases r <;> exact ⟨_,rfl⟩
  obtain ⟨r,cf⟩:=t2
  rw [cf,Option.bind_some]
  exact ⟨_,rfl,.form dR (fun Y O aC=>pB Y aC.y)⟩
 have bS:nL F (⟨(⟨h.Words,h.aA,h.aP,h.aZ,h.aY,h.ay,h.Next⟩:bO),(⟨(⟨k.aO,k.aK,k.Fields,k.Names,k.aL⟩:bC)⟩:dI),[],[],[]⟩:cy) 1 h.aZ=some (Y,true,(⟨h,⟨k⟩,[],[],Y.map fun a=>(a,true)⟩:cy)):=bS
 rw [bS,Option.bind_some]
 have t2:=aet (F:=F) (by omega) (⟨h,⟨k⟩,[],[],Y.map fun a=>(a,true)⟩:cy) bi (q:=(h.aA+ 1).toNat) (to:=h.aY.toNat) (by omega) (by show _<=h.Words.length;omega) (by show h.Words.length<= 5000;omega) (fun p b9=>by
  obtain ⟨a,bN,rfl⟩:=List.mem_map.1 b9
  have amQ:hN k h.Words h.aZ.toNat 1 Y:=KW
  obtain ⟨n,rfl,aI,aV,_⟩:=amQ.mem a bN
  show (n:Int) <_
  omega)
 rw [show ((h.aY.toNat:Nat):Int)=h.aY by omega,show (((h.aA+ 1).toNat:Nat):Int)=h.aA+ 1 by omega] at t2
 rcases t2 with ⟨O,nI,cf⟩ | ⟨pB,jq,cf⟩
 case inr=>
  have cf:nL F (⟨(⟨h.Words,h.aA,h.aP,h.aZ,h.aY,h.ay,h.Next⟩:bO),(⟨(⟨k.aO,k.aK,k.Fields,k.Names,k.aL⟩:bC)⟩:dI),[],[],Y.map fun a=>(a,true)⟩:cy) (h.aA+ 1) h.aY=_:=cf
  show ∃ r,(nL F (⟨(⟨h.Words,h.aA,h.aP,h.aZ,h.aY,h.ay,h.Next⟩:bO),(⟨(⟨k.aO,k.aK,k.Fields,k.Names,k.aL⟩:bC)⟩:dI),[],[],Y.map fun a=>(a,true)⟩:cy) (h.aA+ 1) h.aY).bind _=some r/\_
  rw [cf,Option.bind_some]
  exact ⟨_,rfl,.form dR (fun Pn JT aC=>pB JT aC.o)⟩
 have cf:nL F (⟨(⟨h.Words,h.aA,h.aP,h.aZ,h.aY,h.ay,h.Next⟩:bO),(⟨(⟨k.aO,k.aK,k.Fields,k.Names,k.aL⟩:bC)⟩:dI),[],[],Y.map fun a=>(a,true)⟩:cy) (h.aA+ 1) h.aY=some (O,true,(⟨h,⟨k⟩,[],[],(Y.map fun a=>(a,true))++O.map fun a=>(a,true)⟩:cy)):=cf
 show ∃ r,(nL F (⟨(⟨h.Words,h.aA,h.aP,h.aZ,h.aY,h.ay,h.Next⟩:bO),(⟨(⟨k.aO,k.aK,k.Fields,k.Names,k.aL⟩:bC)⟩:dI),[],[],Y.map fun a=>(a,true)⟩:cy) (h.aA+ 1) h.aY).bind _=some r/\_
 rw [cf,Option.bind_some,<-List.map_append]
 have aC:jz h k Y O:=⟨KW,nI⟩
 have ah:=aC.XE bi dR
 have la:Cu F (⟨(⟨h.Words,h.aA,h.aP,h.aZ,h.aY,h.ay,h.Next⟩:bO),(⟨(⟨k.aO,k.aK,k.Fields,k.Names,k.aL⟩:bC)⟩:dI),Y,O,(Y++O).map fun a=>(a,true)⟩:cy)=some (hb (view h k Y O)):=
  amX b4 (view h k Y O) ah.ud (fun a bN=>⟨(ah.rV a bN).pos,by have:=(ah.rV a bN).fit;omega⟩) (by have:=ah.n6;omega) (by simp [view])
 have A_:Cw F (⟨(⟨h.Words,h.aA,h.aP,h.aZ,h.aY,h.ay,h.Next⟩:bO),(⟨(⟨k.aO,k.aK,k.Fields,k.Names,k.aL⟩:bC)⟩:dI),Y,O,(Y++O).map fun a=>(a,true)⟩:cy)=some (s' (view h k Y O)):=
  aFC b4 ah (by show 0 <=h.aA;omega) ⟨by show 0 <=h.aZ;omega,by show h.aZ<=h.aA+ 1;omega,by show h.aA+ 1 <=h.Words.length;omega⟩ ⟨by show 0 <=h.aY;omega,by show h.aY<=h.Words.length;omega⟩
 have aFI:Cv F (⟨(⟨h.Words,h.aA,h.aP,h.aZ,h.aY,h.ay,h.Next⟩:bO),(⟨(⟨k.aO,k.aK,k.Fields,k.Names,k.aL⟩:bC)⟩:dI),Y,O,(Y++O).map fun a=>(a,true)⟩:cy)=some (yE (view h k Y O)):=
  aDG b4 ah ai.1 ai.2 (fun ps=>by
   refine Nat.le_trans (aFc (N:=5000) (Xv fun i hi=>?_) (fun i hi=>?_)) (by omega)
   · have:=ps (i+ 1) hi
     unfold kA at this
     simp only [Bool.or_eq_false_iff,Bool.and_eq_false_iff,decide_eq_false_iff_not,Nat.add_sub_cancel] at this
     rcases this.1 with z | z
     · omega
     · have z: ¬ wd h.ay (i+ 1)<=wd h.ay i:=z
       show wd h.ay i <wd h.ay (i+ 1);omega
   · have:=ps i hi
     unfold kA rK at this
     simp only [Bool.or_eq_false_iff] at this
     have hm:wd (view h k Y O).H.ay i ∈ (view h k Y O).aA++(view h k Y O).aP:=by
      have:=this.2.1.1
      simp only [Bool.not_eq_false'] at this
      exact of_decide_eq_true this
     have bV:=ah.rV _ hm
     have aI:0 <=wd h.ay i:=bV.pos
     have aV:(wd h.ay i).toNat+ 3 +(wd h.Words ((wd h.ay i).toNat+ 1)).toNat<=h.Words.length:=bV.fit
     exact ⟨aI,by show wd h.ay i <((5000 :Nat):Int);omega⟩)
 simp only [Bool.not_true,Bool.or_self,cond_false]
 rw [la,Option.bind_some]
 by_cases mD:hb (view h k Y O)= 0
 case neg=>
  rw [rL mD]
  have ev:oS (view h k Y O)=hb (view h k Y O):=by unfold oS;rw [if_neg mD]
  have:=Spec.rest dR aC
  rw [ev,if_neg mD] at this
  exact ⟨_,rfl,this⟩
 rw [mD,sx,A_,Option.bind_some]
 by_cases n1:s' (view h k Y O)= 0
 case neg=>
  rw [rL n1]
  have ev:oS (view h k Y O)=s' (view h k Y O):=by unfold oS;rw [if_pos mD,if_neg n1]
  have:=Spec.rest dR aC
  rw [ev,if_neg n1] at this
  exact ⟨_,rfl,this⟩
 rw [n1,sx,aFI,Option.bind_some]
 have ev:oS (view h k Y O)=yE (view h k Y O):=by unfold oS;rw [if_pos mD,if_pos n1]
 have sM:=Spec.rest dR aC
 rw [ev] at sM
 by_cases Wo:yE (view h k Y O)= 0
 · rw [Wo] at sM ⊢
   rw [sx]
   exact ⟨_,rfl,sM⟩
 · rw [rL Wo]
   rw [if_neg Wo] at sM
   exact ⟨_,rfl,sM⟩
end
end J
namespace J
theorem aFB {W:List Int} {p j:Nat} {x:Int} (b9:p <W.length):wd (W.set p x) j=if j=p then x else wd W j:=by
 unfold wd
 rw [List.getElem?_set]
 by_cases e:j=p
 · subst e;simp [b9]
 · have: ¬ p=j:=fun h=>e h.symm
   simp [e,this]
theorem adG {h:bO} {x:Int} (hy:0 <=h.aA) (al:x ∈ free h):∃ i:Nat,i <h.Words.length/\(i= 0 \/(h.aZ<=i/\(i:Int)<=h.aA)\/h.aY<=i)/\x=wd h.Words i:=by
 unfold free at al
 rw [List.mem_append,List.mem_append] at al
 rcases al with al | al | al
 · obtain ⟨i,hi,e⟩:=List.getElem_of_mem al
   have x1:i < 1 /\i <h.Words.length:=by rw [List.length_take] at hi;omega
   refine ⟨i,x1.2,.inl (by omega),?_⟩
   rw [<-e,List.getElem_take];exact (rZ (List.getElem?_eq_getElem x1.2)).symm
 · obtain ⟨i,hi,e⟩:=List.getElem_of_mem al
   have x1:i <min (h.aA+ 1).toNat h.Words.length - h.aZ.toNat:=by simpa using hi
   have aV:h.aZ.toNat+i <h.Words.length:=by omega
   refine ⟨h.aZ.toNat+i,aV,.inr (.inl ⟨by omega,by omega⟩),?_⟩
   rw [<-e,List.getElem_drop,List.getElem_take];exact (rZ (List.getElem?_eq_getElem aV)).symm
 · obtain ⟨i,hi,e⟩:=List.getElem_of_mem al
   have x1:i <h.Words.length - h.aY.toNat:=by simpa using hi
   have aV:h.aY.toNat+i <h.Words.length:=by omega
   refine ⟨h.aY.toNat+i,aV,.inr (.inr (by omega)),?_⟩
   rw [<-e,List.getElem_drop];exact (rZ (List.getElem?_eq_getElem aV)).symm
theorem abb {h:bO} (bH:0 <=h.aZ/\ 0 <=h.aY) {i:Nat} (hi:i <h.Words.length) (hc:i= 0 \/(h.aZ<=i/\(i:Int)<=h.aA)\/h.aY<=i):wd h.Words i ∈ free h:=by
 have key:wd h.Words i=h.Words[i]:=rZ (List.getElem?_eq_getElem hi)
 unfold free
 rw [List.mem_append,List.mem_append,key]
 rcases hc with rfl | ⟨aI,aV⟩ | aI
 · left
   rw [List.mem_iff_getElem?]
   exact ⟨0,by rw [List.getElem?_take,if_pos (by omega)];exact List.getElem?_eq_getElem hi⟩
 · right;left
   rw [List.mem_iff_getElem?]
   refine ⟨i - h.aZ.toNat,?_⟩
   rw [List.getElem?_drop,List.getElem?_take,if_pos (by omega),show h.aZ.toNat+(i - h.aZ.toNat)=i by omega]
   exact List.getElem?_eq_getElem hi
 · right;right
   rw [List.mem_iff_getElem?]
   refine ⟨i - h.aY.toNat,?_⟩
   rw [List.getElem?_drop,show h.aY.toNat+(i - h.aY.toNat)=i by omega]
   exact List.getElem?_eq_getElem hi
structure Es (h:bO) (k:bC) (Y O:List Int):Prop where
 hash:∀ a ∈ Y++O,1 <=bc h.Words a/\bc h.Words a <h.Next
 nodup:((Y++O).map (bc h.Words)).Nodup
 ref:∀ a ∈ Y++O,∀ w ∈ refs k h.Words a.toNat,wd h.Words w.toNat= 0 \/wd h.Words w.toNat ∈ Y++O
 cz:∀ i:Nat,i <h.Words.length->(i= 0 \/(h.aZ<=i/\(i:Int)<=h.aA)\/h.aY<=i)->wd h.Words i= 0
 aFb:zn h.ay
 s3:∀ x ∈ h.ay,x ∈ O/\refs k h.Words x.toNat≠ []
 must:∀ a ∈ O,¬ a ∈ h.ay-> ∀ w ∈ refs k h.Words a.toNat,¬ (0 <wd h.Words w.toNat/\wd h.Words w.toNat<=h.aA)
section
variable {F:Nat} {k:bC} {h:bO} {Y O:List Int}
theorem jz.Ja (bc:ki h) (aC:jz h k Y O):∀ a ∈ Y,1 <=a/\a.toNat+ 3 +(wd h.Words (a.toNat+ 1)).toNat<=h.aZ.toNat:=fun a bN=>by
 obtain ⟨n,rfl,aI,aV,_⟩:=aC.y.mem a bN
 exact ⟨by omega,by rw [Int.toNat_natCast];exact aV⟩
theorem jz.HT (bc:ki h) (aC:jz h k Y O):∀ a ∈ O,h.aA+ 1 <=a/\a.toNat+ 3 +(wd h.Words (a.toNat+ 1)).toNat<=h.aY.toNat:=fun a bN=>by
 obtain ⟨n,rfl,aI,aV,_⟩:=aC.o.mem a bN
 have:=bc.A.1.1
 exact ⟨by omega,by rw [Int.toNat_natCast];exact aV⟩
theorem aFx (bi:jA k) (dR:ki h) (aC:jz h k Y O):oS (view h k Y O)= 0 ↔ Es h k Y O:=by
 have ah:=aC.XE bi dR
 obtain ⟨⟨⟨eu,fw⟩,a3,a4⟩,b,⟨eD,eH⟩,⟨gK,kN⟩,ma⟩:=id dR
 have hy:=aC.Ja dR;have bu:=aC.HT dR
 have bS:hb (view h k Y O)= 0 ↔ (∀ a ∈ Y++O,m1 (view h k Y O) a=false)/\((Y++O).map (bc h.Words)).Nodup:=by
  unfold hb
  show (if (Y++O).any (m1 (view h k Y O)) then (3 :Int) else if ((Y++O).map (bc h.Words)).Nodup then 0 else 6)= 0 ↔ _
  cases a8:(Y++O).any (m1 (view h k Y O)) with
  | true=>
    rw [if_pos rfl]
    refine ⟨fun e=>(by cases e),fun ⟨e,_⟩=>?_⟩
    obtain ⟨x,al,cf⟩:=List.any_eq_true.1 a8
    rw [e x al] at cf;cases cf
  | false=>
    rw [if_neg (by decide)]
    rw [List.any_eq_false] at a8
    have jZ:∀ a ∈ Y++O,m1 (view h k Y O) a=false:=fun a bN=>by simpa using a8 a bN
    split
    · rename_i ai;exact ⟨fun _=>⟨jZ,ai⟩,fun _=>rfl⟩
    · rename_i ai;exact ⟨fun e=>(by cases e),fun e=>absurd e.2 ai⟩
 have cf:s' (view h k Y O)= 0 ↔ (∀ a ∈ Y++O,oM (view h k Y O) a=false)/\ ∀ x ∈ free h,x= 0 :=by
  unfold s'
  show (if (Y++O).any (oM (view h k Y O)) then (5 :Int) else if (free h).any (fun x=>!decide (x= 0)) then 1 else 0)= 0 ↔ _
  cases a8:(Y++O).any (oM (view h k Y O)) with
  | true=>
    rw [if_pos rfl]
    refine ⟨fun e=>(by cases e),fun ⟨e,_⟩=>?_⟩
    obtain ⟨x,al,cf⟩:=List.any_eq_true.1 a8
    rw [e x al] at cf;cases cf
  | false=>
    rw [if_neg (by decide)]
    rw [List.any_eq_false] at a8
    have jZ:∀ a ∈ Y++O,oM (view h k Y O) a=false:=fun a bN=>by simpa using a8 a bN
    cases I:(free h).any (fun x=>!decide (x= 0)) with
    | true=>
      rw [if_pos rfl]
      refine ⟨fun e=>(by cases e),fun ⟨_,e⟩=>?_⟩
      obtain ⟨x,al,cf⟩:=List.any_eq_true.1 I
      rw [e x al] at cf;cases cf
    | false=>
      rw [if_neg (by decide)]
      rw [List.any_eq_false] at I
      exact ⟨fun _=>⟨jZ,fun x al=>by simpa using I x al⟩,fun _=>rfl⟩
 have eI:yE (view h k Y O)= 0 ↔ (∀ i,i <h.ay.length->kA (view h k Y O) i=false)/\ ∀ a ∈ O,pW (view h k Y O) a=false:=by
  unfold yE
  show (if (List.range h.ay.length).any (kA (view h k Y O)) || O.any (pW (view h k Y O)) then (4 :Int) else 0)= 0 ↔ _
  cases a8:(List.range h.ay.length).any (kA (view h k Y O)) with
  | true=>
    rw [Bool.true_or,if_pos rfl]
    refine ⟨fun e=>(by cases e),fun ⟨e,_⟩=>?_⟩
    obtain ⟨x,al,cf⟩:=List.any_eq_true.1 a8
    rw [e x (by simpa using al)] at cf;cases cf
  | false=>
    rw [Bool.false_or]
    rw [List.any_eq_false] at a8
    have jZ:∀ i,i <h.ay.length->kA (view h k Y O) i=false:=fun i hi=>by simpa using a8 i (by simpa using hi)
    cases I:O.any (pW (view h k Y O)) with
    | true=>
      rw [if_pos rfl]
      refine ⟨fun e=>(by cases e),fun ⟨_,e⟩=>?_⟩
      obtain ⟨x,al,cf⟩:=List.any_eq_true.1 I
      rw [e x al] at cf;cases cf
    | false=>
      rw [if_neg (by decide)]
      rw [List.any_eq_false] at I
      exact ⟨fun _=>⟨jZ,fun x al=>by simpa using I x al⟩,fun _=>rfl⟩
 have iy:oS (view h k Y O)= 0 ↔ hb (view h k Y O)= 0 /\s' (view h k Y O)= 0 /\yE (view h k Y O)= 0 :=by
  unfold oS
  by_cases mD:hb (view h k Y O)= 0
  · rw [if_pos mD]
    by_cases n1:s' (view h k Y O)= 0
    · rw [if_pos n1];exact ⟨fun e=>⟨mD,n1,e⟩,fun e=>e.2.2⟩
    · rw [if_neg n1];exact ⟨fun e=>absurd e n1,fun e=>absurd e.2.1 n1⟩
  · rw [if_neg mD];exact ⟨fun e=>absurd e mD,fun e=>absurd e.1 mD⟩
 rw [iy,bS,cf,eI]
 have Al:∀ x,(rK (view h k Y O) x=false) ↔ x ∈ O/\refs k h.Words x.toNat≠ []:=fun x=>by
  unfold rK lz
  show ((!decide (x ∈ Y++O) || (decide (0 <x) && decide (x<=h.aA))) || (refs k h.Words x.toNat).isEmpty)=false ↔ _
  rw [Bool.or_eq_false_iff,Bool.or_eq_false_iff]
  constructor
  · rintro ⟨⟨aI,aV⟩,bX⟩
    have aI:x ∈ Y++O:=by simp only [Bool.not_eq_false'] at aI;exact of_decide_eq_true aI
    refine ⟨?_,fun e=>by rw [e] at bX;cases bX⟩
    rcases List.mem_append.1 aI with eP | eP
    · have:=hy x eP
      rw [decide_eq_true (by omega),decide_eq_true (by omega)] at aV
      cases aV
    · exact eP
  · rintro ⟨aI,aV⟩
    have:=bu x aI
    refine ⟨⟨?_,?_⟩,?_⟩
    · rw [decide_eq_true (List.mem_append_right _ aI)];rfl
    · rw [decide_eq_false (p:=x<=h.aA) (by omega),Bool.and_false]
    · cases e:refs k h.Words x.toNat with
      | nil=>exact absurd e aV
      | cons _ _=>rfl
 constructor
 · rintro ⟨⟨aI,aV⟩,⟨bX,eP⟩,mY,ul⟩
   refine ⟨fun a bN=>?_,aV,fun a bN w hw=>?_,fun i hi hc=>eP _ (abb ⟨by omega,by omega⟩ hi hc),Xv fun i hi=>?_,fun x al=>?_,fun a bN ai w hw=>?_⟩
   · have:=aI a bN
     unfold m1 at this
     rw [Bool.or_eq_false_iff,decide_eq_false_iff_not,decide_eq_false_iff_not] at this
     have t1: ¬ bc h.Words a < 1 :=this.1
     have t2: ¬ h.Next<=bc h.Words a:=this.2
     omega
   · have:=bX a bN
     unfold oM at this
     rw [List.any_eq_false] at this
     have zN:=this w hw
     unfold ta at zN
     by_cases e:wd h.Words w.toNat= 0
     · exact .inl e
     · refine .inr ?_
       by_cases cf:wd h.Words w.toNat ∈ Y++O
       · exact cf
       · refine absurd ?_ zN
         show (!decide (wd h.Words w.toNat= 0) && !decide (wd h.Words w.toNat ∈ Y++O))=true
         rw [decide_eq_false e,decide_eq_false cf];rfl
   · have:=mY (i+ 1) hi
     unfold kA at this
     simp only [Bool.or_eq_false_iff,Bool.and_eq_false_iff,decide_eq_false_iff_not,Nat.add_sub_cancel] at this
     rcases this.1 with z | z
     · omega
     · have z: ¬ wd h.ay (i+ 1)<=wd h.ay i:=z
       omega
   · obtain ⟨i,hi,e⟩:=V9 al
     have:=mY i hi
     unfold kA at this
     rw [Bool.or_eq_false_iff] at this
     have zN:rK (view h k Y O) (wd h.ay i)=false:=this.2
     rw [e] at zN
     exact (Al x).1 zN
   · rintro ⟨DI,OD⟩
     have:=ul a bN
     unfold pW at this
     have this:(!decide (a ∈ h.ay) && (refs k h.Words a.toNat).any fun w=>lz (view h k Y O) (wd h.Words w.toNat))=false:=this
     rw [decide_eq_false ai,Bool.not_false,Bool.true_and,List.any_eq_false] at this
     refine this w hw ?_
     show (decide (0 <wd h.Words w.toNat) && decide (wd h.Words w.toNat<=h.aA))=true
     rw [decide_eq_true DI,decide_eq_true OD];rfl
 · intro g
   refine ⟨⟨fun a bN=>?_,g.nodup⟩,⟨fun a bN=>?_,fun x al=>?_⟩,fun i hi=>?_,fun a bN=>?_⟩
   · have:=g.hash a bN
     show (decide (bc h.Words a < 1) || decide (h.Next<=bc h.Words a))=false
     rw [decide_eq_false (by omega),decide_eq_false (by omega)];rfl
   · show ((refs k h.Words a.toNat).any (ta (view h k Y O)))=false
     rw [List.any_eq_false]
     intro w hw
     show ¬ (!decide (wd h.Words w.toNat= 0) && !decide (wd h.Words w.toNat ∈ Y++O))=true
     rcases g.ref a bN w hw with e | e
     · rw [decide_eq_true e];simp
     · rw [decide_eq_true e];simp
   · obtain ⟨i,hi,hc,e⟩:=adG (by omega) al
     rw [e];exact g.cz i hi hc
   · show ((decide (0 <i) && decide (wd h.ay i<=wd h.ay (i - 1))) || rK (view h k Y O) (wd h.ay i))=false
     rw [(Al _).2 (g.s3 _ (aeG hi)),Bool.or_false]
     by_cases bH:0 <i
     · have:=g.aFb (i - 1) i (by omega) hi
       rw [decide_eq_false (p:=wd h.ay i<=wd h.ay (i - 1)) (by omega),Bool.and_false]
     · rw [decide_eq_false bH];rfl
   · show (!decide (a ∈ h.ay) && (refs k h.Words a.toNat).any fun w=>lz (view h k Y O) (wd h.Words w.toNat))=false
     by_cases ai:a ∈ h.ay
     · rw [decide_eq_true ai];rfl
     · rw [decide_eq_false ai,Bool.not_false,Bool.true_and,List.any_eq_false]
       intro w hw e
       have e:(decide (0 <wd h.Words w.toNat) && decide (wd h.Words w.toNat<=h.aA))=true:=e
       simp only [Bool.and_eq_true,decide_eq_true_eq] at e
       exact g.must a bN ai w hw e
theorem hN.apart {W:List Int} {to q:Nat} {L:List Int} (h:hN k W to q L):∀ a ∈ L,∀ b ∈ L,a≠b->a.toNat+ 3 +(wd W (a.toNat+ 1)).toNat<=b.toNat\/b.toNat+ 3 +(wd W (b.toNat+ 1)).toNat<=a.toNat:=by
 induction h with
 | nil=>intro a bN;cases bN
 | cons aI aV bX hw cA=>
   intro a bN b a8 fo
   rcases List.mem_cons.1 bN with rfl | bN
   · rcases List.mem_cons.1 a8 with rfl | a8
     · exact absurd rfl fo
     · obtain ⟨n,rfl,eP,_⟩:=hw.mem b a8
       left;simp only [Int.toNat_natCast];exact eP
   · rcases List.mem_cons.1 a8 with rfl | a8
     · obtain ⟨n,rfl,eP,_⟩:=hw.mem a bN
       right;simp only [Int.toNat_natCast];exact eP
     · exact cA a bN b a8 fo
theorem jz.apart (bc:ki h) (aC:jz h k Y O):∀ a ∈ Y++O,∀ b ∈ Y++O,a≠b->a.toNat+ 3 +(wd h.Words (a.toNat+ 1)).toNat<=b.toNat\/b.toNat+ 3 +(wd h.Words (b.toNat+ 1)).toNat<=a.toNat:=by
 intro a bN b a8 fo
 have hc:=bc.C.1.2
 rcases List.mem_append.1 bN with bN | bN <;> rcases List.mem_append.1 a8 with a8 | a8
 · exact aC.y.apart a bN b a8 fo
 · have:=aC.Ja bc a bN;have:=aC.HT bc b a8;left;omega
 · have:=aC.HT bc a bN;have:=aC.Ja bc b a8;right;omega
 · exact aC.o.apart a bN b a8 fo
theorem hN.congr {W lg:List Int} {to q:Nat} {L:List Int} (h:hN k W to q L) (he:∀ a ∈ L,wd lg a.toNat=wd W a.toNat/\wd lg (a.toNat+ 1)=wd W (a.toNat+ 1)):hN k lg to q L:=by
 induction h with
 | nil=>exact .nil
 | @cons q r aI aV bX hw cA=>
   obtain ⟨bS,cf⟩:=he _ List.mem_cons_self
   simp only [Int.toNat_natCast] at bS cf
   have:=cA (fun a bN=>he a (List.mem_cons_of_mem _ bN))
   rw [<-cf] at this bX aV
   rw [<-bS] at aI aV
   exact .cons aI aV bX this
theorem aEF {W lg:List Int} {q:Nat} (aI:wd lg q=wd W q) (aV:wd lg (q+ 1)=wd W (q+ 1)):refs k lg q=refs k W q:=by unfold refs;rw [aI,aV]
end
end J
namespace J
section
variable {F:Nat} {k:bC}
theorem aEd (h:jA k) (t:Int):BJ k t=some (jH k t):=by
 have hc:=h.Qb
 unfold BJ jH
 rw [e8 (by omega) (by omega),Option.some.injEq,Bool.eq_iff_iff]
 simp;omega
theorem aD' (h:jA k) {t:Int} (bV:jH k t=true) (n:Int):BI k t n=some (isLen k t n):=by
 unfold BI hM isLen
 simp only [Option.bind_some]
 cases a8:(decide (0 <=n) && decide (n<= 500)) with
 | false=>simp
 | true=>
   by_cases bX:t < 3
   · simp [bX]
   · rw [ML h bV bX];simp [bX]
theorem aEb (h:jA k) {t:Int} (bV:jH k t=true) {n:Int} (ai:isLen k t n=true) {j:Nat} (bf:(j:Int) <n):BO k t (j:Int)=some (m7 k t j):=by
 unfold BO m7
 obtain ⟨_,aC⟩:=yn.1 ai
 by_cases aV:t= 2
 · simp [aV]
 by_cases bX:t < 3
 · have: ¬ 3 <=t:=by omega
   simp [aV,this]
 · have aC:=aC.resolve_left bX
   have QD:3 <=t:=by omega
   have GJ:j <(A1 k t).length:=by omega
   rw [ML h bV bX,Option.bind_some,cu (List.getElem?_eq_getElem GJ),List.getElem?_eq_getElem GJ]
   simp [aV,QD]
theorem hN.le {W:List Int} {to q:Nat} {L:List Int} (h:hN k W to q L):q<=to:=by
 cases h with
 | nil=>exact Nat.le_refl _
 | cons aI aV bX eP=>omega
theorem aiY (h:bO) (bc:jA k) {to:Nat} (As:to<=h.Words.length) (ks:h.Words.length<= 5000):∀ (f q:Nat) (acc:List Int),to - q <f->q<= 6000 ->acc.length+(to - q)<= 6000 ->
 (∃ L,hN k h.Words to q L/\tI h k (to:Int) f acc (q:Int)=some (.go (acc++L,(to:Int)))) \/
 ((∀ L,¬ hN k h.Words to q L)/\(tI h k (to:Int) f acc (q:Int)=some (.out ([],false))\/ ∃ x,tI h k (to:Int) f acc (q:Int)=some (.go x)/\x.2 ≠(to:Int))):=by
 intro f
 induction f with
 | zero=>intro q acc h;omega
 | succ f cA=>
   intro q acc I eE ux
   rw [tI]
   by_cases ey:q <to
   case neg=>
    by_cases e:q=to
    · subst e
      refine .inl ⟨[],.nil,?_⟩
      rw [cO];simp
    · rw [show decide ((q:Int) <(to:Int))=false from decide_eq_false (by omega)]
      exact .inr ⟨fun L iD=>by have:=iD.le;omega,.inr ⟨(acc,(q:Int)),rfl,by show (q:Int)≠(to:Int);omega⟩⟩
   rw [cP ey,cond_true,e8 (n:=(q:Int)+ 3) (by omega) (by omega)]
   by_cases bX:(to:Int) <(q:Int)+ 3
   · rw [decide_eq_true bX]
     refine .inr ⟨fun L iD=>?_,.inl rfl⟩
     obtain ⟨_,_,_,_,h,_⟩:=iD.inv ey
     omega
   rw [decide_eq_false bX,cond_false,m4 (by omega),Option.bind_some]
   have bS:BJ (⟨k.aO,k.aK,k.Fields,k.Names,k.aL⟩:bC) (wd h.Words q)=some (jH k (wd h.Words q)):=aEd bc _
   rw [bS,Option.bind_some]
   cases bV:jH k (wd h.Words q) with
   | false=>
     refine .inr ⟨fun L iD=>?_,.inl rfl⟩
     obtain ⟨_,_,h,_⟩:=iD.inv ey
     rw [bV] at h;cases h
   | true=>
     have cf:BI (⟨k.aO,k.aK,k.Fields,k.Names,k.aL⟩:bC) (wd h.Words q) (wd h.Words (q+ 1))=some (isLen k (wd h.Words q) (wd h.Words (q+ 1))):=aD' bc bV _
     rw [Bool.not_true,cond_false,Option.bind_some,e8 (n:=(q:Int)+ 1) (by omega) (by omega),rv (i:=q+ 1) (by omega) (by omega),Option.bind_some,cf,Option.bind_some]
     cases aC:isLen k (wd h.Words q) (wd h.Words (q+ 1)) with
     | false=>
       refine .inr ⟨fun L iD=>?_,.inl rfl⟩
       obtain ⟨_,_,_,h,_⟩:=iD.inv ey
       rw [aC] at h;cases h
     | true=>
       obtain ⟨⟨CP,l1⟩,_⟩:=yn.1 aC
       rw [Bool.not_true,cond_false,lh (by simp;omega),Option.bind_some,Option.bind_some,e8 (n:=3 +wd h.Words (q+ 1)) (by omega) (by omega),e8 (n:=(q:Int)+(3 +wd h.Words (q+ 1))) (by omega) (by omega)]
       rw [show (q:Int)+(3 +wd h.Words (q+ 1))=((q+ 3 +(wd h.Words (q+ 1)).toNat:Nat):Int) by omega]
       rcases cA (q+ 3 +(wd h.Words (q+ 1)).toNat) (acc++[(q:Int)]) (by omega) (by omega) (by simp;omega) with ⟨L,iD,e⟩ | ⟨ai,e⟩
       · refine .inl ⟨(q:Int)::L,.cons bV aC iD.le iD,?_⟩
         rw [e];simp
       · refine .inr ⟨fun L iD=>?_,e⟩
         obtain ⟨r,_,_,_,_,h⟩:=iD.inv ey
         exact ai r h
theorem ad4 (b4:6000 <F) (h:bO) (bc:jA k) {to q:Nat} (eE:q<= 5000) (As:to<=h.Words.length) (ks:h.Words.length<= 5000) :
 (∃ L,hN k h.Words to q L/\q1 F h k (q:Int) (to:Int)=some (L,true))\/((∀ L,¬ hN k h.Words to q L)/\ ∃ l,q1 F h k (q:Int) (to:Int)=some (l,false)):=by
 unfold q1
 rcases aiY h bc As ks F q [] (by omega) (by omega) (by simp;omega) with ⟨L,iD,e⟩ | ⟨ai,e | ⟨x,e,al⟩⟩
 · exact .inl ⟨L,iD,by rw [e,qG];simp⟩
 · exact .inr ⟨ai,[],by rw [e,aej]⟩
 · exact .inr ⟨ai,x.1,by rw [e,qG];show some (x.1,decide (x.2 =(to:Int)))=_;rw [decide_eq_false al]⟩
theorem abd {α ρ:Type} {p:α->Bool} {e:ρ}:∀ l:List α,l.findSome? (fun x=>if p x then some e else none)=if l.any p then some e else none
 | []=>rfl
 | x::r=>by
   rw [List.findSome?_cons,List.any_cons]
   cases p x with
   | true=>rfl
   | false=>simp only [Bool.false_or];exact abd r
theorem Xb {l:List Int} (aC:Small F l.length) (n:Int):tE F l n=some (decide (n ∈ l)):=by
 unfold tE
 have l1:wZ l n F 0 =some (dF (l.findSome? fun x=>if decide (x=n) then some true else none)):=each _ aC.1 (fun f i x al=>by
  rw [wZ,cP (List.getElem?_eq_some_iff.1 al).1,cond_true,cu al,Option.bind_some]
  cases decide (x=n) <;> rfl) (fun f=>by rw [wZ,cO];rfl) aC.2
 rw [l1,abd]
 by_cases e:n ∈ l
 · rw [show (l.any fun x=>decide (x=n))=true from List.any_eq_true.2 ⟨n,e,by simp⟩,decide_eq_true e];rfl
 · rw [show (l.any fun x=>decide (x=n))=false from List.any_eq_false.2 fun x al=>by simp;rintro rfl;exact e al,decide_eq_false e];rfl
theorem aEc (b4:6000 <F) (h:bO) (bc:jA k) {q:Nat} (eE:q+ 3 +(wd h.Words (q+ 1)).toNat<=h.Words.length) (ks:h.Words.length<= 5000) (bV:jH k (wd h.Words q)=true) (aC:isLen k (wd h.Words q) (wd h.Words (q+ 1))=true) :
 sl F h k (q:Int)=some (refs k h.Words q):=by
 obtain ⟨⟨CP,l1⟩,_⟩:=yn.1 aC
 unfold sl
 generalize ai:(wd h.Words (q+ 1)).toNat=n at eE
 have Fq:wd h.Words (q+ 1)=(n:Int):=by omega
 have qd:=aC
 rw [Fq] at qd
 have l1:=tK (l:=List.range n) (fun f acc i=>sm (q:Int) h k f acc (i:Int)) (fun j=>if m7 k (wd h.Words q) j then [((q+ 3 +j:Nat):Int)] else []) 1 5000 (fun x _=>by split <;> simp) (fun f i x acc al bN=>by
  have hi:i <n:=by have:=(List.getElem?_eq_some_iff.1 al).1;simpa using this
  rw [List.getElem?_range hi] at al
  simp only [Option.some.injEq] at al
  subst al
  rw [sm,e8 (n:=(q:Int)+ 1) (by omega) (by omega),rv (i:=q+ 1) (by omega) (by omega),Option.bind_some,Fq,cP hi,cond_true,m4 (by omega),Option.bind_some]
  have bS:BO (⟨k.aO,k.aK,k.Fields,k.Names,k.aL⟩:bC) (wd h.Words q) (i:Int)=some (m7 k (wd h.Words q) i):=aEb bc bV qd (by omega)
  rw [bS,Option.bind_some]
  show _=sm (q:Int) h k f _ _
  cases m7 k (wd h.Words q) i with
  | true=>
    rw [cond_true,e8 (n:=(q:Int)+ 3) (by omega) (by omega),e8 (n:=(q:Int)+ 3 +i) (by omega) (by omega),lh (by simp;omega),Option.bind_some,Option.bind_some,hV hi (by omega),if_pos rfl]
    congr 2
  | false=>
    rw [cond_false,Option.bind_some,hV hi (by omega),if_neg (by decide),List.append_nil]) (fun f acc=>by
  rw [List.length_range,sm,e8 (n:=(q:Int)+ 1) (by omega) (by omega),rv (i:=q+ 1) (by omega) (by omega),Option.bind_some,Fq,cO];rfl) (F:=F) (by simp;omega) (acc:=[]) (by simp;omega)
 have l1:sm (q:Int) h k F [] 0 =_:=l1
 rw [l1,Option.bind_some,List.nil_append,refs,ai]
theorem aEa (b4:6000 <F) {h:bO} (bi:jA k) (bc:ki h):(∃ Y O,jz h k Y O/\xa F h k=some (Y,O,true))\/((∀ Y O,¬ jz h k Y O)/\ ∃ Y O,xa F h k=some (Y,O,false)):=by
 have hw:=bc.n6
 obtain ⟨⟨⟨eu,fw⟩,a3,a4⟩,b,⟨eD,eH⟩,⟨gK,kN⟩,ma⟩:=id bc
 unfold okB at b
 unfold xa
 have t1:=ad4 (F:=F) b4 h bi (q:=1) (to:=h.aZ.toNat) (by omega) (by omega) (by omega)
 have t2:=ad4 (F:=F) b4 h bi (q:=(h.aA+ 1).toNat) (to:=h.aY.toNat) (by omega) (by omega) (by omega)
 rw [show ((h.aZ.toNat:Nat):Int)=h.aZ by omega] at t1
 rw [show ((h.aY.toNat:Nat):Int)=h.aY by omega,show (((h.aA+ 1).toNat:Nat):Int)=h.aA+ 1 by omega] at t2
 rw [e8 (n:=h.aA+ 1) (by omega) (by omega)]
 have MO:∀ r,q1 F h k 1 h.aZ=some r->q1 F (⟨h.Words,h.aA,h.aP,h.aZ,h.aY,h.ay,h.Next⟩:bO) (⟨k.aO,k.aK,k.Fields,k.Names,k.aL⟩:bC) 1 h.aZ=some r:=fun r e=>e
 have aFs:∀ r,q1 F h k (h.aA+ 1) h.aY=some r->q1 F (⟨h.Words,h.aA,h.aP,h.aZ,h.aY,h.ay,h.Next⟩:bO) (⟨k.aO,k.aK,k.Fields,k.Names,k.aL⟩:bC) (h.aA+ 1) h.aY=some r:=fun r e=>e
 rcases t1 with ⟨Y,KW,bS⟩ | ⟨CY,Y,bS⟩ <;> rcases t2 with ⟨O,nI,cf⟩ | ⟨HP,O,cf⟩ <;> rw [MO _ bS,Option.bind_some,aFs _ cf,Option.bind_some]
 · exact .inl ⟨Y,O,⟨KW,nI⟩,rfl⟩
 · exact .inr ⟨fun Y O h=>HP _ h.o,Y,O,rfl⟩
 · exact .inr ⟨fun Y O h=>CY _ h.y,Y,O,rfl⟩
 · exact .inr ⟨fun Y O h=>CY _ h.y,Y,O,rfl⟩
end
end J
namespace J
section
variable {F:Nat} {k:bC} {h:bO} {Y O:List Int}
theorem Uk {b:Bool} {e:Int} {K:Option (Way Int Unit)}:iR (if b=true then some e else none) K=cond b (some (.out e)) K:=by cases b <;> rfl
theorem aEe (b4:10000 <F) (aI:1 <=h.Next) (ai:h.Next<= 9223372036854775807) (ah:o9 (view h k Y O)):wD h (Y++O) F 0 =some (dF (if (Y++O).any (m1 (view h k Y O)) then some 3 else none)):=by
 have hc:Y.length+O.length<= 5000 :=ah.ud
 have hw:h.Words.length<= 4900 :=ah.n6
 rw [<-ou]
 exact each _ (by simp;omega) (fun f i a bN=>by
  have hm:=List.mem_of_getElem? bN
  have bV:q2 (view h k Y O) a:=ah.rV a hm
  have bH:0 <=a:=bV.pos
  have aV:a.toNat+ 3 +(wd h.Words (a.toNat+ 1)).toNat<=h.Words.length:=bV.fit
  rw [wD,cP (List.getElem?_eq_some_iff.1 bN).1,cond_true,cu bN,Option.bind_some,e8 (n:=a+ 2) (by omega) (by omega),rv (i:=a.toNat+ 2) (by omega) (by omega),Option.bind_some]
  unfold hM
  rw [Option.bind_some,e8 (n:=h.Next - 1) (by omega) (by omega),Uk]
  congr 1
  show _=(decide (wd h.Words (a.toNat+ 2) < 1) || decide (h.Next<=wd h.Words (a.toNat+ 2)))
  rw [Bool.eq_iff_iff];simp;omega) (fun f=>by rw [wD,cO];rfl) (by simp;omega)
theorem aDF {l:List Int}:(List.range l.length).any (fun i=>(List.range i).any fun j=>decide (wd l i=wd l j))= !decide l.Nodup:=by
 rw [Bool.eq_iff_iff,List.any_eq_true]
 simp only [List.mem_range,List.any_eq_true,decide_eq_true_eq,Bool.not_eq_true',decide_eq_false_iff_not]
 rw [List.Nodup,List.pairwise_iff_getElem]
 constructor
 · rintro ⟨i,hi,j,bf,e⟩ b9
   have:=b9 j i (by omega) hi bf
   rw [rZ (List.getElem?_eq_getElem hi),rZ (List.getElem?_eq_getElem (by omega:j <l.length))] at e
   exact this e.symm
 · intro b9
   apply Classical.byContradiction
   intro fo
   refine b9 fun j i bf hi ka e=>fo ⟨i,hi,j,ka,?_⟩
   rw [rZ (List.getElem?_eq_getElem hi),rZ (List.getElem?_eq_getElem bf)];exact e.symm
theorem aEf (b4:10000 <F) (ah:o9 (view h k Y O)):tx F h (Y++O) F 0 =some (dF (if ((Y++O).map (bc h.Words)).Nodup then none else some 6)):=by
 have hc:Y.length+O.length<= 5000 :=ah.ud
 have hw:h.Words.length<= 4900 :=ah.n6
 have aC:(Y++O).length<= 5000 :=by simp;omega
 have at_:∀ i,i <(Y++O).length->idx (Y++O) (i:Int)=some (wd (Y++O) i)/\idx h.Words (av (wd (Y++O) i+ 2))=some (wd ((Y++O).map (bc h.Words)) i):=fun i hi=>by
  have bS:wd (Y++O) i=(Y++O)[i]:=rZ (List.getElem?_eq_getElem hi)
  have bV:q2 (view h k Y O) (Y++O)[i]:=ah.rV _ (List.getElem_mem hi)
  have bH:0 <=(Y++O)[i]:=bV.pos
  have aV:(Y++O)[i].toNat+ 3 +(wd h.Words ((Y++O)[i].toNat+ 1)).toNat<=h.Words.length:=bV.fit
  refine ⟨m4 hi,?_⟩
  rw [bS,e8 (by omega) (by omega),rv (i:=(Y++O)[i].toNat+ 2) (by omega) (by omega)]
  refine congrArg some (rZ ?_).symm
  rw [List.getElem?_map,List.getElem?_eq_getElem hi];rfl
 have l1:tx F h (Y++O) F 0 =some (dF ((List.range (Y++O).length).findSome? fun i=>if (List.range i).any (fun j=>decide (wd ((Y++O).map (bc h.Words)) i=wd ((Y++O).map (bc h.Words)) j)) then some 6 else none)):=lM _ (by omega) (fun f i hi=>by
  rw [tx,cP hi,cond_true]
  have g3:wE h (Y++O) (i:Int) F 0 =some (dF ((List.range i).findSome? fun j=>if decide (wd ((Y++O).map (bc h.Words)) i=wd ((Y++O).map (bc h.Words)) j) then some 6 else none)):=lM _ (by omega) (fun fm j bf=>by
   rw [wE,cP bf,cond_true,(at_ i hi).1,Option.bind_some,(at_ i hi).2,Option.bind_some,(at_ j (by omega)).1,Option.bind_some,(at_ j (by omega)).2,Option.bind_some]
   cases decide (wd ((Y++O).map (bc h.Words)) i=wd ((Y++O).map (bc h.Words)) j) <;> rfl) (fun fm=>by rw [wE,cO];rfl) (by omega)
  rw [g3,ou]
  cases (List.range i).any (fun j=>decide (wd ((Y++O).map (bc h.Words)) i=wd ((Y++O).map (bc h.Words)) j)) <;> rfl) (fun f=>by rw [tx,cO];rfl) (by omega)
 rw [l1,ou]
 have e:=aDF (l:=(Y++O).map (bc h.Words))
 rw [List.length_map] at e
 rw [e]
 by_cases bY:((Y++O).map (bc h.Words)).Nodup
 · rw [if_pos bY,decide_eq_true bY];rfl
 · rw [if_neg bY,decide_eq_false bY];rfl
theorem Xy (b4:10000 <F) (ah:o9 (view h k Y O)) {a:Int} (bN:a ∈ Y++O):sl F (⟨h.Words,h.aA,h.aP,h.aZ,h.aY,h.ay,h.Next⟩:bO) (⟨k.aO,k.aK,k.Fields,k.Names,k.aL⟩:bC) a=some (refs k h.Words a.toNat):=by
 have bV:q2 (view h k Y O) a:=ah.rV a bN
 have hw:h.Words.length<= 4900 :=ah.n6
 have:=aEc (F:=F) (by omega) h ah.Xs (q:=a.toNat) bV.fit (by omega) bV.tag bV.len
 rwa [show ((a.toNat:Nat):Int)=a by have:=bV.pos;omega] at this
theorem aEg (b4:10000 <F) (ah:o9 (view h k Y O)):wF F h k (Y++O) F 0 =some (dF (if (Y++O).any (oM (view h k Y O)) then some 5 else none)):=by
 have hc:Y.length+O.length<= 5000 :=ah.ud
 have hw:h.Words.length<= 4900 :=ah.n6
 rw [<-ou]
 exact each _ (by simp;omega) (fun f i a bN=>by
  have hm:=List.mem_of_getElem? bN
  have bV:q2 (view h k Y O) a:=ah.rV a hm
  have T0:(refs k h.Words a.toNat).length<= 5000 :=Ms ah bV
  rw [wF,cP (List.getElem?_eq_some_iff.1 bN).1,cond_true,cu bN,Option.bind_some,Xy b4 ah hm,Option.bind_some]
  have g3:tz F h (Y++O) (refs k h.Words a.toNat) F 0 =some (dF ((refs k h.Words a.toNat).findSome? fun w=>if ta (view h k Y O) w then some 5 else none)):=each _ (by omega) (fun fm Av w ig=>by
   have hv:=List.mem_of_getElem? ig
   have al:idx h.Words w=some (wd h.Words w.toNat):=bV.Mr hv
   rw [tz,cP (List.getElem?_eq_some_iff.1 ig).1,cond_true,cu ig,Option.bind_some,al,Option.bind_some,Option.bind_some,al,Option.bind_some,Xb ⟨by simp;omega,by simp;omega⟩,Option.bind_some]
   show _=iR (if (!decide (wd h.Words w.toNat= 0) && !decide (wd h.Words w.toNat ∈ Y++O))=true then some 5 else none) _
   cases decide (wd h.Words w.toNat= 0) <;> cases decide (wd h.Words w.toNat ∈ Y++O) <;> rfl) (fun fm=>by rw [tz,cO];rfl) (by omega)
  rw [g3,ou]
  show _=iR (if (refs k h.Words a.toNat).any (ta (view h k Y O)) then some 5 else none) _
  cases (refs k h.Words a.toNat).any (ta (view h k Y O)) <;> rfl) (fun f=>by rw [wF,cO];rfl) (by simp;omega)
theorem aEh (b4:10000 <F) (dR:ki h):si h F 0 =some (dF (if (free h).any (fun x=>!decide (x= 0)) then some 1 else none)):=by
 have hw:=dR.n6
 obtain ⟨⟨⟨eu,fw⟩,a3,a4⟩,b,⟨eD,eH⟩,⟨gK,kN⟩,ma⟩:=id dR
 have l1:si h F 0 =some (dF ((List.range h.Words.length).findSome? fun i=>if (!decide (wd h.Words i= 0) && (decide ((i:Int)= 0) || ((decide (h.aZ<=(i:Int)) && decide ((i:Int)<=h.aA)) || decide (h.aY<=(i:Int))))) then some 1 else none)):=lM _ (by omega) (fun f i hi=>by
  rw [si,cP hi,cond_true,m4 hi,Option.bind_some]
  unfold hM
  rw [Option.bind_some]
  cases decide (wd h.Words i= 0) <;> cases decide ((i:Int)= 0) <;> cases ((decide (h.aZ<=(i:Int)) && decide ((i:Int)<=h.aA)) || decide (h.aY<=(i:Int))) <;> rfl) (fun f=>by rw [si,cO];rfl) (by omega)
 rw [l1,ou]
 refine congrArg (fun b:Bool=>some (dF (if b=true then some 1 else none))) ?_
 rw [Bool.eq_iff_iff,List.any_eq_true,List.any_eq_true]
 constructor
 · rintro ⟨i,hi,e⟩
   simp only [Bool.and_eq_true,Bool.or_eq_true,Bool.not_eq_true',decide_eq_false_iff_not,decide_eq_true_eq] at e
   rw [List.mem_range] at hi
   exact ⟨wd h.Words i,abb ⟨by omega,by omega⟩ hi (by rcases e.2 with e | e | e;exact .inl (by omega);exact .inr (.inl e);exact .inr (.inr e)),by simpa using e.1⟩
 · rintro ⟨x,al,e⟩
   obtain ⟨i,hi,hc,rfl⟩:=adG (by omega) al
   refine ⟨i,List.mem_range.2 hi,?_⟩
   simp only [Bool.and_eq_true,Bool.or_eq_true,Bool.not_eq_true',decide_eq_false_iff_not,decide_eq_true_eq] at e ⊢
   exact ⟨e,by rcases hc with e | e | e;exact .inl (by omega);exact .inr (.inl e);exact .inr (.inr e)⟩
theorem adQ (dR:ki h) (aC:jz h k Y O) {x:Int}:x ∈ O ↔ x ∈ Y++O/\lz (view h k Y O) x=false:=by
 obtain ⟨⟨⟨eu,fw⟩,a3,a4⟩,b,⟨eD,eH⟩,⟨gK,kN⟩,ma⟩:=id dR
 have e:lz (view h k Y O) x=(decide (0 <x) && decide (x<=h.aA)):=rfl
 rw [e]
 constructor
 · intro al
   have:=aC.HT dR x al
   exact ⟨List.mem_append.2 (.inr al),by simp;omega⟩
 · rintro ⟨al,e⟩
   rcases List.mem_append.1 al with al | al
   · have:=aC.Ja dR x al
     simp at e;omega
   · exact al
theorem aEl (b4:10000 <F) (dR:ki h) (aC:jz h k Y O) (ah:o9 (view h k Y O)) (x:Int) (Z:Option Int) (amR:Z=some x) (K:Option (Way Int Unit)):((tE F O x).bind fun Db=>
 cond (!Db) (some (.out 4)) (Z.bind fun Dr=>
 (sl F (⟨h.Words,h.aA,h.aP,h.aZ,h.aY,h.ay,h.Next⟩:bO) (⟨k.aO,k.aK,k.Fields,k.Names,k.aL⟩:bC) Dr).bind fun H7=>
 cond (decide ((H7.length:Int)= 0)) (some (.out 4)) K))=iR (if rK (view h k Y O) x then some 4 else none) K:=by
 have hc:Y.length+O.length<= 5000 :=ah.ud
 subst amR
 rw [Xb ⟨by omega,by omega⟩,Option.bind_some,Uk]
 have e:rK (view h k Y O) x=(!decide (x ∈ Y++O) || lz (view h k Y O) x || (refs k h.Words x.toNat).isEmpty):=rfl
 rw [e]
 by_cases al:x ∈ O
 · obtain ⟨aI,aV⟩:=(adQ dR aC).1 al
   rw [decide_eq_true al,decide_eq_true aI,aV,Bool.not_true,cond_false,Option.bind_some,Xy b4 ah aI,Option.bind_some]
   cases refs k h.Words x.toNat with
   | nil=>rfl
   | cons a r=>rw [decide_eq_false (by simp;omega)];rfl
 · rw [decide_eq_false al]
   have:(!decide (x ∈ Y++O) || lz (view h k Y O) x)=true:=by
    cases bY:decide (x ∈ Y++O) with
    | false=>rfl
    | true=>
      cases hy:lz (view h k Y O) x with
      | true=>rfl
      | false=>exact absurd ((adQ dR aC).2 ⟨of_decide_eq_true bY,hy⟩) al
   rw [this];rfl
theorem aEi (b4:10000 <F) (dR:ki h) (aC:jz h k Y O) (ah:o9 (view h k Y O)) (ai:Small F h.ay.length):sj F h k (Y,O,true) F 0 =some (dF (if (List.range h.ay.length).any (kA (view h k Y O)) then some 4 else none)):=by
 rw [<-ou]
 exact lM _ ai.1 (fun f i hi=>by
  rw [sj,cP hi,cond_true]
  have e:kA (view h k Y O) i=((decide (0 <i) && decide (wd h.ay i<=wd h.ay (i - 1))) || rK (view h k Y O) (wd h.ay i)):=rfl
  have b5:=aEl b4 dR aC ah (wd h.ay i) (idx h.ay (i:Int)) (m4 hi) (sj F h k (Y,O,true) f (av ((i:Int)+ 1)))
  rw [e]
  have aIh:=ai.1
  by_cases bH:0 <i
  · rw [show decide ((0 :Int) <(i:Int))=true from decide_eq_true (by omega),cond_true]
    rw [show ∀ K:Int->Option (Way Int Unit),(idx h.ay (i:Int)).bind K=K (wd h.ay i) from fun K=>by rw [m4 hi];rfl]
    rw [e8 (n:=(i:Int) - 1) (by omega) (by omega),rv (i:=i - 1) (by omega) (by omega),Option.bind_some,decide_eq_true bH,Bool.true_and]
    cases decide (wd h.ay i<=wd h.ay (i - 1)) with
    | true=>rfl
    | false=>
      rw [cond_false,Bool.false_or,<-b5]
      rw [m4 hi];rfl
  · rw [show decide ((0 :Int) <(i:Int))=false from decide_eq_false (by omega),cond_false,decide_eq_false bH,Bool.false_and,Bool.false_or,<-b5]
    rw [m4 hi];rfl) (fun f=>by rw [sj,cO];rfl) ai.2
theorem aEj (b4:10000 <F) (ah:o9 (view h k Y O)) (ai:Small F h.ay.length):wG F h k (Y,O,true) F 0 =some (dF (if O.any (pW (view h k Y O)) then some 4 else none)):=by
 have hc:Y.length+O.length<= 5000 :=ah.ud
 rw [<-ou]
 exact each _ (by omega) (fun f i a bN=>by
  have hm:=List.mem_append.2 (Or.inr (a:=a ∈ Y) (List.mem_of_getElem? bN))
  have bV:q2 (view h k Y O) a:=ah.rV a hm
  have T0:(refs k h.Words a.toNat).length<= 5000 :=Ms ah bV
  rw [wG,cP (List.getElem?_eq_some_iff.1 bN).1,cond_true,cu bN,Option.bind_some,Xy b4 ah hm,Option.bind_some]
  have g3:tA F h (Y,O,true) (i:Int) (refs k h.Words a.toNat) F 0 =some (dF ((refs k h.Words a.toNat).findSome? fun w=>if (!decide (a ∈ h.ay) && lz (view h k Y O) (wd h.Words w.toNat)) then some 4 else none)):=each _ (by omega) (fun fm Av w ig=>by
   have hv:=List.mem_of_getElem? ig
   have al:idx h.Words w=some (wd h.Words w.toNat):=bV.Mr hv
   rw [tA,cP (List.getElem?_eq_some_iff.1 ig).1,cond_true,cu ig,Option.bind_some,al,Option.bind_some]
   unfold hM
   rw [Option.bind_some,cu bN,Option.bind_some,Xb ai,Option.bind_some,Uk]
   have e:lz (view h k Y O) (wd h.Words w.toNat)=(decide (1 <=wd h.Words w.toNat) && decide (wd h.Words w.toNat<=h.aA)):=rfl
   rw [e]
   cases (decide (1 <=wd h.Words w.toNat) && decide (wd h.Words w.toNat<=h.aA)) <;> cases decide (a ∈ h.ay) <;> rfl) (fun fm=>by rw [tA,cO];rfl) (by omega)
  rw [g3,ou]
  have e:pW (view h k Y O) a=((refs k h.Words a.toNat).any fun w=>!decide (a ∈ h.ay) && lz (view h k Y O) (wd h.Words w.toNat)):=by
   show (!decide (a ∈ h.ay) && (refs k h.Words a.toNat).any fun w=>lz (view h k Y O) (wd h.Words w.toNat))=_
   cases decide (a ∈ h.ay) with
   | true=>simp
   | false=>simp
  rw [e]
  cases (refs k h.Words a.toNat).any (fun w=>!decide (a ∈ h.ay) && lz (view h k Y O) (wd h.Words w.toNat)) <;> rfl) (fun f=>by rw [wG,cO];rfl) (by omega)
theorem aEk (b4:10000 <F) (bi:jA k) (ai:Small F h.ay.length) (hi:h.Next<= 9223372036854775807):∃ r,BH F h k=some r.2 /\Spec h k r:=by
 unfold BH
 by_cases hD:AL h
 case neg=>
  refine ⟨(none,n5 h),?_,.size fun s=>hD s.A⟩
  show _=some (n5 h)
  unfold n5 hM
  rw [if_neg hD,Option.bind_some,Option.bind_some]
  cases a8:(decide (3 <=h.aA) && decide (h.aA<= 2000)) with
  | false=>rfl
  | true=>
    cases Q4:(decide (3 <=h.aP) && decide (h.aP<= 2000)) with
    | false=>rfl
    | true=>exact absurd ⟨by simpa using a8,by simpa using Q4⟩ hD
 obtain ⟨⟨eu,fw⟩,a3,a4⟩:=id hD
 have JX:hM h.aA 3 2000 =some true:=by unfold hM;rw [decide_eq_true eu,decide_eq_true fw];rfl
 have EC:hM h.aP 3 2000 =some true:=by unfold hM;rw [decide_eq_true a3,decide_eq_true a4];rfl
 rw [JX,EC,Option.bind_some,Option.bind_some,Bool.not_true,cond_false,cond_false,e8 (n:=1 +h.aA) (by omega) (by omega),e8 (n:=1 +h.aA+h.aP) (by omega) (by omega)]
 by_cases j':okB h
 case neg=>
  refine ⟨(none,n5 h),?_,.size fun s=>j' s.B⟩
  show _=some (n5 h)
  unfold n5
  rw [if_pos hD,if_neg j']
  unfold okB at j'
  rw [decide_eq_false j'];rfl
 have abn:=j'
 unfold okB at abn
 rw [decide_eq_true abn,Bool.not_true,cond_false,e8 (n:=h.aA+ 1) (by omega) (by omega),e8 (n:=h.aA+h.aP) (by omega) (by omega),e8 (n:=h.aA+h.aP+ 1) (by omega) (by omega)]
 by_cases p8:HS h
 case neg=>
  refine ⟨(none,n5 h),?_,.size fun s=>p8 s.C⟩
  show _=some (n5 h)
  unfold n5 hM
  rw [if_pos hD,if_pos j',if_neg p8,Option.bind_some,Option.bind_some]
  cases a8:(decide (1 <=h.aZ) && decide (h.aZ<=h.aA+ 1)) with
  | false=>rfl
  | true=>
    cases Q4:(decide (h.aA+ 1 <=h.aY) && decide (h.aY<=h.aA+h.aP+ 1)) with
    | false=>rfl
    | true=>
      cases an4:decide (h.Next < 1) with
      | true=>rfl
      | false=>exact absurd ⟨by simpa using a8,by simpa using Q4,by simp at an4;omega⟩ p8
 have dR:ki h:=⟨hD,j',p8⟩
 obtain ⟨⟨eD,eH⟩,⟨gK,kN⟩,ma⟩:=id p8
 have ED:hM h.aZ 1 (h.aA+ 1)=some true:=by unfold hM;rw [decide_eq_true eD,decide_eq_true eH];rfl
 have Pt:hM h.aY (h.aA+ 1) (h.aA+h.aP+ 1)=some true:=by unfold hM;rw [decide_eq_true gK,decide_eq_true kN];rfl
 rw [ED,Pt,Option.bind_some,Option.bind_some,Bool.not_true,cond_false,decide_eq_false (show ¬ h.Next < 1 by omega),Bool.or_self,cond_false]
 have MO:∀ r,xa F h k=some r->xa F (⟨h.Words,h.aA,h.aP,h.aZ,h.aY,h.ay,h.Next⟩:bO) (⟨k.aO,k.aK,k.Fields,k.Names,k.aL⟩:bC)=some r:=fun r e=>e
 rcases aEa (F:=F) (by omega) bi dR with ⟨Y,O,aC,e⟩ | ⟨pB,Y,O,e⟩
 case inr=>
  refine ⟨(none,1),?_,.form dR pB⟩
  rw [MO _ e];rfl
 have ah:=aC.XE bi dR
 have hc:Y.length+O.length<= 5000 :=ah.ud
 refine ⟨_,?_,.rest dR aC⟩
 show _=some (oS (view h k Y O))
 have il:eO 8 ([]:List Int) Y=some Y:=by rw [lh (by simp;omega)];rfl
 have n0:eO 8 Y O=some (Y++O):=lh (by omega)
 have l1:=aEe (k:=k) (Y:=Y) (O:=O) b4 ma hi ah
 have g3:=aEf (F:=F) b4 ah
 have AF:=aEg (F:=F) b4 ah
 have HD:=aEh (F:=F) b4 dR
 have VZ:=aEi b4 dR aC ah ai
 have V0:=aEj b4 ah ai
 rw [MO _ e,Option.bind_some]
 show (eO 8 ([]:List Int) Y).bind _=_
 rw [il,Option.bind_some]
 show (eO 8 Y O).bind _=_
 rw [n0,Option.bind_some,l1,k9]
 unfold oS hb
 show pO (if (Y++O).any (m1 (view h k Y O))=true then some 3 else none) _=some (if (if (Y++O).any (m1 (view h k Y O))=true then (3 :Int) else if ((Y++O).map (bc h.Words)).Nodup then 0 else 6)= 0 then _ else (if (Y++O).any (m1 (view h k Y O))=true then (3 :Int) else if ((Y++O).map (bc h.Words)).Nodup then 0 else 6))
 cases (Y++O).any (m1 (view h k Y O)) with
 | true=>rfl
 | false=>
   rw [if_neg Bool.false_ne_true,if_neg Bool.false_ne_true]
   show dD _ _=_
   rw [g3,k9]
   by_cases bY:((Y++O).map (bc h.Words)).Nodup
   case neg=>rw [if_neg bY,if_neg bY];rfl
   rw [if_pos bY,if_pos bY,if_pos rfl]
   show dD _ _=_
   rw [AF,k9]
   unfold s'
   show pO (if (Y++O).any (oM (view h k Y O))=true then some 5 else none) _=some (if (if (Y++O).any (oM (view h k Y O))=true then (5 :Int) else if (free h).any (fun x=>!decide (x= 0))=true then 1 else 0)= 0 then _ else (if (Y++O).any (oM (view h k Y O))=true then (5 :Int) else if (free h).any (fun x=>!decide (x= 0))=true then 1 else 0))
   cases (Y++O).any (oM (view h k Y O)) with
   | true=>rfl
   | false=>
     rw [if_neg Bool.false_ne_true,if_neg Bool.false_ne_true]
     show dD _ _=_
     rw [HD,k9]
     cases (free h).any (fun x=>!decide (x= 0)) with
     | true=>rfl
     | false=>
       rw [if_neg Bool.false_ne_true,if_neg Bool.false_ne_true,if_pos rfl]
       show dD _ _=_
       rw [VZ,k9]
       unfold yE
       show pO (if (List.range h.ay.length).any (kA (view h k Y O))=true then some 4 else none) _=some (if ((List.range h.ay.length).any (kA (view h k Y O)) || O.any (pW (view h k Y O)))=true then (4 :Int) else 0)
       cases (List.range h.ay.length).any (kA (view h k Y O)) with
       | true=>rfl
       | false=>
         rw [if_neg Bool.false_ne_true,Bool.false_or]
         show dD _ _=_
         rw [V0,k9]
         cases O.any (pW (view h k Y O)) <;> rfl
theorem Spec.MP {r L4:Option cy × Int} (s:Spec h k r) (Xq:Spec h k L4):r=L4:=by
 cases s with
 | size ai=>cases Xq with
   | size _=>rfl
   | form bu _=>exact absurd bu ai
   | rest bu _=>exact absurd bu ai
 | form bu pB=>cases Xq with
   | size ai=>exact absurd bu ai
   | form _ _=>rfl
   | rest _ aC=>exact absurd aC (pB _ _)
 | rest bu aC=>cases Xq with
   | size ai=>exact absurd bu ai
   | form _ pB=>exact absurd aC (pB _ _)
   | rest _ qd=>
     obtain rfl:=aC.y.MP qd.y
     obtain rfl:=aC.o.MP qd.o
     rfl
end
end J
namespace J
section
variable {k:bC} {h:bO} {Y O:List Int}
theorem jz.fit (dR:ki h) (aC:jz h k Y O):∀ a ∈ Y++O,1 <=a/\a.toNat+ 3 +(wd h.Words (a.toNat+ 1)).toNat<=h.Words.length/\(a.toNat+ 3 +(wd h.Words (a.toNat+ 1)).toNat<=h.aZ.toNat\/(h.aA+ 1 <=a/\a.toNat+ 3 +(wd h.Words (a.toNat+ 1)).toNat<=h.aY.toNat)):=by
 intro a bN
 have j':(h.Words.length:Int)= 1 +h.aA+h.aP:=dR.B
 obtain ⟨⟨eD,eH⟩,⟨gK,kN⟩,_⟩:=dR.C
 obtain ⟨⟨eu,_⟩,a3,_⟩:=dR.A
 rcases List.mem_append.1 bN with bN | bN
 · obtain ⟨aI,aV⟩:=aC.Ja dR a bN;exact ⟨aI,by omega,.inl aV⟩
 · obtain ⟨aI,aV⟩:=aC.HT dR a bN;exact ⟨by omega,by omega,.inr ⟨aI,aV⟩⟩
theorem jz.aFd (aC:jz h k Y O):∀ a ∈ Y++O,jH k (wd h.Words a.toNat)=true/\isLen k (wd h.Words a.toNat) (wd h.Words (a.toNat+ 1))=true:=by
 intro a bN
 rcases List.mem_append.1 bN with bN | bN
 · obtain ⟨n,rfl,_,_,bX⟩:=aC.y.mem a bN;exact bX
 · obtain ⟨n,rfl,_,_,bX⟩:=aC.o.mem a bN;exact bX
theorem Es.set (dR:ki h) (aC:jz h k Y O) (g:Es h k Y O) {a:Int} (bN:a ∈ Y++O) {n:Nat} (ai:n <(wd h.Words (a.toNat+ 1)).toNat) {value:Int}
 (ah:m7 k (wd h.Words a.toNat) n=true->value= 0 \/value ∈ Y++O) {s3:List Int} (aI:zn s3) (aV:∀ x ∈ s3,x ∈ h.ay\/(x=a/\a ∈ O/\m7 k (wd h.Words a.toNat) n=true)) (bX:∀ x ∈ h.ay,x ∈ s3)
 (eP:m7 k (wd h.Words a.toNat) n=true->a ∈ O-> 0 <value->value<=h.aA->a ∈ s3) :
 ki (⟨h.Words.set (a.toNat+ 3 +n) value,h.aA,h.aP,h.aZ,h.aY,s3,h.Next⟩:bO)/\jz (⟨h.Words.set (a.toNat+ 3 +n) value,h.aA,h.aP,h.aZ,h.aY,s3,h.Next⟩:bO) k Y O /\
 Es (⟨h.Words.set (a.toNat+ 3 +n) value,h.aA,h.aP,h.aZ,h.aY,s3,h.Next⟩:bO) k Y O:=by
 obtain ⟨f1,f2,f3⟩:=aC.fit dR a bN
 have b9:a.toNat+ 3 +n <h.Words.length:=by omega
 have hw:∀ j,wd (h.Words.set (a.toNat+ 3 +n) value) j=if j=a.toNat+ 3 +n then value else wd h.Words j:=fun j=>aFB b9
 have head:∀ b ∈ Y++O,wd (h.Words.set (a.toNat+ 3 +n) value) b.toNat=wd h.Words b.toNat/\wd (h.Words.set (a.toNat+ 3 +n) value) (b.toNat+ 1)=wd h.Words (b.toNat+ 1)/\wd (h.Words.set (a.toNat+ 3 +n) value) (b.toNat+ 2)=wd h.Words (b.toNat+ 2):=by
  intro b a8
  rw [hw,hw,hw]
  by_cases e:b=a
  · subst e
    rw [if_neg (by omega),if_neg (by omega),if_neg (by omega)];exact ⟨rfl,rfl,rfl⟩
  · have:=aC.apart dR b a8 a bN e
    rw [if_neg (by omega),if_neg (by omega),if_neg (by omega)];exact ⟨rfl,rfl,rfl⟩
 have j':(h.Words.length:Int)= 1 +h.aA+h.aP:=dR.B
 obtain ⟨⟨eD,eH⟩,⟨gK,kN⟩,ma⟩:=id dR.C
 have b5:∀ b ∈ Y++O,refs k (h.Words.set (a.toNat+ 3 +n) value) b.toNat=refs k h.Words b.toNat:=fun b a8=>aEF (head b a8).1 (head b a8).2.1
 have K3:∀ b ∈ Y++O,bc (h.Words.set (a.toNat+ 3 +n) value) b=bc h.Words b:=fun b a8=>(head b a8).2.2
 have axD:(Y++O).map (bc (h.Words.set (a.toNat+ 3 +n) value))=(Y++O).map (bc h.Words):=List.map_congr_left K3
 have xW:∀ b ∈ Y++O,∀ w ∈ refs k h.Words b.toNat,w.toNat=a.toNat+ 3 +n->b=a/\m7 k (wd h.Words a.toNat) n=true:=by
  intro b a8 w ig e
  obtain ⟨j,bf,awO,rfl⟩:=V8.1 ig
  simp only [Int.toNat_natCast] at e
  have KG:b=a:=by
   by_cases KG:b=a
   · exact KG
   · have:=aC.apart dR b a8 a bN KG;omega
  subst KG
  have:j=n:=by omega
  subst this
  exact ⟨rfl,awO⟩
 refine ⟨⟨dR.A,?_,dR.C⟩,⟨aC.y.congr fun b a8=>?_,aC.o.congr fun b a8=>?_⟩,⟨fun b a8=>?_,?_,fun b a8 w ig=>?_,fun i hi hc=>?_,aI,fun x al=>?_,fun b a8 ab9 w ig=>?_⟩⟩
 · show ((h.Words.set (a.toNat+ 3 +n) value).length:Int)=_;rw [List.length_set];exact j'
 · obtain ⟨la,A_,_⟩:=head b (List.mem_append_left _ a8);exact ⟨la,A_⟩
 · obtain ⟨la,A_,_⟩:=head b (List.mem_append_right _ a8);exact ⟨la,A_⟩
 · show 1 <=bc (h.Words.set (a.toNat+ 3 +n) value) b/\bc (h.Words.set (a.toNat+ 3 +n) value) b <h.Next
   rw [K3 b a8];exact g.hash b a8
 · show ((Y++O).map (bc (h.Words.set (a.toNat+ 3 +n) value))).Nodup
   rw [axD];exact g.nodup
 · have ig:w ∈ refs k (h.Words.set (a.toNat+ 3 +n) value) b.toNat:=ig
   rw [b5 b a8] at ig
   show wd (h.Words.set (a.toNat+ 3 +n) value) w.toNat= 0 \/wd (h.Words.set (a.toNat+ 3 +n) value) w.toNat ∈ Y++O
   rw [hw]
   by_cases e:w.toNat=a.toNat+ 3 +n
   · rw [if_pos e];exact ah (xW b a8 w ig e).2
   · rw [if_neg e];exact g.ref b a8 w ig
 · have hi:i <(h.Words.set (a.toNat+ 3 +n) value).length:=hi
   rw [List.length_set] at hi
   have hc:i= 0 \/(h.aZ<=i/\(i:Int)<=h.aA)\/h.aY<=i:=hc
   show wd (h.Words.set (a.toNat+ 3 +n) value) i= 0
   rw [hw,if_neg (by omega)]
   exact g.cz i hi hc
 · show x ∈ O/\refs k (h.Words.set (a.toNat+ 3 +n) value) x.toNat≠ []
   rcases aV x al with al | ⟨rfl,nI,bf⟩
   · obtain ⟨la,A_⟩:=g.s3 x al
     rw [b5 x (List.mem_append_right _ la)];exact ⟨la,A_⟩
   · refine ⟨nI,?_⟩
     rw [b5 x bN]
     intro e
     have:((x.toNat+ 3 +n:Nat):Int) ∈ refs k h.Words x.toNat:=V8.2 ⟨n,ai,bf,rfl⟩
     rw [e] at this;cases this
 · have jZ:b ∈ Y++O:=List.mem_append_right _ a8
   have ig:w ∈ refs k (h.Words.set (a.toNat+ 3 +n) value) b.toNat:=ig
   rw [b5 b jZ] at ig
   show ¬ (0 <wd (h.Words.set (a.toNat+ 3 +n) value) w.toNat/\wd (h.Words.set (a.toNat+ 3 +n) value) w.toNat<=h.aA)
   rw [hw]
   by_cases e:w.toNat=a.toNat+ 3 +n
   · rw [if_pos e]
     obtain ⟨rfl,bf⟩:=xW b jZ w ig e
     rintro ⟨DI,OD⟩
     exact ab9 (eP bf a8 DI OD)
   · rw [if_neg e]
     exact g.must b a8 (fun hm=>ab9 (bX b hm)) w ig
end
end J
namespace J
structure Good (F:Nat) (h:bO) (k:bC) (Y O:List Int):Prop where
 ub:rE F k=some 0
 Xs:jA k
 s:ki h
 l:jz h k Y O
 ok:Es h k Y O
section
variable {F:Nat} {k:bC} {h:bO} {Y O:List Int}
theorem aDP (b4:10000 <F) (Gz:∃ e,rE F k=some e/\(e≠ 0 \/(e= 0 /\jA k))) (ai:Small F h.ay.length) :
 ∃ r,rl F h k=some r/\((r.2 ≠ 0 /\r.1 =none)\/ ∃ Y O,Good F h k Y O/\r=(some (view h k Y O),0)):=by
 obtain ⟨e,bS,he⟩:=Gz
 unfold rl
 have aiz:rE F (⟨k.aO,k.aK,k.Fields,k.Names,k.aL⟩:bC)=some e:=bS
 rw [aiz,Option.bind_some]
 rcases he with he | ⟨rfl,bi⟩
 · rw [rL he];exact ⟨_,rfl,.inl ⟨he,rfl⟩⟩
 obtain ⟨r,cf,jP⟩:=adS b4 bi ai
 have cf:z8 F (⟨h.Words,h.aA,h.aP,h.aZ,h.aY,h.ay,h.Next⟩:bO) (⟨k.aO,k.aK,k.Fields,k.Names,k.aL⟩:bC)=some r:=cf
 rw [sx,cf,Option.bind_some]
 refine ⟨_,rfl,?_⟩
 cases jP with
 | size bc=>exact .inl ⟨fun e=>bc (Xu.1 e),rfl⟩
 | form _ I=>exact .inl ⟨by decide,rfl⟩
 | @rest Pn JT bc aC=>
   by_cases q:oS (view h k Pn JT)= 0
   · exact .inr ⟨Pn,JT,⟨bS,bi,bc,aC,(aFx bi bc aC).1 q⟩,by rw [q];rfl⟩
   · exact .inl ⟨q,by rw [if_neg q]⟩
theorem Good.dm (_:Good F h k Y O) (a:Int):Cs (view h k Y O) a=some (decide (a ∈ Y++O)):=by
 unfold Cs
 show some ((dr ((Y++O).map fun a=>(a,true)) a).getD false)=_
 rw [V_]
def aCT (h:bO) (a n:Int):Prop:=0 <=n/\n <wd h.Words (a.toNat+ 1)
instance (h:bO) (a n:Int):Decidable (aCT h a n):=inferInstanceAs (Decidable (0 <=n/\n <wd h.Words (a.toNat+ 1)))
theorem Good.fit (g:Good F h k Y O) {a:Int} (bN:a ∈ Y++O):1 <=a/\a.toNat+ 3 +(wd h.Words (a.toNat+ 1)).toNat<=h.Words.length/\h.Words.length<= 4001 /\ 0 <=wd h.Words (a.toNat+ 1)/\wd h.Words (a.toNat+ 1)<= 500 :=by
 obtain ⟨f1,f2,_⟩:=g.l.fit g.s a bN
 obtain ⟨t1,t2⟩:=g.l.aFd a bN
 obtain ⟨⟨CP,l1⟩,_⟩:=yn.1 t2
 exact ⟨f1,f2,g.s.n6,CP,l1⟩
end
end J
namespace J
set_option maxRecDepth 100000 in
theorem at1 (F:Nat):JS (F+ 60)=some true:=by kernel_rfl
end J
namespace J
open Go Go.Proofs.YtpkhpagplommoaaGreat
theorem vJ {n:Nat} (h:n<=reachBytes):Small 140737488356000 n:=by
 have:reachBytes= 140737488351232 :=rfl
 unfold Small
 omega
theorem pQ {n:Nat} (k:Nat) (h:n*(k+ 1)<=reachBytes):Small 140737488356000 n:=
 vJ (Nat.le_trans (Nat.le_mul_of_pos_right n (Nat.succ_pos k)) h)
theorem aiV {m:Method} (h:JV reachBytes m):m.Fits 140737488356000 :=
 ⟨vJ h.1,pQ 23 h.2.2.1.1,fun k bi=>vJ (h.2.2.1.2 k bi).2,vJ h.2.2.2.1.2,pQ 39 h.2.2.2.2.2.2.2.1,fun x al=>vJ (h.2.2.2.2.2.2.2.2 x al).2.2.2⟩
theorem aiU {c:aR} (h:Et reachBytes c):c.Fits 140737488356000 :=
 ⟨vJ h.1,vJ h.2.1,pQ 39 h.2.2.1.1,fun f I=>⟨vJ (h.2.2.1.2 f I).1,vJ (h.2.2.1.2 f I).2.2⟩,pQ 127 h.2.2.2.1,fun m hm=>aiV (h.2.2.2.2 m hm)⟩
theorem aiW {l:List aR} (h:l.length* 80 <=reachBytes/\ ∀ x ∈ l,Et reachBytes x):Fits 140737488356000 l:=
 ⟨pQ 79 h.1,fun c hc=>aiU (h.2 c hc)⟩
theorem aDi {k:bC} (h:JU reachBytes k):JQ 140737488356000 k:=
 ⟨pQ 7 h.2.1.1,pQ 23 h.2.2.1.1,fun x al=>pQ 39 (h.2.2.1.2 x al).1,pQ 23 h.2.2.2.1.1,fun x al=>pQ 15 (h.2.2.2.1.2 x al).1,pQ 23 h.2.2.2.2.1,fun x al=>pQ 15 (h.2.2.2.2.2 x al).1⟩
end J
namespace J
theorem aE8 {k:bC} (mf:jy k.aO) (e:k=linked k.aO):jA k:=by
 have:=mf.right.len
 exact ⟨by omega,by rw [e];exact aEI⟩
theorem ah6 {k:bC} (aI:Go.Proofs.YtpkhpagplommoaaGreat.JU Go.reachBytes k):∃ e,rE 140737488356000 k=some e/\wU 140737488356000 k=some e/\(e≠ 0 \/(e= 0 /\jA k)):=by
 obtain ⟨e,eD,eH,gK⟩:=ah5 (F:=140737488356000) (by omega) (aiW aI.1) (aDi aI)
 refine ⟨e,eD,eH,?_⟩
 rcases gK with rfl | ⟨rfl,mf,bi⟩
 · exact .inl (by decide)
 · exact .inr ⟨rfl,aE8 mf bi⟩
theorem aDO {F:Nat} {h:bO} {k:bC} (b4:10000 <F) (Gz:∃ e,rE F k=some e/\wU F k=some e/\(e≠ 0 \/(e= 0 /\jA k))) (ai:Small F h.ay.length) (hi:h.Next<= 9223372036854775807) :
 ∃ r,rl F h k=some r/\BK F h k=some r.2 /\((r.2 ≠ 0 /\r.1 =none)\/ ∃ Y O,Good F h k Y O/\r=(some (view h k Y O),0)):=by
 obtain ⟨e,eD,eH,gK⟩:=Gz
 obtain ⟨r,bS,b5⟩:=aDP b4 ⟨e,eD,gK⟩ ai
 refine ⟨r,bS,?_,b5⟩
 have ags:rE F (⟨k.aO,k.aK,k.Fields,k.Names,k.aL⟩:bC)=some e:=eD
 have agA:wU F (⟨k.aO,k.aK,k.Fields,k.Names,k.aL⟩:bC)=some e:=eH
 unfold BK
 unfold rl at bS
 rw [ags,Option.bind_some] at bS
 rw [agA,Option.bind_some]
 rcases gK with gK | ⟨rfl,bi⟩
 · rw [rL gK] at bS
   obtain rfl:=Option.some.inj bS
   rw [decide_eq_false gK];rfl
 · rw [sx] at bS
   obtain ⟨k7,qD,s1⟩:=adS b4 bi ai
   obtain ⟨oL,qE,s2⟩:=aEk b4 bi ai hi
   have qD:z8 F (⟨h.Words,h.aA,h.aP,h.aZ,h.aY,h.ay,h.Next⟩:bO) (⟨k.aO,k.aK,k.Fields,k.Names,k.aL⟩:bC)=some k7:=qD
   have qE:BH F (⟨h.Words,h.aA,h.aP,h.aZ,h.aY,h.ay,h.Next⟩:bO) (⟨k.aO,k.aK,k.Fields,k.Names,k.aL⟩:bC)=some oL.2 :=qE
   obtain rfl:=s1.MP s2
   rw [qD,Option.bind_some] at bS
   obtain rfl:=Option.some.inj bS
   rw [show decide ((0 :Int)= 0)=true from rfl,cond_true,qE];rfl
end J
namespace J
theorem aDY (h:bO) (bH:Go.Proofs.YtpkhpagplommoaaGreat.Y2 Go.reachBytes h) (k:bC) (aI:Go.Proofs.YtpkhpagplommoaaGreat.JU Go.reachBytes k):∃ F,JR F h k=some true:=by
 refine ⟨140737488355940 + 60,?_⟩
 have b4:10000 < 140737488355940 + 60 :=by omega
 have Gz:=ah6 aI
 have ai:Small (140737488355940 + 60) h.ay.length:=pQ 7 bH.2.2.2.2.2.1.1
 obtain ⟨r,bS,cf,_⟩:=aDO b4 Gz ai bH.2.2.2.2.2.2.2
 unfold JR
 rw [at1,Option.bind_some,cond_true]
 have bS:rl (140737488355940 + 60) (⟨h.Words,h.aA,h.aP,h.aZ,h.aY,h.ay,h.Next⟩:bO) (⟨k.aO,k.aK,k.Fields,k.Names,k.aL⟩:bC)=some r:=bS
 have eI:GB (140737488355940 + 60) (⟨h.Words,h.aA,h.aP,h.aZ,h.aY,h.ay,h.Next⟩:bO) (⟨k.aO,k.aK,k.Fields,k.Names,k.aL⟩:bC)=some r.2 :=by
  unfold GB
  show (rl (140737488355940 + 60) (⟨h.Words,h.aA,h.aP,h.aZ,h.aY,h.ay,h.Next⟩:bO) (⟨k.aO,k.aK,k.Fields,k.Names,k.aL⟩:bC)).bind _=_
  rw [bS];rfl
 have cf:BK (140737488355940 + 60) (⟨h.Words,h.aA,h.aP,h.aZ,h.aY,h.ay,h.Next⟩:bO) (⟨k.aO,k.aK,k.Fields,k.Names,k.aL⟩:bC)=some r.2 :=cf
 rw [eI,Option.bind_some,cf,Option.bind_some,decide_eq_true rfl]
end J
namespace Go.Proofs.YtpkhpagplommoaaGreat.heapChecks
open Go Go.ChangeShapes Go.WideShapes Go.ChangeAt Go.RowKit
theorem own:ownKnob Tryz.prog.godebug=none:=by kernel_rfl
set_option maxRecDepth 100000 in
theorem ah' (H:Type) (enc:TypeId × Value->H) (W:World) (base:Nat) (args:Array Value) (ds gs:List (DataW H)) (before:List MemPlace)
 (At:∀ (j:Nat) t v,Tryz.f8.params[j]? =some t->args[j]? =some v->Value.okWide Tryz.prog W .any base t v)
 (ks:DataW.Whole enc Tryz.prog Tryz.f8.params.toList Rows.heapChecksSpec.vars false W args.toList ds gs before) (azP:∀ n ∈ DataW.weightsEach Tryz.prog Tryz.f8.params.toList ds,n<=reachBytes) :
 Calls Tryz.prog 8 args W fun e lg=>∃ v,e= .returned v/\Rows.heapChecksSpec.post enc Tryz.prog Tryz.f8 false true false false W args v lg:=by
 have amO:=ks
 have ey:=ks.lt
 obtain ⟨p,q,aji,Co,G8,RD,TD⟩:=ks
 have hD:DataW.TrodAll enc Tryz.prog W 0 (fun _=>true) true Tryz.f8.params.toList args.toList ds p:=aji
 have lP:=azP
 rw [Tryz.params8] at hD At lP
 obtain ⟨v0,aIt,d0,aHO,js,aIq,QZ,rfl,rfl,bH,aFm⟩:=trodAll_cons hD
 obtain ⟨v1,aIu,d1,aHP,il,mD,rfl,rfl,rfl,aI,aFn⟩:=trodAll_cons aFm
 obtain ⟨rfl,rfl,rfl⟩:=trodAll_nil aFn
 obtain rfl:args= #[v0,v1]:=by cases args;simp_all
 obtain ⟨rfl,rfl⟩:=trodVars_none Co
 have aEL:=aEp (enc:=enc) (N:=reachBytes)
 have aEJ:=a5.Y' aEL bH (fun x al=>ey x (by subst G8;simp [al]))
 have aEN:=aEJ (fun m hm=>lP m (by simp only [DataW.weightsEach,List.mem_append];simp [hm]))
 obtain ⟨d0,lF,mn⟩:=aEN
 obtain ⟨v0,rfl,_⟩:=okWide_struct Tryz.underlying24 (At 0 24 v0 rfl rfl)
 obtain ⟨aG7,aHm,aG8,aHn,jU,aD2,aD3⟩:=lF
 obtain rfl:=a5.Y4 jU
 have aEM:=aEq (enc:=enc) (N:=reachBytes)
 have aEK:=a5.Y' aEM aI (fun x al=>ey x (by subst G8;simp [al]))
 have aEO:=aEK (fun m hm=>lP m (by simp only [DataW.weightsEach,List.mem_append];simp [hm]))
 obtain ⟨d1,k7,kv⟩:=aEO
 obtain ⟨v1,rfl,_⟩:=okWide_struct Tryz.underlying30 (At 1 30 v1 rfl rfl)
 obtain ⟨aG',aHq,aHa,aHr,aHb,aHs,aHc,aHt,aHd,aHu,bS,aD4,aD5,aD6,aD7,aD8⟩:=k7
 obtain rfl:=a5.Y4 bS
 obtain ⟨F,b4⟩:=J.aDY d0 mn d1 kv
 refine (ag1 (X:=[]) (M0:=[]) (W:=W) ⟨a5.bg.refl _ _,fun _ bi=>absurd bi (List.not_mem_nil),fun _ bi=>absurd bi (List.not_mem_nil),fun _ al=>absurd al (List.not_mem_nil),List.nodup_nil,fun y hy=>by (simp only [List.mem_cons,List.not_mem_nil,or_false] at hy;rcases hy with rfl | rfl | rfl | rfl | rfl | rfl | rfl <;> first | exact aD2 | exact aD3 | exact aD4 | exact aD5 | exact aD6 | exact aD7 | exact aD8)⟩ b4).mono fun e lg ⟨he,ah⟩=>?_
 exact ⟨_,he,a5.aD0 amO (by kernel_rfl) (by kernel_rfl) rfl rfl Tryz.underlying4 rfl ah.ev⟩
theorem aDd (os:Os):laidMet Tryz.prog Rows.heapChecksRow.laid ((World.holding Tryz.prog os ⟨#[],#[],[]⟩).forCall (fun _ _=>0) ⟨#[],#[.agg #[.slice none 0 0,.int .i64 0,.int .i64 0,.int .i64 0,.int .i64 0,.slice none 0 0,.int .i64 0],.agg #[.slice none 0 0,.slice none 0 0,.slice none 0 0,.slice none 0 0,.slice none 0 0]],[]⟩).memory:=
 laidMet_of_run' 8 (by kernel_rfl) (by kernel_rfl)
theorem reads (os:Os) {H:Type} (enc:TypeId × Value->H):∃ places,DataW.whole enc Tryz.prog ((World.holding Tryz.prog os ⟨#[],#[],[]⟩).forCall (fun _ _=>0) ⟨#[],#[.agg #[.slice none 0 0,.int .i64 0,.int .i64 0,.int .i64 0,.int .i64 0,.slice none 0 0,.int .i64 0],.agg #[.slice none 0 0,.slice none 0 0,.slice none 0 0,.slice none 0 0,.slice none 0 0]],[]⟩).memory Tryz.f8.params.toList Rows.heapChecksSpec.vars false (#[.agg #[.slice none 0 0,.int .i64 0,.int .i64 0,.int .i64 0,.int .i64 0,.slice none 0 0,.int .i64 0],.agg #[.slice none 0 0,.slice none 0 0,.slice none 0 0,.slice none 0 0,.slice none 0 0]]:Array Value).toList 8 =some ([.agg [.nil,.lit (.int .i64 0),.lit (.int .i64 0),.lit (.int .i64 0),.lit (.int .i64 0),.nil,.lit (.int .i64 0)],.agg [.nil,.nil,.nil,.nil,.nil]],[],places):=
 ⟨[],by kernel_rfl⟩
set_option maxRecDepth 100000 in
theorem lifted (os:Os) (started:os.Started) (H:Type) (enc:TypeId × Value->H) (F:Stop.Interp) :
 ReturnsInHanded {} Tryz.checked os 8 .any ((OpenSpec.ofChange Rows.heapChecksSpec).preRow enc Tryz.prog Tryz.f8 Rows.heapChecksRow.domain false Rows.heapChecksRow.laid) (((OpenSpec.ofChange Rows.heapChecksSpec).at F).post enc Tryz.prog Tryz.f8 false true false false):=by
 obtain ⟨places,al⟩:=reads os enc
 refine returnsInHanded_of_row (C:=Tryz.checked) (s:=OpenSpec.ofChange Rows.heapChecksSpec) own started (by kernel_rfl) Tryz.func8
  (witness_row_at (enc:=enc) (C:=Tryz.checked) false (World.holding Tryz.prog os ⟨#[],#[],[]⟩) #[.agg #[.slice none 0 0,.int .i64 0,.int .i64 0,.int .i64 0,.int .i64 0,.slice none 0 0,.int .i64 0],.agg #[.slice none 0 0,.slice none 0 0,.slice none 0 0,.slice none 0 0,.slice none 0 0]] rfl (by kernel_rfl) (by kernel_rfl) (by kernel_rfl)
   (OpenSpec.preRow_of_cond 8 al (by kernel_rfl) (fun k bi=>by cases bi) (by kernel_rfl) (aDd os))) ?_
 intro W base args ds gs before At ks _ aIc az9 _ _ _
 exact ah' H enc W base args ds gs before At ks (fun n ai=>by obtain ⟨_,_,_,Co,_,_,_⟩:=ks;obtain ⟨rfl,_⟩:=trodVars_none Co;have acv:(DataW.weightsEach Tryz.prog (Tryz.f8.params.toList++[]) (ds++[])).all (· <=reachBytes)=true:=az9;rw [List.append_nil,List.append_nil] at acv;exact of_decide_eq_true (List.all_eq_true.1 acv n ai))
theorem said:Rows.HeapChecksSaid:=
 OpenClaim.holds_of_cond 8 Tryz.f8 rfl rfl rfl rfl rfl rfl rfl ⟨rfl,rfl,rfl,rfl,rfl⟩ rfl rfl rfl rfl rfl (by kernel_rfl) Tryz.func8 (by kernel_rfl)
  (of_decide_eq_true (by kernel_rfl)) (by unfold Func.isWrapper;first | (rw [if_pos (by decide +kernel)];kernel_rfl) | (rw [if_neg (by decide +kernel)];exact ⟨rfl,rfl⟩))
  (fun os started H enc _ F=>by rw [OpenClaim.pre_eq_preRow];exact lifted os started H enc F)
end Go.Proofs.YtpkhpagplommoaaGreat.heapChecks
