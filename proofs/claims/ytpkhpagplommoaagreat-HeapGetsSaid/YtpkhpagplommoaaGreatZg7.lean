/- LAW: THE WALK AND THE PLAIN LAW, JOINED TO THE GIVEN STATEMENT: for every input that the row speaks of, the call returns true and what came in reads as it did. Made by program (liftgen2.py). -/
import Derived.Test.YtpkhpagplommoaaGreatZg6
import Derived.KernelRfl
import Derived.Test.YtpkhpagplommoaaGreatRows
import Derived.WalkKit
import Derived.ProofKit
import Derived.OpenShut
import Derived.Deep.DeepHandedRow
namespace J
theorem mr {α:Type} [DecidableEq α] {F:Nat} {a b:List α} (ax:a.length=b.length) {L:Nat->Int->Option (Way Bool Unit)} (af:a.length<= 140737488355328)
 (a5:∀ k (i:Nat) x y,a[i]? =some x->b[i]? =some y->L (k+ 1) (i:Int)=cond (!decide (x=y)) (some (.out false)) (L k (ap ((i:Int)+ 1)))) (he:∀ k,L (k+ 1) (a.length:Int)=some (.go ())) (bT:a.length <F) :
 L F 0 =some (if a=b then .go () else .out false):=by
 have l1:L F 0 =some (dx ((List.range a.length).findSome? fun i=>if a[i]? =b[i]? then none else some false)):=kv _ af (fun k i hi=>by
  rw [a5 k i a[i] (b[i]'(by omega)) (List.getElem?_eq_getElem hi) (List.getElem?_eq_getElem (show i <b.length by omega)),List.getElem?_eq_getElem hi,List.getElem?_eq_getElem (show i <b.length by omega)]
  simp only [Option.some.injEq]
  by_cases e:a[i]=b[i]'(by omega)
  · rw [decide_eq_true e,if_pos e];rfl
  · rw [decide_eq_false e,if_neg e];rfl) he bT
 rw [l1]
 cases I:(List.range a.length).findSome? fun i=>if a[i]? =b[i]? then none else some false with
 | some e=>
   obtain ⟨i,hi,aC⟩:=List.exists_of_findSome?_eq_some I
   split at aC
   · cases aC
   · rename_i eZ
     injection aC with aC
     subst aC
     rw [if_neg (fun e=>eZ (by rw [e]))];rfl
 | none=>
   rw [if_pos];rfl
   apply List.ext_getElem?
   intro i
   by_cases hi:i <a.length
   · have:=List.findSome?_eq_none_iff.1 I i (by simpa using hi)
     split at this
     · assumption
     · cases this
   · rw [List.getElem?_eq_none (by omega),List.getElem?_eq_none (by omega)]
theorem Qv {α β:Type} (l:List α):l.findSome? (fun _=>(none:Option β))=none:=by rw [List.findSome?_eq_none_iff];intro _ _;rfl
theorem ol {p:Prop} [Decidable p] {Y:Option Bool}:dr (α:=Unit) (some (if p then (.go ():Way Bool Unit) else .out false)) (fun _=>Y)=if p then Y else some false:=by by_cases h:p <;> simp [h]
theorem abA {p:Prop} [Decidable p] {Y:Option (Way Bool Unit)}:dY (α:=Unit) (some (if p then (.go ():Way Bool Unit) else .out false)) (fun _=>Y)=if p then Y else some (.out false):=by by_cases h:p <;> simp [h]
theorem mT {α:Type} {a b:List α}:decide ((a.length:Int)=(b.length:Int))=decide (a.length=b.length):=by
 rw [Bool.eq_iff_iff];simp;omega
theorem qK {α:Type} [DecidableEq α] {a b:List α} (h:a.length≠b.length):decide (a=b)=false:=decide_eq_false (fun e=>h (by rw [e]))
section
variable {F:Nat}
theorem afA {a b:List Field} (bx:Small F a.length):BA F a b=some (decide (a=b)):=by
 unfold BA
 rw [mT]
 by_cases ax:a.length=b.length
 · rw [decide_eq_true ax]
   simp only [Bool.not_true,cond_false]
   rw [mr ax bx.1 (L:=wy a b) (fun k i x y ai hy=>by rw [wy,cC (List.getElem?_eq_some_iff.1 ai).1,cond_true,cc ai,Option.bind_some,cc hy,Option.bind_some]) (fun k=>by rw [wy,cB];rfl) bx.2,ol]
   by_cases h:a=b <;> simp [h]
 · rw [decide_eq_false ax,qK ax];rfl
theorem aGm {a b:List Kind} (bx:Small F a.length):s8 F a b=some (decide (a=b)):=by
 unfold s8
 rw [mT]
 by_cases ax:a.length=b.length
 · rw [decide_eq_true ax]
   simp only [Bool.not_true,cond_false]
   rw [mr ax bx.1 (L:=n9 a b) (fun k i x y ai hy=>by rw [n9,cC (List.getElem?_eq_some_iff.1 ai).1,cond_true,cc ai,Option.bind_some,cc hy,Option.bind_some]) (fun k=>by rw [n9,cB];rfl) bx.2,ol]
   by_cases h:a=b <;> simp [h]
 · rw [decide_eq_false ax,qK ax];rfl
theorem aGp {l:List aM} (h:Fits F l):Bz F l l=some true:=by
 unfold Bz
 rw [decide_eq_true rfl]
 simp only [Bool.not_true,cond_false]
 have l1:wv F l l F 0 =some (dx (l.findSome? fun _=>(none:Option Bool))):=each (fun _=>none) h.1.1 (fun k i c ai=>by
  have hc:=h.2 c (List.mem_of_getElem? ai)
  have f':ww F c c F 0 =some (dx (c.aQ.findSome? fun _=>(none:Option Bool))):=each (fun _=>none) hc.methods.1 (fun k i m hy=>by
   have hm:=hc.method m (List.mem_of_getElem? hy)
   have oK:wx m m F 0 =some (dx (m.bK.findSome? fun _=>(none:Option Bool))):=each (fun _=>none) hm.xo.1 (fun k i x cU=>by
    rw [wx,cC (List.getElem?_eq_some_iff.1 cU).1,cond_true,cc cU,Option.bind_some,Option.bind_some,decide_eq_true rfl];rfl) (fun k=>by rw [wx,cB];rfl) hm.xo.2
   rw [ww,cC (List.getElem?_eq_some_iff.1 hy).1,cond_true,cc hy,Option.bind_some,Option.bind_some,aGm hm.args,Option.bind_some,oK,Qv]
   simp
   rfl) (fun k=>by rw [ww,cB];rfl) hc.methods.2
  rw [wv,cC (List.getElem?_eq_some_iff.1 ai).1,cond_true,cc ai,Option.bind_some,Option.bind_some,afA hc.fields,Option.bind_some,f',Qv]
  simp
  rfl) (fun k=>by rw [wv,cB];rfl) h.1.2
 rw [l1,Qv];rfl
structure JO (F:Nat) (k:bs):Prop where
 b3:Small F k.aA.length
 fields:Small F k.Fields.length
 field:∀ x ∈ k.Fields,Small F x.length
 names:Small F k.Names.length
 name:∀ x ∈ k.Names,Small F x.length
 targets:Small F k.az.length
 target:∀ x ∈ k.az,Small F x.length
instance:DecidableEq (List (List Field)):=inferInstance
theorem aGn {a b:bs} (bx:JO F a) (hc:Bz F a.aD b.aD=some true) :
 BB F a b=some (decide (a.aA=b.aA/\a.Fields=b.Fields/\a.Names=b.Names/\a.az=b.az)):=by
 unfold BB
 rw [hc,Option.bind_some,mT,mT,mT,mT]
 have bW:∀ (_: ¬ (a.aA=b.aA/\a.Fields=b.Fields/\a.Names=b.Names/\a.az=b.az)),decide (a.aA=b.aA/\a.Fields=b.Fields/\a.Names=b.Names/\a.az=b.az)=false:=fun h=>decide_eq_false h
 by_cases aC:b.aA.length=a.aA.length
 case neg=>rw [bW (fun e=>aC (by rw [e.1])),decide_eq_false aC];rfl
 by_cases aS:a.Fields.length=b.Fields.length
 case neg=>rw [bW (fun e=>aS (by rw [e.2.1])),decide_eq_true aC,decide_eq_false aS];rfl
 by_cases bV:a.Names.length=b.Names.length
 case neg=>rw [bW (fun e=>bV (by rw [e.2.2.1])),decide_eq_true aC,decide_eq_true aS,decide_eq_false bV];rfl
 by_cases er:a.az.length=b.az.length
 case neg=>rw [bW (fun e=>er (by rw [e.2.2.2])),decide_eq_true aC,decide_eq_true aS,decide_eq_true bV,decide_eq_false er];rfl
 rw [decide_eq_true aC,decide_eq_true aS,decide_eq_true bV,decide_eq_true er]
 simp only [Bool.not_true,Bool.or_self,cond_false]
 have l1:=mr (F:=F) aC.symm bx.b3.1 (L:=wz a b) (fun k i x y ai hy=>by rw [wz,cC (List.getElem?_eq_some_iff.1 ai).1,cond_true,cc ai,Option.bind_some,cc hy,Option.bind_some]) (fun k=>by rw [wz,cB];rfl) bx.b3.2
 have f':=mr (F:=F) aS bx.fields.1 (L:=wA F a b) (fun k i x y ai hy=>by
  rw [wA,cC (List.getElem?_eq_some_iff.1 ai).1,cond_true,cc ai,Option.bind_some,cc hy,Option.bind_some,afA (bx.field x (List.mem_of_getElem? ai)),Option.bind_some]) (fun k=>by rw [wA,cB];rfl) bx.fields.2
 have oK:=mr (F:=F) bV bx.names.1 (L:=wB F a b) (fun k i x y ai hy=>by
  have hs:=bx.name x (List.mem_of_getElem? ai)
  rw [wB,cC (List.getElem?_eq_some_iff.1 ai).1,cond_true,cc ai,Option.bind_some,cc hy,Option.bind_some,mT]
  by_cases ax:x.length=y.length
  · rw [decide_eq_true ax]
    simp only [Bool.not_true,cond_false]
    rw [mr (F:=F) ax hs.1 (L:=wC a b i) (fun k j u v hu ad=>by
     rw [wC,cc ai,Option.bind_some,cC (List.getElem?_eq_some_iff.1 hu).1,cond_true,Option.bind_some,cc hu,Option.bind_some,cc hy,Option.bind_some,cc ad,Option.bind_some]) (fun k=>by rw [wC,cc ai,Option.bind_some,cB];rfl) hs.2,abA]
    by_cases h:x=y
    · rw [if_pos h,decide_eq_true h];rfl
    · rw [if_neg h,decide_eq_false h];rfl
  · rw [decide_eq_false ax,qK ax];rfl) (fun k=>by rw [wB,cB];rfl) bx.names.2
 have Wl:=mr (F:=F) er bx.targets.1 (L:=wD F a b) (fun k i x y ai hy=>by
  have hs:=bx.target x (List.mem_of_getElem? ai)
  rw [wD,cC (List.getElem?_eq_some_iff.1 ai).1,cond_true,cc ai,Option.bind_some,cc hy,Option.bind_some,mT]
  by_cases ax:x.length=y.length
  · rw [decide_eq_true ax]
    simp only [Bool.not_true,cond_false]
    rw [mr (F:=F) ax hs.1 (L:=wE a b i) (fun k j u v hu ad=>by
     rw [wE,cc ai,Option.bind_some,cC (List.getElem?_eq_some_iff.1 hu).1,cond_true,Option.bind_some,cc hu,Option.bind_some,cc hy,Option.bind_some,cc ad,Option.bind_some]) (fun k=>by rw [wE,cc ai,Option.bind_some,cB];rfl) hs.2,abA]
    by_cases h:x=y
    · rw [if_pos h,decide_eq_true h];rfl
    · rw [if_neg h,decide_eq_false h];rfl
  · rw [decide_eq_false ax,qK ax];rfl) (fun k=>by rw [wD,cB];rfl) bx.targets.2
 rw [l1,f',oK,Wl,ol,ol,ol,ol]
 by_cases bM:a.aA=b.aA
 · by_cases b7:a.Fields=b.Fields
   · by_cases ez:a.Names=b.Names
     · by_cases hl:a.az=b.az <;> simp [bM,b7,ez,hl]
     · simp [ez]
   · simp [b7]
 · simp [bM]
end
section
variable {F:Nat} {l:List aM}
theorem aF' {β:Type} {f:Int->β} {n:Nat}:(rows f n).length=n:=by simp [rows]
end
end J
namespace J
section
variable {F:Nat}
theorem aj4 {a b:List (Int)} (bx:Small F a.length):If F a b=some (decide (a=b)):=by
 unfold If
 rw [mT]
 by_cases ax:a.length=b.length
 · rw [decide_eq_true ax]
   simp only [Bool.not_true,cond_false]
   rw [mr ax bx.1 (L:=yq a b) (fun k i x y ai hy=>by rw [yq,cC (List.getElem?_eq_some_iff.1 ai).1,cond_true,cc ai,Option.bind_some,cc hy,Option.bind_some]) (fun k=>by rw [yq,cB];rfl) bx.2,ol]
   by_cases h:a=b <;> simp [h]
 · rw [decide_eq_false ax,qK ax];rfl
theorem aj2 {a b:List (Field)} (bx:Small F a.length):Ia F a b=some (decide (a=b)):=by
 unfold Ia
 rw [mT]
 by_cases ax:a.length=b.length
 · rw [decide_eq_true ax]
   simp only [Bool.not_true,cond_false]
   rw [mr ax bx.1 (L:=yo a b) (fun k i x y ai hy=>by rw [yo,cC (List.getElem?_eq_some_iff.1 ai).1,cond_true,cc ai,Option.bind_some,cc hy,Option.bind_some]) (fun k=>by rw [yo,cB];rfl) bx.2,ol]
   by_cases h:a=b <;> simp [h]
 · rw [decide_eq_false ax,qK ax];rfl
theorem aj5 {a b:List (List UInt8)} (bx:Small F a.length):Ig F a b=some (decide (a=b)):=by
 unfold Ig
 rw [mT]
 by_cases ax:a.length=b.length
 · rw [decide_eq_true ax]
   simp only [Bool.not_true,cond_false]
   rw [mr ax bx.1 (L:=yr a b) (fun k i x y ai hy=>by rw [yr,cC (List.getElem?_eq_some_iff.1 ai).1,cond_true,cc ai,Option.bind_some,cc hy,Option.bind_some]) (fun k=>by rw [yr,cB];rfl) bx.2,ol]
   by_cases h:a=b <;> simp [h]
 · rw [decide_eq_false ax,qK ax];rfl
theorem aj7 {a b:List (Target)} (bx:Small F a.length):Ic F a b=some (decide (a=b)):=by
 unfold Ic
 rw [mT]
 by_cases ax:a.length=b.length
 · rw [decide_eq_true ax]
   simp only [Bool.not_true,cond_false]
   rw [mr ax bx.1 (L:=yp a b) (fun k i x y ai hy=>by rw [yp,cC (List.getElem?_eq_some_iff.1 ai).1,cond_true,cc ai,Option.bind_some,cc hy,Option.bind_some]) (fun k=>by rw [yp,cB];rfl) bx.2,ol]
   by_cases h:a=b <;> simp [h]
 · rw [decide_eq_false ax,qK ax];rfl
theorem aj3 {a b:List (List Field)} (bx:Small F a.length) (ai:∀ x ∈ a,Small F x.length):H9 F a b=some (decide (a=b)):=by
 unfold H9
 rw [mT]
 by_cases ax:a.length=b.length
 · rw [decide_eq_true ax]
   simp only [Bool.not_true,cond_false]
   rw [mr ax bx.1 (L:=yl F a b) (fun k i x y aC aS=>by rw [yl,cC (List.getElem?_eq_some_iff.1 aC).1,cond_true,cc aC,Option.bind_some,cc aS,Option.bind_some,aj2 (ai x (List.mem_of_getElem? aC)),Option.bind_some]) (fun k=>by rw [yl,cB];rfl) bx.2,ol]
   by_cases h:a=b <;> simp [h]
 · rw [decide_eq_false ax,qK ax];rfl
theorem aj6 {a b:List (List (List UInt8))} (bx:Small F a.length) (ai:∀ x ∈ a,Small F x.length):H' F a b=some (decide (a=b)):=by
 unfold H'
 rw [mT]
 by_cases ax:a.length=b.length
 · rw [decide_eq_true ax]
   simp only [Bool.not_true,cond_false]
   rw [mr ax bx.1 (L:=yn F a b) (fun k i x y aC aS=>by rw [yn,cC (List.getElem?_eq_some_iff.1 aC).1,cond_true,cc aC,Option.bind_some,cc aS,Option.bind_some,aj5 (ai x (List.mem_of_getElem? aC)),Option.bind_some]) (fun k=>by rw [yn,cB];rfl) bx.2,ol]
   by_cases h:a=b <;> simp [h]
 · rw [decide_eq_false ax,qK ax];rfl
theorem aj8 {a b:List (List Target)} (bx:Small F a.length) (ai:∀ x ∈ a,Small F x.length):H_ F a b=some (decide (a=b)):=by
 unfold H_
 rw [mT]
 by_cases ax:a.length=b.length
 · rw [decide_eq_true ax]
   simp only [Bool.not_true,cond_false]
   rw [mr ax bx.1 (L:=ym F a b) (fun k i x y aC aS=>by rw [ym,cC (List.getElem?_eq_some_iff.1 aC).1,cond_true,cc aC,Option.bind_some,cc aS,Option.bind_some,aj7 (ai x (List.mem_of_getElem? aC)),Option.bind_some]) (fun k=>by rw [ym,cB];rfl) bx.2,ol]
   by_cases h:a=b <;> simp [h]
 · rw [decide_eq_false ax,qK ax];rfl
theorem aGo {a b:bs} (bx:JO F a):CP F a b=some (decide (a.aA=b.aA/\a.Fields=b.Fields/\a.Names=b.Names/\a.az=b.az)):=by
 unfold CP
 rw [aj4 bx.b3,Option.bind_some]
 by_cases bM:a.aA=b.aA
 case neg=>rw [decide_eq_false bM,decide_eq_false (fun e=>bM e.1)];rfl
 rw [decide_eq_true bM,cond_true,aj3 bx.fields bx.field,Option.bind_some]
 by_cases b7:a.Fields=b.Fields
 case neg=>rw [decide_eq_false b7,decide_eq_false (fun e=>b7 e.2.1)];rfl
 rw [decide_eq_true b7,cond_true,aj6 bx.names bx.name,Option.bind_some]
 by_cases ez:a.Names=b.Names
 case neg=>rw [decide_eq_false ez,decide_eq_false (fun e=>ez e.2.2.1)];rfl
 rw [decide_eq_true ez,cond_true,aj8 bx.targets bx.target,Option.bind_some]
 congr 1
 rw [Bool.eq_iff_iff]
 simp [bM,b7,ez]
theorem ajr {k:bs} (bT:1100 <F) (hc:Fits F k.aD) (bf:JO F k):∃ e,oL F k=some e/\s6 F k=some e/\((e= 4)\/(e= 0 /\h' k.aD/\k=linked k.aD)):=by
 obtain ⟨r,aC,aS,bV,er⟩:=aEL bT hc
 unfold oL s6
 rw [aC,aS,Option.bind_some,Option.bind_some]
 by_cases bJ:r.2 = 0
 case neg=>rw [nL bJ,nL bJ];exact ⟨4,rfl,rfl,.inl rfl⟩
 obtain ⟨kX,e⟩:=bV bJ
 have s1:CP F (⟨k.aD,k.aA,k.Fields,k.Names,k.az⟩:bs) (⟨r.1.aD,r.1.aA,r.1.Fields,r.1.Names,r.1.az⟩:bs)=some (decide (k.aA=r.1.aA/\k.Fields=r.1.Fields/\k.Names=r.1.Names/\k.az=r.1.az)):=aGo (a:=k) (b:=r.1) bf
 have s2:BB F (⟨k.aD,k.aA,k.Fields,k.Names,k.az⟩:bs) (⟨r.1.aD,r.1.aA,r.1.Fields,r.1.Names,r.1.az⟩:bs)=some (decide (k.aA=r.1.aA/\k.Fields=r.1.Fields/\k.Names=r.1.Names/\k.az=r.1.az)):=aGn (a:=k) (b:=r.1) bf (by rw [e];exact aGp hc)
 rw [s1,s2,bJ];simp only [np,Option.bind_some]
 by_cases a5:k.aA=r.1.aA/\k.Fields=r.1.Fields/\k.Names=r.1.Names/\k.az=r.1.az
 · rw [decide_eq_true a5]
   refine ⟨0,rfl,rfl,.inr ⟨rfl,kX,?_⟩⟩
   obtain ⟨bM,b7,ez,hl⟩:=a5
   rw [e] at bM b7 ez hl
   obtain ⟨a,b,c,d,f⟩:=k
   simp only at bM b7 ez hl
   subst bM b7 ez hl
   rfl
 · rw [decide_eq_false a5]
   exact ⟨4,rfl,rfl,.inl rfl⟩
end
end J
namespace J
def As (h:bw):Prop:=(3 <=h.au/\h.au<= 2000)/\(3 <=h.aI/\h.aI<= 2000)
def okB (h:bw):Prop:=(h.Words.length:Int)= 1 +h.au+h.aI
def HO (h:bw):Prop:=(1 <=h.aV/\h.aV<=h.au+ 1)/\(h.au+ 1 <=h.aT/\h.aT<=h.au+h.aI+ 1)/\ 1 <=h.Next
instance (h:bw):Decidable (As h):=inferInstanceAs (Decidable ((3 <=h.au/\h.au<= 2000)/\(3 <=h.aI/\h.aI<= 2000)))
instance (h:bw):Decidable (okB h):=inferInstanceAs (Decidable ((h.Words.length:Int)= 1 +h.au+h.aI))
instance (h:bw):Decidable (HO h):=inferInstanceAs (Decidable ((1 <=h.aV/\h.aV<=h.au+ 1)/\(h.au+ 1 <=h.aT/\h.aT<=h.au+h.aI+ 1)/\ 1 <=h.Next))
def m8 (h:bw):Int:=if As h then (if okB h then (if HO h then 0 else 3) else 1) else 3
theorem aGz (h:bw):Cs h=some (m8 h):=by
 unfold Cs mI m8
 simp only [Option.bind_some]
 by_cases gI:As h
 case neg=>
  rw [if_neg gI]
  unfold As at gI
  by_cases a:3 <=h.au/\h.au<= 2000
  · have b: ¬ (3 <=h.aI/\h.aI<= 2000):=fun b=>gI ⟨a,b⟩
    rw [show (decide (3 <=h.au) && decide (h.au<= 2000))=true by simpa using a,show (decide (3 <=h.aI) && decide (h.aI<= 2000))=false by rw [Bool.eq_false_iff];simpa using b]
    rfl
  · rw [show (decide (3 <=h.au) && decide (h.au<= 2000))=false by rw [Bool.eq_false_iff];simpa using a]
    rfl
 rw [if_pos gI]
 unfold As at gI
 obtain ⟨⟨d_,e5⟩,a3,a4⟩:=gI
 rw [show (decide (3 <=h.au) && decide (h.au<= 2000))=true by simp;omega,show (decide (3 <=h.aI) && decide (h.aI<= 2000))=true by simp;omega,
  dP (n:=1 +h.au) (by omega) (by omega),dP (n:=1 +h.au+h.aI) (by omega) (by omega),dP (n:=h.au+ 1) (by omega) (by omega),dP (n:=h.au+h.aI) (by omega) (by omega),dP (n:=h.au+h.aI+ 1) (by omega) (by omega)]
 simp only [Bool.not_true,cond_false]
 by_cases iQ:okB h
 case neg=>
  rw [if_neg iQ,show decide ((h.Words.length:Int)= 1 +h.au+h.aI)=false from decide_eq_false iQ];rfl
 rw [if_pos iQ,show decide ((h.Words.length:Int)= 1 +h.au+h.aI)=true from decide_eq_true iQ]
 simp only [Bool.not_true,cond_false]
 by_cases pg:HO h
 · rw [if_pos pg]
   obtain ⟨dV,ej,fN⟩:=pg
   rw [show (decide (1 <=h.aV) && decide (h.aV<=h.au+ 1))=true by simpa using dV,show (decide (h.au+ 1 <=h.aT) && decide (h.aT<=h.au+h.aI+ 1))=true by simpa using ej,show decide (h.Next < 1)=false from decide_eq_false (by omega)]
   rfl
 · rw [if_neg pg]
   by_cases dV:1 <=h.aV/\h.aV<=h.au+ 1
   · rw [show (decide (1 <=h.aV) && decide (h.aV<=h.au+ 1))=true by simpa using dV]
     by_cases ej:h.au+ 1 <=h.aT/\h.aT<=h.au+h.aI+ 1
     · have fN:h.Next < 1 :=by
        rcases Int.lt_or_le h.Next 1 with c | c
        · exact c
        · exact absurd ⟨dV,ej,c⟩ pg
       rw [decide_eq_true fN,Bool.or_true];rfl
     · rw [show (decide (h.au+ 1 <=h.aT) && decide (h.aT<=h.au+h.aI+ 1))=false by rw [Bool.eq_false_iff];simpa using ej]
       rfl
   · rw [show (decide (1 <=h.aV) && decide (h.aV<=h.au+ 1))=false by rw [Bool.eq_false_iff];simpa using dV]
     rfl
structure ja (h:bw):Prop where
 A:As h
 B:okB h
 C:HO h
theorem XS {h:bw}:m8 h= 0 ↔ ja h:=by
 unfold m8
 constructor
 · intro e
   split at e
   · split at e
     · split at e
       · exact ⟨‹_›,‹_›,‹_›⟩
       · cases e
     · cases e
   · cases e
 · rintro ⟨a,b,c⟩
   rw [if_pos a,if_pos b,if_pos c]
section
variable {F:Nat} {k:bs} {W:List Int}
theorem gV.mem {to q:Nat} {L:List Int} (h:gV k W to q L):∀ a ∈ L,∃ n:Nat,a=(n:Int)/\q<=n/\n+ 3 +(wd W (n+ 1)).toNat<=to/\ih k (wd W n)=true/\isLen k (wd W n) (wd W (n+ 1))=true:=by
 induction h with
 | nil=>intro a bx;cases bx
 | cons aC aS bV _ cn=>
   intro a bx
   rcases List.mem_cons.1 bx with rfl | bx
   · exact ⟨_,rfl,Nat.le_refl _,bV,aC,aS⟩
   · obtain ⟨n,e,er,iP⟩:=cn a bx
     exact ⟨n,e,by omega,iP⟩
theorem gV.yw {to q:Nat} {L L':List Int} (h:gV k W to q L) (dK:gV k W to q L'):L=L':=by
 induction h generalizing L' with
 | nil=>
   cases dK with
   | nil=>rfl
   | cons _ _ _ _=>omega
 | cons _ _ bV _ cn=>
   cases dK with
   | nil=>omega
   | cons _ _ _ er=>rw [cn er]
theorem gV.len {to q:Nat} {L:List Int} (h:gV k W to q L):3 *L.length+q<=to:=by
 induction h with
 | nil=>simp
 | cons _ _ bV _ cn=>simp only [List.length_cons];omega
theorem afM {l:List Int} {N:Nat} (h:y6 l) (bJ:∀ i,i <l.length-> 0 <=wd l i/\wd l i <N):l.length<=N:=by
 have key:∀ i,i <l.length->(i:Int)<=wd l i:=by
  intro i
  induction i with
  | zero=>intro hi;exact (bJ 0 hi).1
  | succ i cn=>
    intro hi
    have:=h i (i+ 1) (by omega) hi
    have:=cn (by omega)
    omega
 rcases Nat.eq_zero_or_pos l.length with e | e
 · omega
 · have:=key (l.length - 1) (by omega)
   have:=(bJ (l.length - 1) (by omega)).2
   omega
theorem WA (x:Int):∀ A:List Int,(dp (A.map fun a=>(a,true)) x).getD false=decide (x ∈ A)
 | []=>by simp [dp]
 | a::r=>by
   rw [List.map_cons,dp]
   by_cases e:a=x
   · simp [e]
   · rw [if_neg e,WA x r]
     have: ¬ x=a:=fun h=>e h.symm
     simp [this]
def view (h:bw) (k:bs) (Y O:List Int):ck:=⟨h,⟨k⟩,Y,O,(Y++O).map fun a=>(a,true)⟩
structure ia (h:bw) (k:bs) (Y O:List Int):Prop where
 y:gV k h.Words h.aV.toNat 1 Y
 o:gV k h.Words h.aT.toNat (h.au+ 1).toNat O
theorem ja.l2 {h:bw} (a5:ja h):h.Words.length<= 4001 :=by
 obtain ⟨⟨⟨a,b⟩,c,d⟩,e,_⟩:=a5
 unfold okB at e;omega
theorem ia.M_ {h:bw} {Y O:List Int} (bf:hV k) (a5:ja h) (ax:ia h k Y O):n' (view h k Y O):=by
 have hw:=a5.l2
 obtain ⟨⟨⟨d_,e5⟩,a3,a4⟩,b,⟨dV,ej⟩,⟨fN,jA⟩,kU⟩:=a5
 unfold okB at b
 refine ⟨bf,by show h.Words.length<= 4900;omega,?_,fun a bx=>?_,fun x=>WA x _⟩
 · have:=ax.y.len;have:=ax.o.len
   show Y.length+O.length<= 5000
   omega
 · have bx:a ∈ Y++O:=bx
   rcases List.mem_append.1 bx with bx | bx
   · obtain ⟨n,rfl,aC,aS,bV,er⟩:=ax.y.mem a bx
     exact ⟨by omega,by show ((n:Int).toNat)+ 3 +(wd h.Words ((n:Int).toNat+ 1)).toNat<=h.Words.length;rw [Int.toNat_natCast];omega,by rw [Int.toNat_natCast];exact bV,by rw [Int.toNat_natCast];exact er⟩
   · obtain ⟨n,rfl,aC,aS,bV,er⟩:=ax.o.mem a bx
     exact ⟨by omega,by show ((n:Int).toNat)+ 3 +(wd h.Words ((n:Int).toNat+ 1)).toNat<=h.Words.length;rw [Int.toNat_natCast];omega,by rw [Int.toNat_natCast];exact bV,by rw [Int.toNat_natCast];exact er⟩
def gl (v:ck):Int:=if (v.au++v.aI).any (lH v) then 3 else if ((v.au++v.aI).map (a5 v.H.Words)).Nodup then 0 else 6
def sF (v:ck):Int:=if (v.au++v.aI).any (nP v) then 5 else if (free v.H).any (fun x=>!decide (x= 0)) then 1 else 0
def x7 (v:ck):Int:=if (List.range v.H.aE.length).any (js v) || v.aI.any (o' v) then 4 else 0
def nW (v:ck):Int:=if gl v= 0 then (if sF v= 0 then x7 v else sF v) else gl v
inductive Spec (h:bw) (k:bs):Option ck × Int->Prop
 | size: ¬ ja h->Spec h k (none,m8 h)
 | form:ja h->(∀ Y O,¬ ia h k Y O)->Spec h k (none,1)
 | rest {Y O:List Int}:ja h->ia h k Y O->Spec h k (if nW (view h k Y O)= 0 then some (view h k Y O) else none,nW (view h k Y O))
theorem WH (bT:10000 <F) {h:bw} (bf:hV k) (af:Small F h.aE.length):∃ r,xv F h k=some r/\Spec h k r:=by
 unfold xv
 have iw:Cs (⟨h.Words,h.au,h.aI,h.aV,h.aT,h.aE,h.Next⟩:bw)=some (m8 h):=aGz h
 rw [iw,Option.bind_some]
 by_cases a5:ja h
 case neg=>
  rw [nL (fun e=>a5 (XS.1 e))]
  exact ⟨_,rfl,.size a5⟩
 rw [XS.2 a5,np]
 have hw:=a5.l2
 have dI:=a5
 obtain ⟨⟨⟨d_,e5⟩,a3,a4⟩,b,⟨dV,ej⟩,⟨fN,jA⟩,kU⟩:=a5
 unfold okB at b
 have t1:=afS (F:=F) (by omega) (⟨h,⟨k⟩,[],[],[]⟩:ck) bf (q:=1) (to:=h.aV.toNat) (by omega) (by show _<=h.Words.length;omega) (by show h.Words.length<= 5000;omega) (fun p b5=>by cases b5)
 rw [show ((h.aV.toNat:Nat):Int)=h.aV by omega] at t1
 rw [dP (n:=h.au+ 1) (by omega) (by omega)]
 rcases t1 with ⟨Y,K1,bM⟩ | ⟨mL,h0,bM⟩
 case inr=>
  have bM:mH F (⟨(⟨h.Words,h.au,h.aI,h.aV,h.aT,h.aE,h.Next⟩:bw),(⟨(⟨k.aD,k.aA,k.Fields,k.Names,k.az⟩:bs)⟩:dz),[],[],[]⟩:ck) 1 h.aV=some ([],false,(⟨h,⟨k⟩,[],[],h0⟩:ck)):=bM
  rw [bM,Option.bind_some]
  have t2:∃ r,mH F (⟨(⟨h.Words,h.au,h.aI,h.aV,h.aT,h.aE,h.Next⟩:bw),(⟨(⟨k.aD,k.aA,k.Fields,k.Names,k.az⟩:bs)⟩:dz),[],[],h0⟩:ck) (h.au+ 1) h.aT=some r:=by
   unfold mH
   have key:∀ (f q:Nat) (acc:List Int) (m:List (Int × Bool)),q<=h.aT.toNat->h.aT.toNat - q <f->acc.length+(h.aT.toNat - q)<= 5000 -> ∃ r,qU h.aT (⟨h,⟨k⟩,[],[],h0⟩:ck) f acc m (q:Int)=some r:=by
    intro f
    induction f with
    | zero=>intro q acc m _ ec;omega
    | succ f cn=>
      intro q acc m ec I tH
      rw [qU]
      by_cases ea:(q:Int) <h.aT
      case neg=>rw [decide_eq_false ea];exact ⟨_,rfl⟩
      rw [decide_eq_true ea,cond_true,dP (n:=(q:Int)+ 3) (by omega) (by omega)]
      by_cases bV:h.aT <(q:Int)+ 3
      · rw [decide_eq_true bV];exact ⟨_,rfl⟩
      rw [decide_eq_false bV,cond_false]
      show ∃ r,(idx h.Words (q:Int)).bind _=some r
      rw [lK (by omega),Option.bind_some]
      show ∃ r,(idx h.Words (ap ((q:Int)+ 1))).bind _=some r
      rw [dP (n:=(q:Int)+ 1) (by omega) (by omega),ig (i:=q+ 1) (by omega) (by omega),Option.bind_some]
      have bM:tN (⟨(⟨k.aD,k.aA,k.Fields,k.Names,k.az⟩:bs)⟩:dz) (wd h.Words q)=some (ih k (wd h.Words q)):=afH bf _
      show ∃ r,(tN (⟨(⟨k.aD,k.aA,k.Fields,k.Names,k.az⟩:bs)⟩:dz) (wd h.Words q)).bind _=some r
      rw [bM,Option.bind_some]
      cases bO:ih k (wd h.Words q) with
      | false=>exact ⟨_,rfl⟩
      | true=>
        have b7:tO (⟨(⟨k.aD,k.aA,k.Fields,k.Names,k.az⟩:bs)⟩:dz) (wd h.Words q) (wd h.Words (q+ 1))=some (isLen k (wd h.Words q) (wd h.Words (q+ 1))):=afI bf bO _
        rw [Bool.not_true,cond_false]
        show ∃ r,(tO (⟨(⟨k.aD,k.aA,k.Fields,k.Names,k.az⟩:bs)⟩:dz) (wd h.Words q) (wd h.Words (q+ 1))).bind _=some r
        rw [b7,Option.bind_some]
        cases ax:isLen k (wd h.Words q) (wd h.Words (q+ 1)) with
        | false=>exact ⟨_,rfl⟩
        | true=>
          obtain ⟨⟨CK,l1⟩,_⟩:=xS.1 ax
          rw [Bool.not_true,Bool.false_or,dP (n:=(q:Int)+ 3 +wd h.Words (q+ 1)) (by omega) (by omega)]
          by_cases tS:h.aT <(q:Int)+ 3 +wd h.Words (q+ 1)
          · rw [decide_eq_true tS];exact ⟨_,rfl⟩
          rw [decide_eq_false tS,cond_false,jz (by simp;omega),Option.bind_some,dP (n:=3 +wd h.Words (q+ 1)) (by omega) (by omega),dP (n:=(q:Int)+(3 +wd h.Words (q+ 1))) (by omega) (by omega),
           show (q:Int)+(3 +wd h.Words (q+ 1))=((q+ 3 +(wd h.Words (q+ 1)).toNat:Nat):Int) by omega]
          exact cn _ _ _ (by omega) (by omega) (by simp;omega)
   obtain ⟨r,bR⟩:=key F (h.au+ 1).toNat [] h0 (by omega) (by omega) (by simp;omega)
   rw [show (((h.au+ 1).toNat:Nat):Int)=h.au+ 1 by omega] at bR
   have bR:qU h.aT (⟨(⟨h.Words,h.au,h.aI,h.aV,h.aT,h.aE,h.Next⟩:bw),(⟨(⟨k.aD,k.aA,k.Fields,k.Names,k.az⟩:bs)⟩:dz),[],[],h0⟩:ck) F [] h0 (h.au+ 1)=some r:=bR
   rw [bR]
   cases r <;> exact ⟨_,rfl⟩
  obtain ⟨r,b7⟩:=t2
  rw [b7,Option.bind_some]
  exact ⟨_,rfl,.form dI (fun Y O ax=>mL Y ax.y)⟩
 have bM:mH F (⟨(⟨h.Words,h.au,h.aI,h.aV,h.aT,h.aE,h.Next⟩:bw),(⟨(⟨k.aD,k.aA,k.Fields,k.Names,k.az⟩:bs)⟩:dz),[],[],[]⟩:ck) 1 h.aV=some (Y,true,(⟨h,⟨k⟩,[],[],Y.map fun a=>(a,true)⟩:ck)):=bM
 rw [bM,Option.bind_some]
 have t2:=afS (F:=F) (by omega) (⟨h,⟨k⟩,[],[],Y.map fun a=>(a,true)⟩:ck) bf (q:=(h.au+ 1).toNat) (to:=h.aT.toNat) (by omega) (by show _<=h.Words.length;omega) (by show h.Words.length<= 5000;omega) (fun p b5=>by
  obtain ⟨a,bx,rfl⟩:=List.mem_map.1 b5
  have aoi:gV k h.Words h.aV.toNat 1 Y:=K1
  obtain ⟨n,rfl,aC,aS,_⟩:=aoi.mem a bx
  show (n:Int) <_
  omega)
 rw [show ((h.aT.toNat:Nat):Int)=h.aT by omega,show (((h.au+ 1).toNat:Nat):Int)=h.au+ 1 by omega] at t2
 rcases t2 with ⟨O,mC,b7⟩ | ⟨mL,h0,b7⟩
 case inr=>
  have b7:mH F (⟨(⟨h.Words,h.au,h.aI,h.aV,h.aT,h.aE,h.Next⟩:bw),(⟨(⟨k.aD,k.aA,k.Fields,k.Names,k.az⟩:bs)⟩:dz),[],[],Y.map fun a=>(a,true)⟩:ck) (h.au+ 1) h.aT=_:=b7
  show ∃ r,(mH F (⟨(⟨h.Words,h.au,h.aI,h.aV,h.aT,h.aE,h.Next⟩:bw),(⟨(⟨k.aD,k.aA,k.Fields,k.Names,k.az⟩:bs)⟩:dz),[],[],Y.map fun a=>(a,true)⟩:ck) (h.au+ 1) h.aT).bind _=some r/\_
  rw [b7,Option.bind_some]
  exact ⟨_,rfl,.form dI (fun ED Bu ax=>mL Bu ax.o)⟩
 have b7:mH F (⟨(⟨h.Words,h.au,h.aI,h.aV,h.aT,h.aE,h.Next⟩:bw),(⟨(⟨k.aD,k.aA,k.Fields,k.Names,k.az⟩:bs)⟩:dz),[],[],Y.map fun a=>(a,true)⟩:ck) (h.au+ 1) h.aT=some (O,true,(⟨h,⟨k⟩,[],[],(Y.map fun a=>(a,true))++O.map fun a=>(a,true)⟩:ck)):=b7
 show ∃ r,(mH F (⟨(⟨h.Words,h.au,h.aI,h.aV,h.aT,h.aE,h.Next⟩:bw),(⟨(⟨k.aD,k.aA,k.Fields,k.Names,k.az⟩:bs)⟩:dz),[],[],Y.map fun a=>(a,true)⟩:ck) (h.au+ 1) h.aT).bind _=some r/\_
 rw [b7,Option.bind_some,<-List.map_append]
 have ax:ia h k Y O:=⟨K1,mC⟩
 have ad:=ax.M_ bf dI
 have jt:Cp F (⟨(⟨h.Words,h.au,h.aI,h.aV,h.aT,h.aE,h.Next⟩:bw),(⟨(⟨k.aD,k.aA,k.Fields,k.Names,k.az⟩:bs)⟩:dz),Y,O,(Y++O).map fun a=>(a,true)⟩:ck)=some (gl (view h k Y O)):=
  aop bT (view h k Y O) ad.r4 (fun a bx=>⟨(ad.ru a bx).pos,by have:=(ad.ru a bx).fit;omega⟩) (by have:=ad.l2;omega) (by simp [view])
 have yD:Cr F (⟨(⟨h.Words,h.au,h.aI,h.aV,h.aT,h.aE,h.Next⟩:bw),(⟨(⟨k.aD,k.aA,k.Fields,k.Names,k.az⟩:bs)⟩:dz),Y,O,(Y++O).map fun a=>(a,true)⟩:ck)=some (sF (view h k Y O)):=
  aG6 bT ad (by show 0 <=h.au;omega) ⟨by show 0 <=h.aV;omega,by show h.aV<=h.au+ 1;omega,by show h.au+ 1 <=h.Words.length;omega⟩ ⟨by show 0 <=h.aT;omega,by show h.aT<=h.Words.length;omega⟩
 have age:Cq F (⟨(⟨h.Words,h.au,h.aI,h.aV,h.aT,h.aE,h.Next⟩:bw),(⟨(⟨k.aD,k.aA,k.Fields,k.Names,k.az⟩:bs)⟩:dz),Y,O,(Y++O).map fun a=>(a,true)⟩:ck)=some (x7 (view h k Y O)):=
  aE_ bT ad af.1 af.2 (fun oy=>by
   refine Nat.le_trans (afM (N:=5000) (XT fun i hi=>?_) (fun i hi=>?_)) (by omega)
   · have:=oy (i+ 1) hi
     unfold js at this
     simp only [Bool.or_eq_false_iff,Bool.and_eq_false_iff,decide_eq_false_iff_not,Nat.add_sub_cancel] at this
     rcases this.1 with z | z
     · omega
     · have z: ¬ wd h.aE (i+ 1)<=wd h.aE i:=z
       show wd h.aE i <wd h.aE (i+ 1);omega
   · have:=oy i hi
     unfold js rf at this
     simp only [Bool.or_eq_false_iff] at this
     have hm:wd (view h k Y O).H.aE i ∈ (view h k Y O).au++(view h k Y O).aI:=by
      have:=this.2.1.1
      simp only [Bool.not_eq_false'] at this
      exact of_decide_eq_true this
     have bO:=ad.ru _ hm
     have aC:0 <=wd h.aE i:=bO.pos
     have aS:(wd h.aE i).toNat+ 3 +(wd h.Words ((wd h.aE i).toNat+ 1)).toNat<=h.Words.length:=bO.fit
     exact ⟨aC,by show wd h.aE i <((5000 :Nat):Int);omega⟩)
 simp only [Bool.not_true,Bool.or_self,cond_false]
 rw [jt,Option.bind_some]
 by_cases kI:gl (view h k Y O)= 0
 case neg=>
  rw [nL kI]
  have ev:nW (view h k Y O)=gl (view h k Y O):=by unfold nW;rw [if_neg kI]
  have:=Spec.rest dI ax
  rw [ev,if_neg kI] at this
  exact ⟨_,rfl,this⟩
 rw [kI,np,yD,Option.bind_some]
 by_cases kJ:sF (view h k Y O)= 0
 case neg=>
  rw [nL kJ]
  have ev:nW (view h k Y O)=sF (view h k Y O):=by unfold nW;rw [if_pos kI,if_neg kJ]
  have:=Spec.rest dI ax
  rw [ev,if_neg kJ] at this
  exact ⟨_,rfl,this⟩
 rw [kJ,np,age,Option.bind_some]
 have ev:nW (view h k Y O)=x7 (view h k Y O):=by unfold nW;rw [if_pos kI,if_pos kJ]
 have sh:=Spec.rest dI ax
 rw [ev] at sh
 by_cases Mm:x7 (view h k Y O)= 0
 · rw [Mm] at sh ⊢
   rw [np]
   exact ⟨_,rfl,sh⟩
 · rw [nL Mm]
   rw [if_neg Mm] at sh
   exact ⟨_,rfl,sh⟩
end
end J
namespace J
theorem aG5 {W:List Int} {p j:Nat} {x:Int} (b5:p <W.length):wd (W.set p x) j=if j=p then x else wd W j:=by
 unfold wd
 rw [List.getElem?_set]
 by_cases e:j=p
 · subst e;simp [b5]
 · have: ¬ p=j:=fun h=>e h.symm
   simp [e,this]
theorem aeO {h:bw} {x:Int} (hy:0 <=h.au) (ai:x ∈ free h):∃ i:Nat,i <h.Words.length/\(i= 0 \/(h.aV<=i/\(i:Int)<=h.au)\/h.aT<=i)/\x=wd h.Words i:=by
 unfold free at ai
 rw [List.mem_append,List.mem_append] at ai
 rcases ai with ai | ai | ai
 · obtain ⟨i,hi,e⟩:=List.getElem_of_mem ai
   have xw:i < 1 /\i <h.Words.length:=by rw [List.length_take] at hi;omega
   refine ⟨i,xw.2,.inl (by omega),?_⟩
   rw [<-e,List.getElem_take];exact (rA (List.getElem?_eq_getElem xw.2)).symm
 · obtain ⟨i,hi,e⟩:=List.getElem_of_mem ai
   have xw:i <min (h.au+ 1).toNat h.Words.length - h.aV.toNat:=by simpa using hi
   have aS:h.aV.toNat+i <h.Words.length:=by omega
   refine ⟨h.aV.toNat+i,aS,.inr (.inl ⟨by omega,by omega⟩),?_⟩
   rw [<-e,List.getElem_drop,List.getElem_take];exact (rA (List.getElem?_eq_getElem aS)).symm
 · obtain ⟨i,hi,e⟩:=List.getElem_of_mem ai
   have xw:i <h.Words.length - h.aT.toNat:=by simpa using hi
   have aS:h.aT.toNat+i <h.Words.length:=by omega
   refine ⟨h.aT.toNat+i,aS,.inr (.inr (by omega)),?_⟩
   rw [<-e,List.getElem_drop];exact (rA (List.getElem?_eq_getElem aS)).symm
theorem aca {h:bw} (bJ:0 <=h.aV/\ 0 <=h.aT) {i:Nat} (hi:i <h.Words.length) (hc:i= 0 \/(h.aV<=i/\(i:Int)<=h.au)\/h.aT<=i):wd h.Words i ∈ free h:=by
 have key:wd h.Words i=h.Words[i]:=rA (List.getElem?_eq_getElem hi)
 unfold free
 rw [List.mem_append,List.mem_append,key]
 rcases hc with rfl | ⟨aC,aS⟩ | aC
 · left
   rw [List.mem_iff_getElem?]
   exact ⟨0,by rw [List.getElem?_take,if_pos (by omega)];exact List.getElem?_eq_getElem hi⟩
 · right;left
   rw [List.mem_iff_getElem?]
   refine ⟨i - h.aV.toNat,?_⟩
   rw [List.getElem?_drop,List.getElem?_take,if_pos (by omega),show h.aV.toNat+(i - h.aV.toNat)=i by omega]
   exact List.getElem?_eq_getElem hi
 · right;right
   rw [List.mem_iff_getElem?]
   refine ⟨i - h.aT.toNat,?_⟩
   rw [List.getElem?_drop,show h.aT.toNat+(i - h.aT.toNat)=i by omega]
   exact List.getElem?_eq_getElem hi
structure Eu (h:bw) (k:bs) (Y O:List Int):Prop where
 hash:∀ a ∈ Y++O,1 <=a5 h.Words a/\a5 h.Words a <h.Next
 nodup:((Y++O).map (a5 h.Words)).Nodup
 ref:∀ a ∈ Y++O,∀ w ∈ refs k h.Words a.toNat,wd h.Words w.toNat= 0 \/wd h.Words w.toNat ∈ Y++O
 b1:∀ i:Nat,i <h.Words.length->(i= 0 \/(h.aV<=i/\(i:Int)<=h.au)\/h.aT<=i)->wd h.Words i= 0
 afL:y6 h.aE
 rh:∀ x ∈ h.aE,x ∈ O/\refs k h.Words x.toNat≠ []
 must:∀ a ∈ O,¬ a ∈ h.aE-> ∀ w ∈ refs k h.Words a.toNat,¬ (0 <wd h.Words w.toNat/\wd h.Words w.toNat<=h.au)
section
variable {F:Nat} {k:bs} {h:bw} {Y O:List Int}
theorem ia.I5 (a5:ja h) (ax:ia h k Y O):∀ a ∈ Y,1 <=a/\a.toNat+ 3 +(wd h.Words (a.toNat+ 1)).toNat<=h.aV.toNat:=fun a bx=>by
 obtain ⟨n,rfl,aC,aS,_⟩:=ax.y.mem a bx
 exact ⟨by omega,by rw [Int.toNat_natCast];exact aS⟩
theorem ia.HP (a5:ja h) (ax:ia h k Y O):∀ a ∈ O,h.au+ 1 <=a/\a.toNat+ 3 +(wd h.Words (a.toNat+ 1)).toNat<=h.aT.toNat:=fun a bx=>by
 obtain ⟨n,rfl,aC,aS,_⟩:=ax.o.mem a bx
 have:=a5.A.1.1
 exact ⟨by omega,by rw [Int.toNat_natCast];exact aS⟩
theorem af0 (bf:hV k) (dI:ja h) (ax:ia h k Y O):nW (view h k Y O)= 0 ↔ Eu h k Y O:=by
 have ad:=ax.M_ bf dI
 obtain ⟨⟨⟨d_,e5⟩,a3,a4⟩,b,⟨dV,ej⟩,⟨fN,jA⟩,kU⟩:=id dI
 have hy:=ax.I5 dI;have bm:=ax.HP dI
 have bM:gl (view h k Y O)= 0 ↔ (∀ a ∈ Y++O,lH (view h k Y O) a=false)/\((Y++O).map (a5 h.Words)).Nodup:=by
  unfold gl
  show (if (Y++O).any (lH (view h k Y O)) then (3 :Int) else if ((Y++O).map (a5 h.Words)).Nodup then 0 else 6)= 0 ↔ _
  cases a1:(Y++O).any (lH (view h k Y O)) with
  | true=>
    rw [if_pos rfl]
    refine ⟨fun e=>(by cases e),fun ⟨e,_⟩=>?_⟩
    obtain ⟨x,ai,b7⟩:=List.any_eq_true.1 a1
    rw [e x ai] at b7;cases b7
  | false=>
    rw [if_neg (by decide)]
    rw [List.any_eq_false] at a1
    have iA:∀ a ∈ Y++O,lH (view h k Y O) a=false:=fun a bx=>by simpa using a1 a bx
    split
    · rename_i af;exact ⟨fun _=>⟨iA,af⟩,fun _=>rfl⟩
    · rename_i af;exact ⟨fun e=>(by cases e),fun e=>absurd e.2 af⟩
 have b7:sF (view h k Y O)= 0 ↔ (∀ a ∈ Y++O,nP (view h k Y O) a=false)/\ ∀ x ∈ free h,x= 0 :=by
  unfold sF
  show (if (Y++O).any (nP (view h k Y O)) then (5 :Int) else if (free h).any (fun x=>!decide (x= 0)) then 1 else 0)= 0 ↔ _
  cases a1:(Y++O).any (nP (view h k Y O)) with
  | true=>
    rw [if_pos rfl]
    refine ⟨fun e=>(by cases e),fun ⟨e,_⟩=>?_⟩
    obtain ⟨x,ai,b7⟩:=List.any_eq_true.1 a1
    rw [e x ai] at b7;cases b7
  | false=>
    rw [if_neg (by decide)]
    rw [List.any_eq_false] at a1
    have iA:∀ a ∈ Y++O,nP (view h k Y O) a=false:=fun a bx=>by simpa using a1 a bx
    cases I:(free h).any (fun x=>!decide (x= 0)) with
    | true=>
      rw [if_pos rfl]
      refine ⟨fun e=>(by cases e),fun ⟨_,e⟩=>?_⟩
      obtain ⟨x,ai,b7⟩:=List.any_eq_true.1 I
      rw [e x ai] at b7;cases b7
    | false=>
      rw [if_neg (by decide)]
      rw [List.any_eq_false] at I
      exact ⟨fun _=>⟨iA,fun x ai=>by simpa using I x ai⟩,fun _=>rfl⟩
 have ez:x7 (view h k Y O)= 0 ↔ (∀ i,i <h.aE.length->js (view h k Y O) i=false)/\ ∀ a ∈ O,o' (view h k Y O) a=false:=by
  unfold x7
  show (if (List.range h.aE.length).any (js (view h k Y O)) || O.any (o' (view h k Y O)) then (4 :Int) else 0)= 0 ↔ _
  cases a1:(List.range h.aE.length).any (js (view h k Y O)) with
  | true=>
    rw [Bool.true_or,if_pos rfl]
    refine ⟨fun e=>(by cases e),fun ⟨e,_⟩=>?_⟩
    obtain ⟨x,ai,b7⟩:=List.any_eq_true.1 a1
    rw [e x (by simpa using ai)] at b7;cases b7
  | false=>
    rw [Bool.false_or]
    rw [List.any_eq_false] at a1
    have iA:∀ i,i <h.aE.length->js (view h k Y O) i=false:=fun i hi=>by simpa using a1 i (by simpa using hi)
    cases I:O.any (o' (view h k Y O)) with
    | true=>
      rw [if_pos rfl]
      refine ⟨fun e=>(by cases e),fun ⟨_,e⟩=>?_⟩
      obtain ⟨x,ai,b7⟩:=List.any_eq_true.1 I
      rw [e x ai] at b7;cases b7
    | false=>
      rw [if_neg (by decide)]
      rw [List.any_eq_false] at I
      exact ⟨fun _=>⟨iA,fun x ai=>by simpa using I x ai⟩,fun _=>rfl⟩
 have hl:nW (view h k Y O)= 0 ↔ gl (view h k Y O)= 0 /\sF (view h k Y O)= 0 /\x7 (view h k Y O)= 0 :=by
  unfold nW
  by_cases kI:gl (view h k Y O)= 0
  · rw [if_pos kI]
    by_cases kJ:sF (view h k Y O)= 0
    · rw [if_pos kJ];exact ⟨fun e=>⟨kI,kJ,e⟩,fun e=>e.2.2⟩
    · rw [if_neg kJ];exact ⟨fun e=>absurd e kJ,fun e=>absurd e.2.1 kJ⟩
  · rw [if_neg kI];exact ⟨fun e=>absurd e kI,fun e=>absurd e.1 kI⟩
 rw [hl,bM,b7,ez]
 have zY:∀ x,(rf (view h k Y O) x=false) ↔ x ∈ O/\refs k h.Words x.toNat≠ []:=fun x=>by
  unfold rf kc
  show ((!decide (x ∈ Y++O) || (decide (0 <x) && decide (x<=h.au))) || (refs k h.Words x.toNat).isEmpty)=false ↔ _
  rw [Bool.or_eq_false_iff,Bool.or_eq_false_iff]
  constructor
  · rintro ⟨⟨aC,aS⟩,bV⟩
    have aC:x ∈ Y++O:=by simp only [Bool.not_eq_false'] at aC;exact of_decide_eq_true aC
    refine ⟨?_,fun e=>by rw [e] at bV;cases bV⟩
    rcases List.mem_append.1 aC with er | er
    · have:=hy x er
      rw [decide_eq_true (by omega),decide_eq_true (by omega)] at aS
      cases aS
    · exact er
  · rintro ⟨aC,aS⟩
    have:=bm x aC
    refine ⟨⟨?_,?_⟩,?_⟩
    · rw [decide_eq_true (List.mem_append_right _ aC)];rfl
    · rw [decide_eq_false (p:=x<=h.au) (by omega),Bool.and_false]
    · cases e:refs k h.Words x.toNat with
      | nil=>exact absurd e aS
      | cons _ _=>rfl
 constructor
 · rintro ⟨⟨aC,aS⟩,⟨bV,er⟩,iP,tA⟩
   refine ⟨fun a bx=>?_,aS,fun a bx w hw=>?_,fun i hi hc=>er _ (aca ⟨by omega,by omega⟩ hi hc),XT fun i hi=>?_,fun x ai=>?_,fun a bx af w hw=>?_⟩
   · have:=aC a bx
     unfold lH at this
     rw [Bool.or_eq_false_iff,decide_eq_false_iff_not,decide_eq_false_iff_not] at this
     have t1: ¬ a5 h.Words a < 1 :=this.1
     have t2: ¬ h.Next<=a5 h.Words a:=this.2
     omega
   · have:=bV a bx
     unfold nP at this
     rw [List.any_eq_false] at this
     have zs:=this w hw
     unfold sG at zs
     by_cases e:wd h.Words w.toNat= 0
     · exact .inl e
     · refine .inr ?_
       by_cases b7:wd h.Words w.toNat ∈ Y++O
       · exact b7
       · refine absurd ?_ zs
         show (!decide (wd h.Words w.toNat= 0) && !decide (wd h.Words w.toNat ∈ Y++O))=true
         rw [decide_eq_false e,decide_eq_false b7];rfl
   · have:=iP (i+ 1) hi
     unfold js at this
     simp only [Bool.or_eq_false_iff,Bool.and_eq_false_iff,decide_eq_false_iff_not,Nat.add_sub_cancel] at this
     rcases this.1 with z | z
     · omega
     · have z: ¬ wd h.aE (i+ 1)<=wd h.aE i:=z
       omega
   · obtain ⟨i,hi,e⟩:=Wz ai
     have:=iP i hi
     unfold js at this
     rw [Bool.or_eq_false_iff] at this
     have zs:rf (view h k Y O) (wd h.aE i)=false:=this.2
     rw [e] at zs
     exact (zY x).1 zs
   · rintro ⟨DN,O2⟩
     have:=tA a bx
     unfold o' at this
     have this:(!decide (a ∈ h.aE) && (refs k h.Words a.toNat).any fun w=>kc (view h k Y O) (wd h.Words w.toNat))=false:=this
     rw [decide_eq_false af,Bool.not_false,Bool.true_and,List.any_eq_false] at this
     refine this w hw ?_
     show (decide (0 <wd h.Words w.toNat) && decide (wd h.Words w.toNat<=h.au))=true
     rw [decide_eq_true DN,decide_eq_true O2];rfl
 · intro g
   refine ⟨⟨fun a bx=>?_,g.nodup⟩,⟨fun a bx=>?_,fun x ai=>?_⟩,fun i hi=>?_,fun a bx=>?_⟩
   · have:=g.hash a bx
     show (decide (a5 h.Words a < 1) || decide (h.Next<=a5 h.Words a))=false
     rw [decide_eq_false (by omega),decide_eq_false (by omega)];rfl
   · show ((refs k h.Words a.toNat).any (sG (view h k Y O)))=false
     rw [List.any_eq_false]
     intro w hw
     show ¬ (!decide (wd h.Words w.toNat= 0) && !decide (wd h.Words w.toNat ∈ Y++O))=true
     rcases g.ref a bx w hw with e | e
     · rw [decide_eq_true e];simp
     · rw [decide_eq_true e];simp
   · obtain ⟨i,hi,hc,e⟩:=aeO (by omega) ai
     rw [e];exact g.b1 i hi hc
   · show ((decide (0 <i) && decide (wd h.aE i<=wd h.aE (i - 1))) || rf (view h k Y O) (wd h.aE i))=false
     rw [(zY _).2 (g.rh _ (X6 hi)),Bool.or_false]
     by_cases bJ:0 <i
     · have:=g.afL (i - 1) i (by omega) hi
       rw [decide_eq_false (p:=wd h.aE i<=wd h.aE (i - 1)) (by omega),Bool.and_false]
     · rw [decide_eq_false bJ];rfl
   · show (!decide (a ∈ h.aE) && (refs k h.Words a.toNat).any fun w=>kc (view h k Y O) (wd h.Words w.toNat))=false
     by_cases af:a ∈ h.aE
     · rw [decide_eq_true af];rfl
     · rw [decide_eq_false af,Bool.not_false,Bool.true_and,List.any_eq_false]
       intro w hw e
       have e:(decide (0 <wd h.Words w.toNat) && decide (wd h.Words w.toNat<=h.au))=true:=e
       simp only [Bool.and_eq_true,decide_eq_true_eq] at e
       exact g.must a bx af w hw e
theorem gV.apart {W:List Int} {to q:Nat} {L:List Int} (h:gV k W to q L):∀ a ∈ L,∀ b ∈ L,a≠b->a.toNat+ 3 +(wd W (a.toNat+ 1)).toNat<=b.toNat\/b.toNat+ 3 +(wd W (b.toNat+ 1)).toNat<=a.toNat:=by
 induction h with
 | nil=>intro a bx;cases bx
 | cons aC aS bV hw cn=>
   intro a bx b a1 eZ
   rcases List.mem_cons.1 bx with rfl | bx
   · rcases List.mem_cons.1 a1 with rfl | a1
     · exact absurd rfl eZ
     · obtain ⟨n,rfl,er,_⟩:=hw.mem b a1
       left;simp only [Int.toNat_natCast];exact er
   · rcases List.mem_cons.1 a1 with rfl | a1
     · obtain ⟨n,rfl,er,_⟩:=hw.mem a bx
       right;simp only [Int.toNat_natCast];exact er
     · exact cn a bx b a1 eZ
theorem ia.apart (a5:ja h) (ax:ia h k Y O):∀ a ∈ Y++O,∀ b ∈ Y++O,a≠b->a.toNat+ 3 +(wd h.Words (a.toNat+ 1)).toNat<=b.toNat\/b.toNat+ 3 +(wd h.Words (b.toNat+ 1)).toNat<=a.toNat:=by
 intro a bx b a1 eZ
 have hc:=a5.C.1.2
 rcases List.mem_append.1 bx with bx | bx <;> rcases List.mem_append.1 a1 with a1 | a1
 · exact ax.y.apart a bx b a1 eZ
 · have:=ax.I5 a5 a bx;have:=ax.HP a5 b a1;left;omega
 · have:=ax.HP a5 a bx;have:=ax.I5 a5 b a1;right;omega
 · exact ax.o.apart a bx b a1 eZ
theorem gV.congr {W j2:List Int} {to q:Nat} {L:List Int} (h:gV k W to q L) (he:∀ a ∈ L,wd j2 a.toNat=wd W a.toNat/\wd j2 (a.toNat+ 1)=wd W (a.toNat+ 1)):gV k j2 to q L:=by
 induction h with
 | nil=>exact .nil
 | @cons q r aC aS bV hw cn=>
   obtain ⟨bM,b7⟩:=he _ List.mem_cons_self
   simp only [Int.toNat_natCast] at bM b7
   have:=cn (fun a bx=>he a (List.mem_cons_of_mem _ bx))
   rw [<-b7] at this bV aS
   rw [<-bM] at aC aS
   exact .cons aC aS bV this
theorem aF7 {W j2:List Int} {q:Nat} (aC:wd j2 q=wd W q) (aS:wd j2 (q+ 1)=wd W (q+ 1)):refs k j2 q=refs k W q:=by unfold refs;rw [aC,aS]
end
end J
namespace J
section
variable {F:Nat} {k:bs}
theorem aFF (h:hV k) (t:Int):By k t=some (ih k t):=by
 have hc:=h.Qf
 unfold By ih
 rw [dP (by omega) (by omega),Option.some.injEq,Bool.eq_iff_iff]
 simp;omega
theorem aFC (h:hV k) {t:Int} (bO:ih k t=true) (n:Int):Bx k t n=some (isLen k t n):=by
 unfold Bx gU isLen
 simp only [Option.bind_some]
 cases a1:(decide (0 <=n) && decide (n<= 500)) with
 | false=>simp
 | true=>
   by_cases bV:t < 3
   · simp [bV]
   · rw [M3 h bO bV];simp [bV]
theorem aFD (h:hV k) {t:Int} (bO:ih k t=true) {n:Int} (af:isLen k t n=true) {j:Nat} (bc:(j:Int) <n):BC k t (j:Int)=some (lN k t j):=by
 unfold BC lN
 obtain ⟨_,ax⟩:=xS.1 af
 by_cases aS:t= 2
 · simp [aS]
 by_cases bV:t < 3
 · have: ¬ 3 <=t:=by omega
   simp [aS,this]
 · have ax:=ax.resolve_left bV
   have QE:3 <=t:=by omega
   have GO:j <(AG k t).length:=by omega
   rw [M3 h bO bV,Option.bind_some,cc (List.getElem?_eq_getElem GO),List.getElem?_eq_getElem GO]
   simp [aS,QE]
theorem gV.le {W:List Int} {to q:Nat} {L:List Int} (h:gV k W to q L):q<=to:=by
 cases h with
 | nil=>exact Nat.le_refl _
 | cons aC aS bV er=>omega
theorem akm (h:bw) (a5:hV k) {to:Nat} (z8:to<=h.Words.length) (jm:h.Words.length<= 5000):∀ (f q:Nat) (acc:List Int),to - q <f->q<= 6000 ->acc.length+(to - q)<= 6000 ->
 (∃ L,gV k h.Words to q L/\s' h k (to:Int) f acc (q:Int)=some (.go (acc++L,(to:Int)))) \/
 ((∀ L,¬ gV k h.Words to q L)/\(s' h k (to:Int) f acc (q:Int)=some (.out ([],false))\/ ∃ x,s' h k (to:Int) f acc (q:Int)=some (.go x)/\x.2 ≠(to:Int))):=by
 intro f
 induction f with
 | zero=>intro q acc h;omega
 | succ f cn=>
   intro q acc I ec tH
   rw [s']
   by_cases ea:q <to
   case neg=>
    by_cases e:q=to
    · subst e
      refine .inl ⟨[],.nil,?_⟩
      rw [cB];simp
    · rw [show decide ((q:Int) <(to:Int))=false from decide_eq_false (by omega)]
      exact .inr ⟨fun L hr=>by have:=hr.le;omega,.inr ⟨(acc,(q:Int)),rfl,by show (q:Int)≠(to:Int);omega⟩⟩
   rw [cC ea,cond_true,dP (n:=(q:Int)+ 3) (by omega) (by omega)]
   by_cases bV:(to:Int) <(q:Int)+ 3
   · rw [decide_eq_true bV]
     refine .inr ⟨fun L hr=>?_,.inl rfl⟩
     obtain ⟨_,_,_,_,h,_⟩:=hr.inv ea
     omega
   rw [decide_eq_false bV,cond_false,lK (by omega),Option.bind_some]
   have bM:By (⟨k.aD,k.aA,k.Fields,k.Names,k.az⟩:bs) (wd h.Words q)=some (ih k (wd h.Words q)):=aFF a5 _
   rw [bM,Option.bind_some]
   cases bO:ih k (wd h.Words q) with
   | false=>
     refine .inr ⟨fun L hr=>?_,.inl rfl⟩
     obtain ⟨_,_,h,_⟩:=hr.inv ea
     rw [bO] at h;cases h
   | true=>
     have b7:Bx (⟨k.aD,k.aA,k.Fields,k.Names,k.az⟩:bs) (wd h.Words q) (wd h.Words (q+ 1))=some (isLen k (wd h.Words q) (wd h.Words (q+ 1))):=aFC a5 bO _
     rw [Bool.not_true,cond_false,Option.bind_some,dP (n:=(q:Int)+ 1) (by omega) (by omega),ig (i:=q+ 1) (by omega) (by omega),Option.bind_some,b7,Option.bind_some]
     cases ax:isLen k (wd h.Words q) (wd h.Words (q+ 1)) with
     | false=>
       refine .inr ⟨fun L hr=>?_,.inl rfl⟩
       obtain ⟨_,_,_,h,_⟩:=hr.inv ea
       rw [ax] at h;cases h
     | true=>
       obtain ⟨⟨CK,l1⟩,_⟩:=xS.1 ax
       rw [Bool.not_true,cond_false,jz (by simp;omega),Option.bind_some,Option.bind_some,dP (n:=3 +wd h.Words (q+ 1)) (by omega) (by omega),dP (n:=(q:Int)+(3 +wd h.Words (q+ 1))) (by omega) (by omega)]
       rw [show (q:Int)+(3 +wd h.Words (q+ 1))=((q+ 3 +(wd h.Words (q+ 1)).toNat:Nat):Int) by omega]
       rcases cn (q+ 3 +(wd h.Words (q+ 1)).toNat) (acc++[(q:Int)]) (by omega) (by omega) (by simp;omega) with ⟨L,hr,e⟩ | ⟨af,e⟩
       · refine .inl ⟨(q:Int)::L,.cons bO ax hr.le hr,?_⟩
         rw [e];simp
       · refine .inr ⟨fun L hr=>?_,e⟩
         obtain ⟨r,_,_,_,_,h⟩:=hr.inv ea
         exact af r h
theorem afk (bT:6000 <F) (h:bw) (a5:hV k) {to q:Nat} (ec:q<= 5000) (z8:to<=h.Words.length) (jm:h.Words.length<= 5000) :
 (∃ L,gV k h.Words to q L/\qy F h k (q:Int) (to:Int)=some (L,true))\/((∀ L,¬ gV k h.Words to q L)/\ ∃ l,qy F h k (q:Int) (to:Int)=some (l,false)):=by
 unfold qy
 rcases akm h a5 z8 jm F q [] (by omega) (by omega) (by simp;omega) with ⟨L,hr,e⟩ | ⟨af,e | ⟨x,e,ai⟩⟩
 · exact .inl ⟨L,hr,by rw [e,qc];simp⟩
 · exact .inr ⟨af,[],by rw [e,afF]⟩
 · exact .inr ⟨af,x.1,by rw [e,qc];show some (x.1,decide (x.2 =(to:Int)))=_;rw [decide_eq_false ai]⟩
theorem acb {α ρ:Type} {p:α->Bool} {e:ρ}:∀ l:List α,l.findSome? (fun x=>if p x then some e else none)=if l.any p then some e else none
 | []=>rfl
 | x::r=>by
   rw [List.findSome?_cons,List.any_cons]
   cases p x with
   | true=>rfl
   | false=>simp only [Bool.false_or];exact acb r
theorem H4 {l:List Int} (ax:Small F l.length) (n:Int):n7 F l n=some (decide (n ∈ l)):=by
 unfold n7
 have l1:wq l n F 0 =some (dx (l.findSome? fun x=>if decide (x=n) then some true else none)):=each _ ax.1 (fun f i x ai=>by
  rw [wq,cC (List.getElem?_eq_some_iff.1 ai).1,cond_true,cc ai,Option.bind_some]
  cases decide (x=n) <;> rfl) (fun f=>by rw [wq,cB];rfl) ax.2
 rw [l1,acb]
 by_cases e:n ∈ l
 · rw [show (l.any fun x=>decide (x=n))=true from List.any_eq_true.2 ⟨n,e,by simp⟩,decide_eq_true e];rfl
 · rw [show (l.any fun x=>decide (x=n))=false from List.any_eq_false.2 fun x ai=>by simp;rintro rfl;exact e ai,decide_eq_false e];rfl
theorem aFE (bT:6000 <F) (h:bw) (a5:hV k) {q:Nat} (ec:q+ 3 +(wd h.Words (q+ 1)).toNat<=h.Words.length) (jm:h.Words.length<= 5000) (bO:ih k (wd h.Words q)=true) (ax:isLen k (wd h.Words q) (wd h.Words (q+ 1))=true) :
 rV F h k (q:Int)=some (refs k h.Words q):=by
 obtain ⟨⟨CK,l1⟩,_⟩:=xS.1 ax
 unfold rV
 generalize af:(wd h.Words (q+ 1)).toNat=n at ec
 have Ft:wd h.Words (q+ 1)=(n:Int):=by omega
 have pq:=ax
 rw [Ft] at pq
 have l1:=tb (l:=List.range n) (fun f acc i=>rW (q:Int) h k f acc (i:Int)) (fun j=>if lN k (wd h.Words q) j then [((q+ 3 +j:Nat):Int)] else []) 1 5000 (fun x _=>by split <;> simp) (fun f i x acc ai bx=>by
  have hi:i <n:=by have:=(List.getElem?_eq_some_iff.1 ai).1;simpa using this
  rw [List.getElem?_range hi] at ai
  simp only [Option.some.injEq] at ai
  subst ai
  rw [rW,dP (n:=(q:Int)+ 1) (by omega) (by omega),ig (i:=q+ 1) (by omega) (by omega),Option.bind_some,Ft,cC hi,cond_true,lK (by omega),Option.bind_some]
  have bM:BC (⟨k.aD,k.aA,k.Fields,k.Names,k.az⟩:bs) (wd h.Words q) (i:Int)=some (lN k (wd h.Words q) i):=aFD a5 bO pq (by omega)
  rw [bM,Option.bind_some]
  show _=rW (q:Int) h k f _ _
  cases lN k (wd h.Words q) i with
  | true=>
    rw [cond_true,dP (n:=(q:Int)+ 3) (by omega) (by omega),dP (n:=(q:Int)+ 3 +i) (by omega) (by omega),jz (by simp;omega),Option.bind_some,Option.bind_some,gO hi (by omega),if_pos rfl]
    congr 2
  | false=>
    rw [cond_false,Option.bind_some,gO hi (by omega),if_neg (by decide),List.append_nil]) (fun f acc=>by
  rw [List.length_range,rW,dP (n:=(q:Int)+ 1) (by omega) (by omega),ig (i:=q+ 1) (by omega) (by omega),Option.bind_some,Ft,cB];rfl) (F:=F) (by simp;omega) (acc:=[]) (by simp;omega)
 have l1:rW (q:Int) h k F [] 0 =_:=l1
 rw [l1,Option.bind_some,List.nil_append,refs,af]
theorem afl (bT:6000 <F) {h:bw} (bf:hV k) (a5:ja h):(∃ Y O,ia h k Y O/\qz F h k=some (Y,O,true))\/((∀ Y O,¬ ia h k Y O)/\ ∃ Y O,qz F h k=some (Y,O,false)):=by
 have hw:=a5.l2
 obtain ⟨⟨⟨d_,e5⟩,a3,a4⟩,b,⟨dV,ej⟩,⟨fN,jA⟩,kU⟩:=id a5
 unfold okB at b
 unfold qz
 have t1:=afk (F:=F) bT h bf (q:=1) (to:=h.aV.toNat) (by omega) (by omega) (by omega)
 have t2:=afk (F:=F) bT h bf (q:=(h.au+ 1).toNat) (to:=h.aT.toNat) (by omega) (by omega) (by omega)
 rw [show ((h.aV.toNat:Nat):Int)=h.aV by omega] at t1
 rw [show ((h.aT.toNat:Nat):Int)=h.aT by omega,show (((h.au+ 1).toNat:Nat):Int)=h.au+ 1 by omega] at t2
 rw [dP (n:=h.au+ 1) (by omega) (by omega)]
 have M6:∀ r,qy F h k 1 h.aV=some r->qy F (⟨h.Words,h.au,h.aI,h.aV,h.aT,h.aE,h.Next⟩:bw) (⟨k.aD,k.aA,k.Fields,k.Names,k.az⟩:bs) 1 h.aV=some r:=fun r e=>e
 have aGX:∀ r,qy F h k (h.au+ 1) h.aT=some r->qy F (⟨h.Words,h.au,h.aI,h.aV,h.aT,h.aE,h.Next⟩:bw) (⟨k.aD,k.aA,k.Fields,k.Names,k.az⟩:bs) (h.au+ 1) h.aT=some r:=fun r e=>e
 rcases t1 with ⟨Y,K1,bM⟩ | ⟨CT,Y,bM⟩ <;> rcases t2 with ⟨O,mC,b7⟩ | ⟨An,O,b7⟩ <;> rw [M6 _ bM,Option.bind_some,aGX _ b7,Option.bind_some]
 · exact .inl ⟨Y,O,⟨K1,mC⟩,rfl⟩
 · exact .inr ⟨fun Y O h=>An _ h.o,Y,O,rfl⟩
 · exact .inr ⟨fun Y O h=>CT _ h.y,Y,O,rfl⟩
 · exact .inr ⟨fun Y O h=>CT _ h.y,Y,O,rfl⟩
end
end J
namespace J
section
variable {F:Nat} {k:bs} {h:bw} {Y O:List Int}
theorem UJ {b:Bool} {e:Int} {K:Option (Way Int Unit)}:hE (if b=true then some e else none) K=cond b (some (.out e)) K:=by cases b <;> rfl
theorem aFG (bT:10000 <F) (aC:1 <=h.Next) (af:h.Next<= 9223372036854775807) (ad:n' (view h k Y O)):vU h (Y++O) F 0 =some (dx (if (Y++O).any (lH (view h k Y O)) then some 3 else none)):=by
 have hc:Y.length+O.length<= 5000 :=ad.r4
 have hw:h.Words.length<= 4900 :=ad.l2
 rw [<-nt]
 exact each _ (by simp;omega) (fun f i a bx=>by
  have hm:=List.mem_of_getElem? bx
  have bO:qA (view h k Y O) a:=ad.ru a hm
  have bJ:0 <=a:=bO.pos
  have aS:a.toNat+ 3 +(wd h.Words (a.toNat+ 1)).toNat<=h.Words.length:=bO.fit
  rw [vU,cC (List.getElem?_eq_some_iff.1 bx).1,cond_true,cc bx,Option.bind_some,dP (n:=a+ 2) (by omega) (by omega),ig (i:=a.toNat+ 2) (by omega) (by omega),Option.bind_some]
  unfold gU
  rw [Option.bind_some,dP (n:=h.Next - 1) (by omega) (by omega),UJ]
  congr 1
  show _=(decide (wd h.Words (a.toNat+ 2) < 1) || decide (h.Next<=wd h.Words (a.toNat+ 2)))
  rw [Bool.eq_iff_iff];simp;omega) (fun f=>by rw [vU,cB];rfl) (by simp;omega)
theorem aE8 {l:List Int}:(List.range l.length).any (fun i=>(List.range i).any fun j=>decide (wd l i=wd l j))= !decide l.Nodup:=by
 rw [Bool.eq_iff_iff,List.any_eq_true]
 simp only [List.mem_range,List.any_eq_true,decide_eq_true_eq,Bool.not_eq_true',decide_eq_false_iff_not]
 rw [List.Nodup,List.pairwise_iff_getElem]
 constructor
 · rintro ⟨i,hi,j,bc,e⟩ b5
   have:=b5 j i (by omega) hi bc
   rw [rA (List.getElem?_eq_getElem hi),rA (List.getElem?_eq_getElem (by omega:j <l.length))] at e
   exact this e.symm
 · intro b5
   apply Classical.byContradiction
   intro eZ
   refine b5 fun j i bc hi iR e=>eZ ⟨i,hi,j,iR,?_⟩
   rw [rA (List.getElem?_eq_getElem hi),rA (List.getElem?_eq_getElem bc)];exact e.symm
theorem aFH (bT:10000 <F) (ad:n' (view h k Y O)):sY F h (Y++O) F 0 =some (dx (if ((Y++O).map (a5 h.Words)).Nodup then none else some 6)):=by
 have hc:Y.length+O.length<= 5000 :=ad.r4
 have hw:h.Words.length<= 4900 :=ad.l2
 have ax:(Y++O).length<= 5000 :=by simp;omega
 have at_:∀ i,i <(Y++O).length->idx (Y++O) (i:Int)=some (wd (Y++O) i)/\idx h.Words (ap (wd (Y++O) i+ 2))=some (wd ((Y++O).map (a5 h.Words)) i):=fun i hi=>by
  have bM:wd (Y++O) i=(Y++O)[i]:=rA (List.getElem?_eq_getElem hi)
  have bO:qA (view h k Y O) (Y++O)[i]:=ad.ru _ (List.getElem_mem hi)
  have bJ:0 <=(Y++O)[i]:=bO.pos
  have aS:(Y++O)[i].toNat+ 3 +(wd h.Words ((Y++O)[i].toNat+ 1)).toNat<=h.Words.length:=bO.fit
  refine ⟨lK hi,?_⟩
  rw [bM,dP (by omega) (by omega),ig (i:=(Y++O)[i].toNat+ 2) (by omega) (by omega)]
  refine congrArg some (rA ?_).symm
  rw [List.getElem?_map,List.getElem?_eq_getElem hi];rfl
 have l1:sY F h (Y++O) F 0 =some (dx ((List.range (Y++O).length).findSome? fun i=>if (List.range i).any (fun j=>decide (wd ((Y++O).map (a5 h.Words)) i=wd ((Y++O).map (a5 h.Words)) j)) then some 6 else none)):=kv _ (by omega) (fun f i hi=>by
  rw [sY,cC hi,cond_true]
  have f':vV h (Y++O) (i:Int) F 0 =some (dx ((List.range i).findSome? fun j=>if decide (wd ((Y++O).map (a5 h.Words)) i=wd ((Y++O).map (a5 h.Words)) j) then some 6 else none)):=kv _ (by omega) (fun eW j bc=>by
   rw [vV,cC bc,cond_true,(at_ i hi).1,Option.bind_some,(at_ i hi).2,Option.bind_some,(at_ j (by omega)).1,Option.bind_some,(at_ j (by omega)).2,Option.bind_some]
   cases decide (wd ((Y++O).map (a5 h.Words)) i=wd ((Y++O).map (a5 h.Words)) j) <;> rfl) (fun eW=>by rw [vV,cB];rfl) (by omega)
  rw [f',nt]
  cases (List.range i).any (fun j=>decide (wd ((Y++O).map (a5 h.Words)) i=wd ((Y++O).map (a5 h.Words)) j)) <;> rfl) (fun f=>by rw [sY,cB];rfl) (by omega)
 rw [l1,nt]
 have e:=aE8 (l:=(Y++O).map (a5 h.Words))
 rw [List.length_map] at e
 rw [e]
 by_cases bW:((Y++O).map (a5 h.Words)).Nodup
 · rw [if_pos bW,decide_eq_true bW];rfl
 · rw [if_neg bW,decide_eq_false bW];rfl
theorem XW (bT:10000 <F) (ad:n' (view h k Y O)) {a:Int} (bx:a ∈ Y++O):rV F (⟨h.Words,h.au,h.aI,h.aV,h.aT,h.aE,h.Next⟩:bw) (⟨k.aD,k.aA,k.Fields,k.Names,k.az⟩:bs) a=some (refs k h.Words a.toNat):=by
 have bO:qA (view h k Y O) a:=ad.ru a bx
 have hw:h.Words.length<= 4900 :=ad.l2
 have:=aFE (F:=F) (by omega) h ad.AC (q:=a.toNat) bO.fit (by omega) bO.tag bO.len
 rwa [show ((a.toNat:Nat):Int)=a by have:=bO.pos;omega] at this
theorem aFI (bT:10000 <F) (ad:n' (view h k Y O)):vW F h k (Y++O) F 0 =some (dx (if (Y++O).any (nP (view h k Y O)) then some 5 else none)):=by
 have hc:Y.length+O.length<= 5000 :=ad.r4
 have hw:h.Words.length<= 4900 :=ad.l2
 rw [<-nt]
 exact each _ (by simp;omega) (fun f i a bx=>by
  have hm:=List.mem_of_getElem? bx
  have bO:qA (view h k Y O) a:=ad.ru a hm
  have Um:(refs k h.Words a.toNat).length<= 5000 :=MK ad bO
  rw [vW,cC (List.getElem?_eq_some_iff.1 bx).1,cond_true,cc bx,Option.bind_some,XW bT ad hm,Option.bind_some]
  have f':sZ F h (Y++O) (refs k h.Words a.toNat) F 0 =some (dx ((refs k h.Words a.toNat).findSome? fun w=>if sG (view h k Y O) w then some 5 else none)):=each _ (by omega) (fun eW Aa w g_=>by
   have gz:=List.mem_of_getElem? g_
   have ai:idx h.Words w=some (wd h.Words w.toNat):=bO.MJ gz
   rw [sZ,cC (List.getElem?_eq_some_iff.1 g_).1,cond_true,cc g_,Option.bind_some,ai,Option.bind_some,Option.bind_some,ai,Option.bind_some,H4 ⟨by simp;omega,by simp;omega⟩,Option.bind_some]
   show _=hE (if (!decide (wd h.Words w.toNat= 0) && !decide (wd h.Words w.toNat ∈ Y++O))=true then some 5 else none) _
   cases decide (wd h.Words w.toNat= 0) <;> cases decide (wd h.Words w.toNat ∈ Y++O) <;> rfl) (fun eW=>by rw [sZ,cB];rfl) (by omega)
  rw [f',nt]
  show _=hE (if (refs k h.Words a.toNat).any (sG (view h k Y O)) then some 5 else none) _
  cases (refs k h.Words a.toNat).any (sG (view h k Y O)) <;> rfl) (fun f=>by rw [vW,cB];rfl) (by simp;omega)
theorem aFJ (bT:10000 <F) (dI:ja h):rR h F 0 =some (dx (if (free h).any (fun x=>!decide (x= 0)) then some 1 else none)):=by
 have hw:=dI.l2
 obtain ⟨⟨⟨d_,e5⟩,a3,a4⟩,b,⟨dV,ej⟩,⟨fN,jA⟩,kU⟩:=id dI
 have l1:rR h F 0 =some (dx ((List.range h.Words.length).findSome? fun i=>if (!decide (wd h.Words i= 0) && (decide ((i:Int)= 0) || ((decide (h.aV<=(i:Int)) && decide ((i:Int)<=h.au)) || decide (h.aT<=(i:Int))))) then some 1 else none)):=kv _ (by omega) (fun f i hi=>by
  rw [rR,cC hi,cond_true,lK hi,Option.bind_some]
  unfold gU
  rw [Option.bind_some]
  cases decide (wd h.Words i= 0) <;> cases decide ((i:Int)= 0) <;> cases ((decide (h.aV<=(i:Int)) && decide ((i:Int)<=h.au)) || decide (h.aT<=(i:Int))) <;> rfl) (fun f=>by rw [rR,cB];rfl) (by omega)
 rw [l1,nt]
 refine congrArg (fun b:Bool=>some (dx (if b=true then some 1 else none))) ?_
 rw [Bool.eq_iff_iff,List.any_eq_true,List.any_eq_true]
 constructor
 · rintro ⟨i,hi,e⟩
   simp only [Bool.and_eq_true,Bool.or_eq_true,Bool.not_eq_true',decide_eq_false_iff_not,decide_eq_true_eq] at e
   rw [List.mem_range] at hi
   exact ⟨wd h.Words i,aca ⟨by omega,by omega⟩ hi (by rcases e.2 with e | e | e;exact .inl (by omega);exact .inr (.inl e);exact .inr (.inr e)),by simpa using e.1⟩
 · rintro ⟨x,ai,e⟩
   obtain ⟨i,hi,hc,rfl⟩:=aeO (by omega) ai
   refine ⟨i,List.mem_range.2 hi,?_⟩
   simp only [Bool.and_eq_true,Bool.or_eq_true,Bool.not_eq_true',decide_eq_false_iff_not,decide_eq_true_eq] at e ⊢
   exact ⟨e,by rcases hc with e | e | e;exact .inl (by omega);exact .inr (.inl e);exact .inr (.inr e)⟩
theorem aeY (dI:ja h) (ax:ia h k Y O) {x:Int}:x ∈ O ↔ x ∈ Y++O/\kc (view h k Y O) x=false:=by
 obtain ⟨⟨⟨d_,e5⟩,a3,a4⟩,b,⟨dV,ej⟩,⟨fN,jA⟩,kU⟩:=id dI
 have e:kc (view h k Y O) x=(decide (0 <x) && decide (x<=h.au)):=rfl
 rw [e]
 constructor
 · intro ai
   have:=ax.HP dI x ai
   exact ⟨List.mem_append.2 (.inr ai),by simp;omega⟩
 · rintro ⟨ai,e⟩
   rcases List.mem_append.1 ai with ai | ai
   · have:=ax.I5 dI x ai
     simp at e;omega
   · exact ai
theorem aFN (bT:10000 <F) (dI:ja h) (ax:ia h k Y O) (ad:n' (view h k Y O)) (x:Int) (Z:Option Int) (aoj:Z=some x) (K:Option (Way Int Unit)):((n7 F O x).bind fun C'=>
 cond (!C') (some (.out 4)) (Z.bind fun Dv=>
 (rV F (⟨h.Words,h.au,h.aI,h.aV,h.aT,h.aE,h.Next⟩:bw) (⟨k.aD,k.aA,k.Fields,k.Names,k.az⟩:bs) Dv).bind fun H3=>
 cond (decide ((H3.length:Int)= 0)) (some (.out 4)) K))=hE (if rf (view h k Y O) x then some 4 else none) K:=by
 have hc:Y.length+O.length<= 5000 :=ad.r4
 subst aoj
 rw [H4 ⟨by omega,by omega⟩,Option.bind_some,UJ]
 have e:rf (view h k Y O) x=(!decide (x ∈ Y++O) || kc (view h k Y O) x || (refs k h.Words x.toNat).isEmpty):=rfl
 rw [e]
 by_cases ai:x ∈ O
 · obtain ⟨aC,aS⟩:=(aeY dI ax).1 ai
   rw [decide_eq_true ai,decide_eq_true aC,aS,Bool.not_true,cond_false,Option.bind_some,XW bT ad aC,Option.bind_some]
   cases refs k h.Words x.toNat with
   | nil=>rfl
   | cons a r=>rw [decide_eq_false (by simp;omega)];rfl
 · rw [decide_eq_false ai]
   have:(!decide (x ∈ Y++O) || kc (view h k Y O) x)=true:=by
    cases bW:decide (x ∈ Y++O) with
    | false=>rfl
    | true=>
      cases hy:kc (view h k Y O) x with
      | true=>rfl
      | false=>exact absurd ((aeY dI ax).2 ⟨of_decide_eq_true bW,hy⟩) ai
   rw [this];rfl
theorem aFK (bT:10000 <F) (dI:ja h) (ax:ia h k Y O) (ad:n' (view h k Y O)) (af:Small F h.aE.length):rS F h k (Y,O,true) F 0 =some (dx (if (List.range h.aE.length).any (js (view h k Y O)) then some 4 else none)):=by
 rw [<-nt]
 exact kv _ af.1 (fun f i hi=>by
  rw [rS,cC hi,cond_true]
  have e:js (view h k Y O) i=((decide (0 <i) && decide (wd h.aE i<=wd h.aE (i - 1))) || rf (view h k Y O) (wd h.aE i)):=rfl
  have bR:=aFN bT dI ax ad (wd h.aE i) (idx h.aE (i:Int)) (lK hi) (rS F h k (Y,O,true) f (ap ((i:Int)+ 1)))
  rw [e]
  have aJM:=af.1
  by_cases bJ:0 <i
  · rw [show decide ((0 :Int) <(i:Int))=true from decide_eq_true (by omega),cond_true]
    rw [show ∀ K:Int->Option (Way Int Unit),(idx h.aE (i:Int)).bind K=K (wd h.aE i) from fun K=>by rw [lK hi];rfl]
    rw [dP (n:=(i:Int) - 1) (by omega) (by omega),ig (i:=i - 1) (by omega) (by omega),Option.bind_some,decide_eq_true bJ,Bool.true_and]
    cases decide (wd h.aE i<=wd h.aE (i - 1)) with
    | true=>rfl
    | false=>
      rw [cond_false,Bool.false_or,<-bR]
      rw [lK hi];rfl
  · rw [show decide ((0 :Int) <(i:Int))=false from decide_eq_false (by omega),cond_false,decide_eq_false bJ,Bool.false_and,Bool.false_or,<-bR]
    rw [lK hi];rfl) (fun f=>by rw [rS,cB];rfl) af.2
theorem aFL (bT:10000 <F) (ad:n' (view h k Y O)) (af:Small F h.aE.length):vX F h k (Y,O,true) F 0 =some (dx (if O.any (o' (view h k Y O)) then some 4 else none)):=by
 have hc:Y.length+O.length<= 5000 :=ad.r4
 rw [<-nt]
 exact each _ (by omega) (fun f i a bx=>by
  have hm:=List.mem_append.2 (Or.inr (a:=a ∈ Y) (List.mem_of_getElem? bx))
  have bO:qA (view h k Y O) a:=ad.ru a hm
  have Um:(refs k h.Words a.toNat).length<= 5000 :=MK ad bO
  rw [vX,cC (List.getElem?_eq_some_iff.1 bx).1,cond_true,cc bx,Option.bind_some,XW bT ad hm,Option.bind_some]
  have f':s0 F h (Y,O,true) (i:Int) (refs k h.Words a.toNat) F 0 =some (dx ((refs k h.Words a.toNat).findSome? fun w=>if (!decide (a ∈ h.aE) && kc (view h k Y O) (wd h.Words w.toNat)) then some 4 else none)):=each _ (by omega) (fun eW Aa w g_=>by
   have gz:=List.mem_of_getElem? g_
   have ai:idx h.Words w=some (wd h.Words w.toNat):=bO.MJ gz
   rw [s0,cC (List.getElem?_eq_some_iff.1 g_).1,cond_true,cc g_,Option.bind_some,ai,Option.bind_some]
   unfold gU
   rw [Option.bind_some,cc bx,Option.bind_some,H4 af,Option.bind_some,UJ]
   have e:kc (view h k Y O) (wd h.Words w.toNat)=(decide (1 <=wd h.Words w.toNat) && decide (wd h.Words w.toNat<=h.au)):=rfl
   rw [e]
   cases (decide (1 <=wd h.Words w.toNat) && decide (wd h.Words w.toNat<=h.au)) <;> cases decide (a ∈ h.aE) <;> rfl) (fun eW=>by rw [s0,cB];rfl) (by omega)
  rw [f',nt]
  have e:o' (view h k Y O) a=((refs k h.Words a.toNat).any fun w=>!decide (a ∈ h.aE) && kc (view h k Y O) (wd h.Words w.toNat)):=by
   show (!decide (a ∈ h.aE) && (refs k h.Words a.toNat).any fun w=>kc (view h k Y O) (wd h.Words w.toNat))=_
   cases decide (a ∈ h.aE) with
   | true=>simp
   | false=>simp
  rw [e]
  cases (refs k h.Words a.toNat).any (fun w=>!decide (a ∈ h.aE) && kc (view h k Y O) (wd h.Words w.toNat)) <;> rfl) (fun f=>by rw [vX,cB];rfl) (by omega)
theorem aFM (bT:10000 <F) (bf:hV k) (af:Small F h.aE.length) (hi:h.Next<= 9223372036854775807):∃ r,Bw F h k=some r.2 /\Spec h k r:=by
 unfold Bw
 by_cases gI:As h
 case neg=>
  refine ⟨(none,m8 h),?_,.size fun s=>gI s.A⟩
  show _=some (m8 h)
  unfold m8 gU
  rw [if_neg gI,Option.bind_some,Option.bind_some]
  cases a1:(decide (3 <=h.au) && decide (h.au<= 2000)) with
  | false=>rfl
  | true=>
    cases Q_:(decide (3 <=h.aI) && decide (h.aI<= 2000)) with
    | false=>rfl
    | true=>exact absurd ⟨by simpa using a1,by simpa using Q_⟩ gI
 obtain ⟨⟨d_,e5⟩,a3,a4⟩:=id gI
 have JT:gU h.au 3 2000 =some true:=by unfold gU;rw [decide_eq_true d_,decide_eq_true e5];rfl
 have EF:gU h.aI 3 2000 =some true:=by unfold gU;rw [decide_eq_true a3,decide_eq_true a4];rfl
 rw [JT,EF,Option.bind_some,Option.bind_some,Bool.not_true,cond_false,cond_false,dP (n:=1 +h.au) (by omega) (by omega),dP (n:=1 +h.au+h.aI) (by omega) (by omega)]
 by_cases iQ:okB h
 case neg=>
  refine ⟨(none,m8 h),?_,.size fun s=>iQ s.B⟩
  show _=some (m8 h)
  unfold m8
  rw [if_pos gI,if_neg iQ]
  unfold okB at iQ
  rw [decide_eq_false iQ];rfl
 have acv:=iQ
 unfold okB at acv
 rw [decide_eq_true acv,Bool.not_true,cond_false,dP (n:=h.au+ 1) (by omega) (by omega),dP (n:=h.au+h.aI) (by omega) (by omega),dP (n:=h.au+h.aI+ 1) (by omega) (by omega)]
 by_cases pg:HO h
 case neg=>
  refine ⟨(none,m8 h),?_,.size fun s=>pg s.C⟩
  show _=some (m8 h)
  unfold m8 gU
  rw [if_pos gI,if_pos iQ,if_neg pg,Option.bind_some,Option.bind_some]
  cases a1:(decide (1 <=h.aV) && decide (h.aV<=h.au+ 1)) with
  | false=>rfl
  | true=>
    cases Q_:(decide (h.au+ 1 <=h.aT) && decide (h.aT<=h.au+h.aI+ 1)) with
    | false=>rfl
    | true=>
      cases apv:decide (h.Next < 1) with
      | true=>rfl
      | false=>exact absurd ⟨by simpa using a1,by simpa using Q_,by simp at apv;omega⟩ pg
 have dI:ja h:=⟨gI,iQ,pg⟩
 obtain ⟨⟨dV,ej⟩,⟨fN,jA⟩,kU⟩:=id pg
 have EG:gU h.aV 1 (h.au+ 1)=some true:=by unfold gU;rw [decide_eq_true dV,decide_eq_true ej];rfl
 have PD:gU h.aT (h.au+ 1) (h.au+h.aI+ 1)=some true:=by unfold gU;rw [decide_eq_true fN,decide_eq_true jA];rfl
 rw [EG,PD,Option.bind_some,Option.bind_some,Bool.not_true,cond_false,decide_eq_false (show ¬ h.Next < 1 by omega),Bool.or_self,cond_false]
 have M6:∀ r,qz F h k=some r->qz F (⟨h.Words,h.au,h.aI,h.aV,h.aT,h.aE,h.Next⟩:bw) (⟨k.aD,k.aA,k.Fields,k.Names,k.az⟩:bs)=some r:=fun r e=>e
 rcases afl (F:=F) (by omega) bf dI with ⟨Y,O,ax,e⟩ | ⟨mL,Y,O,e⟩
 case inr=>
  refine ⟨(none,1),?_,.form dI mL⟩
  rw [M6 _ e];rfl
 have ad:=ax.M_ bf dI
 have hc:Y.length+O.length<= 5000 :=ad.r4
 refine ⟨_,?_,.rest dI ax⟩
 show _=some (nW (view h k Y O))
 have hd:ep 8 ([]:List Int) Y=some Y:=by rw [jz (by simp;omega)];rfl
 have lY:ep 8 Y O=some (Y++O):=jz (by omega)
 have l1:=aFG (k:=k) (Y:=Y) (O:=O) bT kU hi ad
 have f':=aFH (F:=F) bT ad
 have Aj:=aFI (F:=F) bT ad
 have HB:=aFJ (F:=F) bT dI
 have Wn:=aFK bT dI ax ad af
 have Wo:=aFL bT ad af
 rw [M6 _ e,Option.bind_some]
 show (ep 8 ([]:List Int) Y).bind _=_
 rw [hd,Option.bind_some]
 show (ep 8 Y O).bind _=_
 rw [lY,Option.bind_some,l1,jU]
 unfold nW gl
 show o1 (if (Y++O).any (lH (view h k Y O))=true then some 3 else none) _=some (if (if (Y++O).any (lH (view h k Y O))=true then (3 :Int) else if ((Y++O).map (a5 h.Words)).Nodup then 0 else 6)= 0 then _ else (if (Y++O).any (lH (view h k Y O))=true then (3 :Int) else if ((Y++O).map (a5 h.Words)).Nodup then 0 else 6))
 cases (Y++O).any (lH (view h k Y O)) with
 | true=>rfl
 | false=>
   rw [if_neg Bool.false_ne_true,if_neg Bool.false_ne_true]
   show dr _ _=_
   rw [f',jU]
   by_cases bW:((Y++O).map (a5 h.Words)).Nodup
   case neg=>rw [if_neg bW,if_neg bW];rfl
   rw [if_pos bW,if_pos bW,if_pos rfl]
   show dr _ _=_
   rw [Aj,jU]
   unfold sF
   show o1 (if (Y++O).any (nP (view h k Y O))=true then some 5 else none) _=some (if (if (Y++O).any (nP (view h k Y O))=true then (5 :Int) else if (free h).any (fun x=>!decide (x= 0))=true then 1 else 0)= 0 then _ else (if (Y++O).any (nP (view h k Y O))=true then (5 :Int) else if (free h).any (fun x=>!decide (x= 0))=true then 1 else 0))
   cases (Y++O).any (nP (view h k Y O)) with
   | true=>rfl
   | false=>
     rw [if_neg Bool.false_ne_true,if_neg Bool.false_ne_true]
     show dr _ _=_
     rw [HB,jU]
     cases (free h).any (fun x=>!decide (x= 0)) with
     | true=>rfl
     | false=>
       rw [if_neg Bool.false_ne_true,if_neg Bool.false_ne_true,if_pos rfl]
       show dr _ _=_
       rw [Wn,jU]
       unfold x7
       show o1 (if (List.range h.aE.length).any (js (view h k Y O))=true then some 4 else none) _=some (if ((List.range h.aE.length).any (js (view h k Y O)) || O.any (o' (view h k Y O)))=true then (4 :Int) else 0)
       cases (List.range h.aE.length).any (js (view h k Y O)) with
       | true=>rfl
       | false=>
         rw [if_neg Bool.false_ne_true,Bool.false_or]
         show dr _ _=_
         rw [Wo,jU]
         cases O.any (o' (view h k Y O)) <;> rfl
theorem Spec.yw {r Mn:Option ck × Int} (s:Spec h k r) (XP:Spec h k Mn):r=Mn:=by
 cases s with
 | size af=>cases XP with
   | size _=>rfl
   | form bm _=>exact absurd bm af
   | rest bm _=>exact absurd bm af
 | form bm mL=>cases XP with
   | size af=>exact absurd bm af
   | form _ _=>rfl
   | rest _ ax=>exact absurd ax (mL _ _)
 | rest bm ax=>cases XP with
   | size af=>exact absurd bm af
   | form _ mL=>exact absurd ax (mL _ _)
   | rest _ pq=>
     obtain rfl:=ax.y.yw pq.y
     obtain rfl:=ax.o.yw pq.o
     rfl
end
end J
namespace J
section
variable {k:bs} {h:bw} {Y O:List Int}
theorem ia.fit (dI:ja h) (ax:ia h k Y O):∀ a ∈ Y++O,1 <=a/\a.toNat+ 3 +(wd h.Words (a.toNat+ 1)).toNat<=h.Words.length/\(a.toNat+ 3 +(wd h.Words (a.toNat+ 1)).toNat<=h.aV.toNat\/(h.au+ 1 <=a/\a.toNat+ 3 +(wd h.Words (a.toNat+ 1)).toNat<=h.aT.toNat)):=by
 intro a bx
 have iQ:(h.Words.length:Int)= 1 +h.au+h.aI:=dI.B
 obtain ⟨⟨dV,ej⟩,⟨fN,jA⟩,_⟩:=dI.C
 obtain ⟨⟨d_,_⟩,a3,_⟩:=dI.A
 rcases List.mem_append.1 bx with bx | bx
 · obtain ⟨aC,aS⟩:=ax.I5 dI a bx;exact ⟨aC,by omega,.inl aS⟩
 · obtain ⟨aC,aS⟩:=ax.HP dI a bx;exact ⟨by omega,by omega,.inr ⟨aC,aS⟩⟩
theorem ia.aGE (ax:ia h k Y O):∀ a ∈ Y++O,ih k (wd h.Words a.toNat)=true/\isLen k (wd h.Words a.toNat) (wd h.Words (a.toNat+ 1))=true:=by
 intro a bx
 rcases List.mem_append.1 bx with bx | bx
 · obtain ⟨n,rfl,_,_,bV⟩:=ax.y.mem a bx;exact bV
 · obtain ⟨n,rfl,_,_,bV⟩:=ax.o.mem a bx;exact bV
theorem Eu.set (dI:ja h) (ax:ia h k Y O) (g:Eu h k Y O) {a:Int} (bx:a ∈ Y++O) {n:Nat} (af:n <(wd h.Words (a.toNat+ 1)).toNat) {value:Int}
 (ad:lN k (wd h.Words a.toNat) n=true->value= 0 \/value ∈ Y++O) {rh:List Int} (aC:y6 rh) (aS:∀ x ∈ rh,x ∈ h.aE\/(x=a/\a ∈ O/\lN k (wd h.Words a.toNat) n=true)) (bV:∀ x ∈ h.aE,x ∈ rh)
 (er:lN k (wd h.Words a.toNat) n=true->a ∈ O-> 0 <value->value<=h.au->a ∈ rh) :
 ja (⟨h.Words.set (a.toNat+ 3 +n) value,h.au,h.aI,h.aV,h.aT,rh,h.Next⟩:bw)/\ia (⟨h.Words.set (a.toNat+ 3 +n) value,h.au,h.aI,h.aV,h.aT,rh,h.Next⟩:bw) k Y O /\
 Eu (⟨h.Words.set (a.toNat+ 3 +n) value,h.au,h.aI,h.aV,h.aT,rh,h.Next⟩:bw) k Y O:=by
 obtain ⟨f1,f2,f3⟩:=ax.fit dI a bx
 have b5:a.toNat+ 3 +n <h.Words.length:=by omega
 have hw:∀ j,wd (h.Words.set (a.toNat+ 3 +n) value) j=if j=a.toNat+ 3 +n then value else wd h.Words j:=fun j=>aG5 b5
 have head:∀ b ∈ Y++O,wd (h.Words.set (a.toNat+ 3 +n) value) b.toNat=wd h.Words b.toNat/\wd (h.Words.set (a.toNat+ 3 +n) value) (b.toNat+ 1)=wd h.Words (b.toNat+ 1)/\wd (h.Words.set (a.toNat+ 3 +n) value) (b.toNat+ 2)=wd h.Words (b.toNat+ 2):=by
  intro b a1
  rw [hw,hw,hw]
  by_cases e:b=a
  · subst e
    rw [if_neg (by omega),if_neg (by omega),if_neg (by omega)];exact ⟨rfl,rfl,rfl⟩
  · have:=ax.apart dI b a1 a bx e
    rw [if_neg (by omega),if_neg (by omega),if_neg (by omega)];exact ⟨rfl,rfl,rfl⟩
 have iQ:(h.Words.length:Int)= 1 +h.au+h.aI:=dI.B
 obtain ⟨⟨dV,ej⟩,⟨fN,jA⟩,kU⟩:=id dI.C
 have bR:∀ b ∈ Y++O,refs k (h.Words.set (a.toNat+ 3 +n) value) b.toNat=refs k h.Words b.toNat:=fun b a1=>aF7 (head b a1).1 (head b a1).2.1
 have K8:∀ b ∈ Y++O,a5 (h.Words.set (a.toNat+ 3 +n) value) b=a5 h.Words b:=fun b a1=>(head b a1).2.2
 have ay7:(Y++O).map (a5 (h.Words.set (a.toNat+ 3 +n) value))=(Y++O).map (a5 h.Words):=List.map_congr_left K8
 have xp:∀ b ∈ Y++O,∀ w ∈ refs k h.Words b.toNat,w.toNat=a.toNat+ 3 +n->b=a/\lN k (wd h.Words a.toNat) n=true:=by
  intro b a1 w g_ e
  obtain ⟨j,bc,aye,rfl⟩:=Wy.1 g_
  simp only [Int.toNat_natCast] at e
  have KG:b=a:=by
   by_cases KG:b=a
   · exact KG
   · have:=ax.apart dI b a1 a bx KG;omega
  subst KG
  have:j=n:=by omega
  subst this
  exact ⟨rfl,aye⟩
 refine ⟨⟨dI.A,?_,dI.C⟩,⟨ax.y.congr fun b a1=>?_,ax.o.congr fun b a1=>?_⟩,⟨fun b a1=>?_,?_,fun b a1 w g_=>?_,fun i hi hc=>?_,aC,fun x ai=>?_,fun b a1 adh w g_=>?_⟩⟩
 · show ((h.Words.set (a.toNat+ 3 +n) value).length:Int)=_;rw [List.length_set];exact iQ
 · obtain ⟨jt,yD,_⟩:=head b (List.mem_append_left _ a1);exact ⟨jt,yD⟩
 · obtain ⟨jt,yD,_⟩:=head b (List.mem_append_right _ a1);exact ⟨jt,yD⟩
 · show 1 <=a5 (h.Words.set (a.toNat+ 3 +n) value) b/\a5 (h.Words.set (a.toNat+ 3 +n) value) b <h.Next
   rw [K8 b a1];exact g.hash b a1
 · show ((Y++O).map (a5 (h.Words.set (a.toNat+ 3 +n) value))).Nodup
   rw [ay7];exact g.nodup
 · have g_:w ∈ refs k (h.Words.set (a.toNat+ 3 +n) value) b.toNat:=g_
   rw [bR b a1] at g_
   show wd (h.Words.set (a.toNat+ 3 +n) value) w.toNat= 0 \/wd (h.Words.set (a.toNat+ 3 +n) value) w.toNat ∈ Y++O
   rw [hw]
   by_cases e:w.toNat=a.toNat+ 3 +n
   · rw [if_pos e];exact ad (xp b a1 w g_ e).2
   · rw [if_neg e];exact g.ref b a1 w g_
 · have hi:i <(h.Words.set (a.toNat+ 3 +n) value).length:=hi
   rw [List.length_set] at hi
   have hc:i= 0 \/(h.aV<=i/\(i:Int)<=h.au)\/h.aT<=i:=hc
   show wd (h.Words.set (a.toNat+ 3 +n) value) i= 0
   rw [hw,if_neg (by omega)]
   exact g.b1 i hi hc
 · show x ∈ O/\refs k (h.Words.set (a.toNat+ 3 +n) value) x.toNat≠ []
   rcases aS x ai with ai | ⟨rfl,mC,bc⟩
   · obtain ⟨jt,yD⟩:=g.rh x ai
     rw [bR x (List.mem_append_right _ jt)];exact ⟨jt,yD⟩
   · refine ⟨mC,?_⟩
     rw [bR x bx]
     intro e
     have:((x.toNat+ 3 +n:Nat):Int) ∈ refs k h.Words x.toNat:=Wy.2 ⟨n,af,bc,rfl⟩
     rw [e] at this;cases this
 · have iA:b ∈ Y++O:=List.mem_append_right _ a1
   have g_:w ∈ refs k (h.Words.set (a.toNat+ 3 +n) value) b.toNat:=g_
   rw [bR b iA] at g_
   show ¬ (0 <wd (h.Words.set (a.toNat+ 3 +n) value) w.toNat/\wd (h.Words.set (a.toNat+ 3 +n) value) w.toNat<=h.au)
   rw [hw]
   by_cases e:w.toNat=a.toNat+ 3 +n
   · rw [if_pos e]
     obtain ⟨rfl,bc⟩:=xp b iA w g_ e
     rintro ⟨DN,O2⟩
     exact adh (er bc a1 DN O2)
   · rw [if_neg e]
     exact g.must b a1 (fun hm=>adh (bV b hm)) w g_
end
end J
namespace J
structure Good (F:Nat) (h:bw) (k:bs) (Y O:List Int):Prop where
 r2:oL F k=some 0
 AC:hV k
 s:ja h
 l:ia h k Y O
 ok:Eu h k Y O
section
variable {F:Nat} {k:bs} {h:bw} {Y O:List Int}
theorem Good.aE9 (g:Good F h k Y O):h.aE.length<= 5000 :=by
 refine afM (N:=5000) g.ok.afL (fun i hi=>?_)
 obtain ⟨aC,_⟩:=g.ok.rh _ (X6 hi)
 obtain ⟨f1,f2,_⟩:=g.l.fit g.s _ (List.mem_append_right Y aC)
 have:=g.s.l2
 omega
theorem Good.open (bT:10000 <F) (g:Good F h k Y O):oC F h k=some (some (view h k Y O),0):=by
 unfold oC
 have bM:oL F (⟨k.aD,k.aA,k.Fields,k.Names,k.az⟩:bs)=some 0 :=g.r2
 have af:=g.aE9
 obtain ⟨r,b7,g5⟩:=WH bT g.AC (h:=h) ⟨by omega,by omega⟩
 have b7:xv F (⟨h.Words,h.au,h.aI,h.aV,h.aT,h.aE,h.Next⟩:bw) (⟨k.aD,k.aA,k.Fields,k.Names,k.az⟩:bs)=some r:=b7
 rw [bM,Option.bind_some,np,b7,Option.bind_some]
 cases g5 with
 | size a5=>exact absurd g.s a5
 | form _ I=>exact absurd g.l (I Y O)
 | @rest ED Bu _ ax=>
   have akh:=ax.y.yw g.l.y
   have aj0:=ax.o.yw g.l.o
   subst akh aj0
   rw [(af0 g.AC g.s g.l).2 g.ok];rfl
theorem aFh (bT:10000 <F) (zI:∃ e,oL F k=some e/\(e≠ 0 \/(e= 0 /\hV k))) (af:Small F h.aE.length) :
 ∃ r,oC F h k=some r/\((r.2 ≠ 0 /\r.1 =none)\/ ∃ Y O,Good F h k Y O/\r=(some (view h k Y O),0)):=by
 obtain ⟨e,bM,he⟩:=zI
 unfold oC
 have ajW:oL F (⟨k.aD,k.aA,k.Fields,k.Names,k.az⟩:bs)=some e:=bM
 rw [ajW,Option.bind_some]
 rcases he with he | ⟨rfl,bf⟩
 · rw [nL he];exact ⟨_,rfl,.inl ⟨he,rfl⟩⟩
 obtain ⟨r,b7,g5⟩:=WH bT bf af
 have b7:xv F (⟨h.Words,h.au,h.aI,h.aV,h.aT,h.aE,h.Next⟩:bw) (⟨k.aD,k.aA,k.Fields,k.Names,k.az⟩:bs)=some r:=b7
 rw [np,b7,Option.bind_some]
 refine ⟨_,rfl,?_⟩
 cases g5 with
 | size a5=>exact .inl ⟨fun e=>a5 (XS.1 e),rfl⟩
 | form _ I=>exact .inl ⟨by decide,rfl⟩
 | @rest ED Bu a5 ax=>
   by_cases q:nW (view h k ED Bu)= 0
   · exact .inr ⟨ED,Bu,⟨bM,bf,a5,ax,(af0 bf a5 ax).1 q⟩,by rw [q];rfl⟩
   · exact .inl ⟨q,by rw [if_neg q]⟩
theorem Good.c4 (_:Good F h k Y O) (a:Int):zL (view h k Y O) a=some (decide (a ∈ Y++O)):=by
 unfold zL
 show some ((dp ((Y++O).map fun a=>(a,true)) a).getD false)=_
 rw [WA]
theorem M4 (bT:10000 <F) (g:Good F h k Y O) (a:Int):ky F h k a=some (some (view h k Y O),if a ∈ Y++O then 0 else 5):=by
 unfold ky
 have bM:oC F (⟨h.Words,h.au,h.aI,h.aV,h.aT,h.aE,h.Next⟩:bw) (⟨k.aD,k.aA,k.Fields,k.Names,k.az⟩:bs)=_:=g.open bT
 rw [bM,Option.bind_some,show decide ((0 :Int)= 0)=true from rfl,cond_true,Option.bind_some]
 show (zL (view h k Y O) a).bind _=_
 rw [g.c4,Option.bind_some]
 by_cases bx:a ∈ Y++O
 · rw [decide_eq_true bx,if_pos bx];rfl
 · rw [decide_eq_false bx,if_neg bx];rfl
theorem aGF {r:Option ck × Int} (e:oC F h k=some r) (bR:r.2 ≠ 0) (a:Int):ky F h k a=some r:=by
 unfold ky
 have bM:oC F (⟨h.Words,h.au,h.aI,h.aV,h.aT,h.aE,h.Next⟩:bw) (⟨k.aD,k.aA,k.Fields,k.Names,k.az⟩:bs)=_:=e
 rw [bM,Option.bind_some,decide_eq_false bR];rfl
theorem af7 {r:Option ck × Int} {a:Int} (e:ky F h k a=some r) (bR:r.2 ≠ 0) (n:Int):qV F h k a n=some r:=by
 unfold qV
 have bM:ky F (⟨h.Words,h.au,h.aI,h.aV,h.aT,h.aE,h.Next⟩:bw) (⟨k.aD,k.aA,k.Fields,k.Names,k.az⟩:bs) a=_:=e
 rw [bM,Option.bind_some,decide_eq_false bR];rfl
def Hv (h:bw) (a n:Int):Prop:=0 <=n/\n <wd h.Words (a.toNat+ 1)
instance (h:bw) (a n:Int):Decidable (Hv h a n):=inferInstanceAs (Decidable (0 <=n/\n <wd h.Words (a.toNat+ 1)))
theorem Good.fit (g:Good F h k Y O) {a:Int} (bx:a ∈ Y++O):1 <=a/\a.toNat+ 3 +(wd h.Words (a.toNat+ 1)).toNat<=h.Words.length/\h.Words.length<= 4001 /\ 0 <=wd h.Words (a.toNat+ 1)/\wd h.Words (a.toNat+ 1)<= 500 :=by
 obtain ⟨f1,f2,_⟩:=g.l.fit g.s a bx
 obtain ⟨t1,t2⟩:=g.l.aGE a bx
 obtain ⟨⟨CK,l1⟩,_⟩:=xS.1 t2
 exact ⟨f1,f2,g.s.l2,CK,l1⟩
theorem af8 (bT:10000 <F) (g:Good F h k Y O) {a:Int} (bx:a ∈ Y++O) (n:Int):qV F h k a n=some (some (view h k Y O),if Hv h a n then 0 else 3):=by
 obtain ⟨f1,f2,f3,f4,f5⟩:=g.fit bx
 unfold qV
 have bM:ky F (⟨h.Words,h.au,h.aI,h.aV,h.aT,h.aE,h.Next⟩:bw) (⟨k.aD,k.aA,k.Fields,k.Names,k.az⟩:bs) a=_:=M4 bT g a
 rw [bM,Option.bind_some,if_pos bx,show decide ((0 :Int)= 0)=true from rfl,cond_true,dP (n:=a+ 1) (by omega) (by omega),ig (i:=a.toNat+ 1) (by omega) (by omega),Option.bind_some,dP (n:=wd h.Words (a.toNat+ 1) - 1) (by omega) (by omega)]
 unfold mI
 rw [Option.bind_some]
 by_cases bR:Hv h a n
 · rw [if_pos bR]
   have aC:=bR.1;have aS:=bR.2
   rw [decide_eq_true aC,decide_eq_true (p:=n<=wd h.Words (a.toNat+ 1) - 1) (by omega)];rfl
 · rw [if_neg bR]
   have:(decide (0 <=n) && decide (n<=wd h.Words (a.toNat+ 1) - 1))=false:=by
    rw [Bool.eq_false_iff];intro e
    simp only [Bool.and_eq_true,decide_eq_true_eq] at e
    exact bR ⟨e.1,by omega⟩
   rw [this];rfl
theorem akG (bT:10000 <F) (g:Good F h k Y O) {a n:Int} (bx:a ∈ Y++O) (bR:Hv h a n):pi F h k a n=some (wd h.Words (a.toNat+ 3 +n.toNat),0):=by
 obtain ⟨f1,f2,f3,f4,f5⟩:=g.fit bx
 have aC:=bR.1;have aS:=bR.2
 unfold pi
 have bM:qV F (⟨h.Words,h.au,h.aI,h.aV,h.aT,h.aE,h.Next⟩:bw) (⟨k.aD,k.aA,k.Fields,k.Names,k.az⟩:bs) a n=_:=af8 bT g bx n
 rw [bM,Option.bind_some,if_pos bR,np,dP (n:=a+ 3) (by omega) (by omega),dP (n:=a+ 3 +n) (by omega) (by omega),ig (i:=a.toNat+ 3 +n.toNat) (by omega) (by omega)];rfl
theorem aF_ (bT:10000 <F) (g:Good F h k Y O) {a:Int} (bx:a ∈ Y++O):sa F h k a=some ((h.Words.take (a.toNat+ 3 +(wd h.Words (a.toNat+ 1)).toNat)).drop (a.toNat+ 3),0):=by
 obtain ⟨f1,f2,f3,f4,f5⟩:=g.fit bx
 unfold sa
 have bM:ky F (⟨h.Words,h.au,h.aI,h.aV,h.aT,h.aE,h.Next⟩:bw) (⟨k.aD,k.aA,k.Fields,k.Names,k.az⟩:bs) a=_:=M4 bT g a
 rw [bM,Option.bind_some,if_pos bx,np,Option.bind_some]
 unfold K5
 show ((idx h.Words (ap (a+ 1))).bind _).bind _=_
 rw [dP (n:=a+ 1) (by omega) (by omega),ig (i:=a.toNat+ 1) (by omega) (by omega),Option.bind_some,Option.bind_some,dP (n:=3 +wd h.Words (a.toNat+ 1)) (by omega) (by omega),dP (n:=a+ 3) (by omega) (by omega),dP (n:=a+(3 +wd h.Words (a.toNat+ 1))) (by omega) (by omega)]
 unfold cut
 rw [if_pos ⟨by omega,by omega,by omega⟩,Option.bind_some,show (a+(3 +wd h.Words (a.toNat+ 1))).toNat=a.toNat+ 3 +(wd h.Words (a.toNat+ 1)).toNat by omega,show (a+ 3).toNat=a.toNat+ 3 by omega]
 unfold Dj
 rw [jz (by rw [List.length_drop,List.length_take];simp;omega)]
 rfl
end
end J
namespace J
set_option maxRecDepth 100000 in
theorem avv (F:Nat):JP (F+ 60)=some true:=by kernel_rfl
theorem afB {F:Nat} {l:List Int} (h:Small F l.length):y4 F l l=some true:=by
 unfold y4
 have l1:=Ma (n:=l.length) (fun k i=>rX l l k (i:Int)) (.go ()) (fun k i hi=>by
  obtain ⟨x,ai⟩:∃ x,l[i]? =some x:=⟨l[i],List.getElem?_eq_getElem hi⟩
  rw [rX,cC hi,cond_true,cc ai,Option.bind_some,Option.bind_some,decide_eq_true rfl]
  show rX l l k _=_
  rw [gO hi h.1]) (fun k=>by rw [rX,cB];rfl) h.2
 have l1:rX l l F 0 =some (.go ()):=l1
 rw [l1,decide_eq_true rfl]
 rfl
end J
namespace J
open Go Go.Proofs.YtpkhpagplommoaaGreat
theorem va {n:Nat} (h:n<=reachBytes):Small 140737488356000 n:=by
 have:reachBytes= 140737488351232 :=rfl
 unfold Small
 omega
theorem o3 {n:Nat} (k:Nat) (h:n*(k+ 1)<=reachBytes):Small 140737488356000 n:=
 va (Nat.le_trans (Nat.le_mul_of_pos_right n (Nat.succ_pos k)) h)
theorem akj {m:Method} (h:JR reachBytes m):m.Fits 140737488356000 :=
 ⟨va h.1,o3 23 h.2.2.1.1,fun k bf=>va (h.2.2.1.2 k bf).2,va h.2.2.2.1.2,o3 39 h.2.2.2.2.2.2.2.1,fun x ai=>va (h.2.2.2.2.2.2.2.2 x ai).2.2.2⟩
theorem aki {c:aM} (h:Ev reachBytes c):c.Fits 140737488356000 :=
 ⟨va h.1,va h.2.1,o3 39 h.2.2.1.1,fun f I=>⟨va (h.2.2.1.2 f I).1,va (h.2.2.1.2 f I).2.2⟩,o3 127 h.2.2.2.1,fun m hm=>akj (h.2.2.2.2 m hm)⟩
theorem akk {l:List aM} (h:l.length* 80 <=reachBytes/\ ∀ x ∈ l,Ev reachBytes x):Fits 140737488356000 l:=
 ⟨o3 79 h.1,fun c hc=>aki (h.2 c hc)⟩
theorem aEK {k:bs} (h:JQ reachBytes k):JO 140737488356000 k:=
 ⟨o3 7 h.2.1.1,o3 23 h.2.2.1.1,fun x ai=>o3 39 (h.2.2.1.2 x ai).1,o3 23 h.2.2.2.1.1,fun x ai=>o3 15 (h.2.2.2.1.2 x ai).1,o3 23 h.2.2.2.2.1,fun x ai=>o3 15 (h.2.2.2.2.2 x ai).1⟩
end J
namespace J
theorem aGy {k:bs} (kX:h' k.aD) (e:k=linked k.aD):hV k:=by
 have:=kX.right.len
 exact ⟨by omega,by rw [e];exact aF'⟩
theorem ajs {k:bs} (aC:Go.Proofs.YtpkhpagplommoaaGreat.JQ Go.reachBytes k):∃ e,oL 140737488356000 k=some e/\s6 140737488356000 k=some e/\(e≠ 0 \/(e= 0 /\hV k)):=by
 obtain ⟨e,dV,ej,fN⟩:=ajr (F:=140737488356000) (by omega) (akk aC.1) (aEK aC)
 refine ⟨e,dV,ej,?_⟩
 rcases fN with rfl | ⟨rfl,kX,bf⟩
 · exact .inl (by decide)
 · exact .inr ⟨rfl,aGy kX bf⟩
theorem aFg {F:Nat} {h:bw} {k:bs} (bT:10000 <F) (zI:∃ e,oL F k=some e/\s6 F k=some e/\(e≠ 0 \/(e= 0 /\hV k))) (af:Small F h.aE.length) (hi:h.Next<= 9223372036854775807) :
 ∃ r,oC F h k=some r/\rU F h k=some r.2 /\((r.2 ≠ 0 /\r.1 =none)\/ ∃ Y O,Good F h k Y O/\r=(some (view h k Y O),0)):=by
 obtain ⟨e,dV,ej,fN⟩:=zI
 obtain ⟨r,bM,bR⟩:=aFh bT ⟨e,dV,fN⟩ af
 refine ⟨r,bM,?_,bR⟩
 have ahN:oL F (⟨k.aD,k.aA,k.Fields,k.Names,k.az⟩:bs)=some e:=dV
 have ahV:s6 F (⟨k.aD,k.aA,k.Fields,k.Names,k.az⟩:bs)=some e:=ej
 unfold rU
 unfold oC at bM
 rw [ahN,Option.bind_some] at bM
 rw [ahV,Option.bind_some]
 rcases fN with fN | ⟨rfl,bf⟩
 · rw [nL fN] at bM
   obtain rfl:=Option.some.inj bM
   rw [decide_eq_false fN];rfl
 · rw [np] at bM
   obtain ⟨jR,p',s1⟩:=WH bT bf af
   obtain ⟨nM,qa,s2⟩:=aFM bT bf af hi
   have p':xv F (⟨h.Words,h.au,h.aI,h.aV,h.aT,h.aE,h.Next⟩:bw) (⟨k.aD,k.aA,k.Fields,k.Names,k.az⟩:bs)=some jR:=p'
   have qa:Bw F (⟨h.Words,h.au,h.aI,h.aV,h.aT,h.aE,h.Next⟩:bw) (⟨k.aD,k.aA,k.Fields,k.Names,k.az⟩:bs)=some nM.2 :=qa
   obtain rfl:=s1.yw s2
   rw [p',Option.bind_some] at bM
   obtain rfl:=Option.some.inj bM
   rw [show decide ((0 :Int)= 0)=true from rfl,cond_true,qa];rfl
end J
namespace J
section
variable {F:Nat} {k:bs} {h:bw} {Y O:List Int}
theorem aGG (bT:10000 <F) (g:Good F h k Y O):qz F h k=some (Y,O,true):=by
 rcases afl (F:=F) (by omega) g.AC g.s with ⟨ED,Bu,ax,e⟩ | ⟨mL,_⟩
 · obtain rfl:=ax.y.yw g.l.y
   obtain rfl:=ax.o.yw g.l.o
   exact e
 · exact absurd g.l (mL _ _)
theorem adZ (bT:10000 <F) (g:Good F h k Y O) (a:Int):wu F h k a=some (decide (a ∈ Y++O)):=by
 have ad:=g.l.M_ g.AC g.s
 have hc:Y.length+O.length<= 5000 :=ad.r4
 unfold wu
 have u:qz F (⟨h.Words,h.au,h.aI,h.aV,h.aT,h.aE,h.Next⟩:bw) (⟨k.aD,k.aA,k.Fields,k.Names,k.az⟩:bs)=some (Y,O,true):=aGG bT g
 rw [u,Option.bind_some]
 show (n7 F Y a).bind _=_
 rw [H4 ⟨by omega,by omega⟩,Option.bind_some]
 show cond _ _ ((n7 F O a).bind _)=_
 rw [H4 ⟨by omega,by omega⟩,Option.bind_some]
 by_cases hy:a ∈ Y <;> by_cases bm:a ∈ O <;> simp [hy,bm]
theorem afQ {r:Option ck × Int} {a:Int} (e:ky F h k a=some r) (bR:r.2 ≠ 0):sb F h k a=some (0,0,0,r.2):=by
 unfold sb
 have e':ky F (⟨h.Words,h.au,h.aI,h.aV,h.aT,h.aE,h.Next⟩:bw) (⟨k.aD,k.aA,k.Fields,k.Names,k.az⟩:bs) a=some r:=e
 rw [e',Option.bind_some,nL bR]
theorem QB {r:Option ck × Int} {a n:Int} (e:qV F h k a n=some r) (bR:r.2 ≠ 0):pi F h k a n=some (0,r.2):=by
 unfold pi
 have e':qV F (⟨h.Words,h.au,h.aI,h.aV,h.aT,h.aE,h.Next⟩:bw) (⟨k.aD,k.aA,k.Fields,k.Names,k.az⟩:bs) a n=some r:=e
 rw [e',Option.bind_some,nL bR]
theorem afx {r:Option ck × Int} {a:Int} (e:ky F h k a=some r) (bR:r.2 ≠ 0):sa F h k a=some ([],r.2):=by
 unfold sa
 have e':ky F (⟨h.Words,h.au,h.aI,h.aV,h.aT,h.aE,h.Next⟩:bw) (⟨k.aD,k.aA,k.Fields,k.Names,k.az⟩:bs) a=some r:=e
 rw [e',Option.bind_some,nL bR]
theorem aGD (bT:10000 <F) (g:Good F h k Y O) {a:Int} (bx:a ∈ Y++O):sb F h k a=some (wd h.Words a.toNat,wd h.Words (a.toNat+ 1),wd h.Words (a.toNat+ 2),0):=by
 obtain ⟨f1,f2,f3,f4,f5⟩:=g.fit bx
 have t:=M4 bT g a
 rw [if_pos bx] at t
 unfold sb
 have e':ky F (⟨h.Words,h.au,h.aI,h.aV,h.aT,h.aE,h.Next⟩:bw) (⟨k.aD,k.aA,k.Fields,k.Names,k.az⟩:bs) a=_:=t
 rw [e',Option.bind_some,np,dP (n:=a+ 1) (by omega) (by omega),dP (n:=a+ 2) (by omega) (by omega),ig (i:=a.toNat) (by omega) (by omega),ig (i:=a.toNat+ 1) (by omega) (by omega),ig (i:=a.toNat+ 2) (by omega) (by omega)]
 rfl
end
end J
namespace J
theorem aFq (h:bw) (bJ:Go.Proofs.YtpkhpagplommoaaGreat.ZG Go.reachBytes h) (k:bs) (aC:Go.Proofs.YtpkhpagplommoaaGreat.JQ Go.reachBytes k) (a:Int) (_:aZ.jg a) (n:Int) (_:aZ.jg n):∃ F,yZ F h k a n=some true:=by
 refine ⟨140737488355940 + 60,?_⟩
 have bT:10000 < 140737488355940 + 60 :=by omega
 have zI:=ajs aC
 have af:Small (140737488355940 + 60) h.aE.length:=o3 7 bJ.2.2.2.2.2.1.1
 have a1:=avv 140737488355940
 generalize acw:(140737488355940 + 60 :Nat)=F at bT af a1 ⊢
 have zI:∃ e,oL F k=some e/\s6 F k=some e/\(e≠ 0 \/(e= 0 /\hV k)):=by rw [<-acw];exact zI
 clear acw
 obtain ⟨r,bM,b7,bR⟩:=aFg bT zI af bJ.2.2.2.2.2.2.2
 have key:∀ (e:Int) (jt:Int × Int × Int × Int) (yD:Int × Int) (age:List Int × Int),e≠ 0 ->sb F h k a=some (0,0,0,e)->pi F h k a n=some (0,e)->sa F h k a=some ([],e) ->
  (rU F h k=some e\/(rU F h k=some 0 /\wu F h k a=some false/\e= 5))->yZ F h k a n=some true:=by
  intro e _ _ _ he t1 t2 t3 bm
  have t1:sb F (⟨h.Words,h.au,h.aI,h.aV,h.aT,h.aE,h.Next⟩:bw) (⟨k.aD,k.aA,k.Fields,k.Names,k.az⟩:bs) a=_:=t1
  have t2:pi F (⟨h.Words,h.au,h.aI,h.aV,h.aT,h.aE,h.Next⟩:bw) (⟨k.aD,k.aA,k.Fields,k.Names,k.az⟩:bs) a n=_:=t2
  have t3:sa F (⟨h.Words,h.au,h.aI,h.aV,h.aT,h.aE,h.Next⟩:bw) (⟨k.aD,k.aA,k.Fields,k.Names,k.az⟩:bs) a=_:=t3
  have a5:y4 F [] []=some true:=afB ⟨by simp,by simp;omega⟩
  unfold yZ
  rw [t1,t2,t3,Option.bind_some,Option.bind_some,Option.bind_some]
  rcases bm with bm | ⟨bm,hi,rfl⟩
  · have bm:rU F (⟨h.Words,h.au,h.aI,h.aV,h.aT,h.aE,h.Next⟩:bw) (⟨k.aD,k.aA,k.Fields,k.Names,k.az⟩:bs)=_:=bm
    rw [bm,Option.bind_some,decide_eq_false he,cond_false,Option.bind_some,decide_eq_false he,cond_false,Option.bind_some,a1]
    simp [a5]
  · have bm:rU F (⟨h.Words,h.au,h.aI,h.aV,h.aT,h.aE,h.Next⟩:bw) (⟨k.aD,k.aA,k.Fields,k.Names,k.az⟩:bs)=_:=bm
    have hi:wu F (⟨h.Words,h.au,h.aI,h.aV,h.aT,h.aE,h.Next⟩:bw) (⟨k.aD,k.aA,k.Fields,k.Names,k.az⟩:bs) a=_:=hi
    rw [bm,Option.bind_some,show decide ((0 :Int)= 0)=true from rfl,cond_true,hi,Option.bind_some,Bool.not_false,cond_true,Option.bind_some,show decide ((5 :Int)= 0)=false from rfl,cond_false,Option.bind_some,a1]
    simp [a5]
 rcases bR with ⟨bR,_⟩ | ⟨Y,O,g,rfl⟩
 · have t:=aGF bM bR a
   exact key r.2 (0,0,0,0) (0,0) ([],0) bR (afQ t bR) (QB (af7 t bR n) bR) (afx t bR) (.inl b7)
 by_cases bx:a ∈ Y++O
 case neg=>
  have t:=M4 bT g a
  rw [if_neg bx] at t
  have iP:(5 :Int)≠ 0 :=by decide
  have hi:=adZ bT g a
  rw [decide_eq_false bx] at hi
  exact key 5 (0,0,0,0) (0,0) ([],0) iP (afQ t iP) (QB (af7 t iP n) iP) (afx t iP) (.inr ⟨b7,hi,rfl⟩)
 obtain ⟨f1,f2,f3,f4,f5⟩:=g.fit bx
 have t1:sb F (⟨h.Words,h.au,h.aI,h.aV,h.aT,h.aE,h.Next⟩:bw) (⟨k.aD,k.aA,k.Fields,k.Names,k.az⟩:bs) a=_:=aGD bT g bx
 have t3:sa F (⟨h.Words,h.au,h.aI,h.aV,h.aT,h.aE,h.Next⟩:bw) (⟨k.aD,k.aA,k.Fields,k.Names,k.az⟩:bs) a=_:=aF_ bT g bx
 have bm:rU F (⟨h.Words,h.au,h.aI,h.aV,h.aT,h.aE,h.Next⟩:bw) (⟨k.aD,k.aA,k.Fields,k.Names,k.az⟩:bs)=some 0 :=b7
 have hi:wu F (⟨h.Words,h.au,h.aI,h.aV,h.aT,h.aE,h.Next⟩:bw) (⟨k.aD,k.aA,k.Fields,k.Names,k.az⟩:bs) a=some (decide (a ∈ Y++O)):=adZ bT g a
 have dV:cut h.Words (ap (a+ 3)) (ap (ap (a+ 3)+wd h.Words (a.toNat+ 1)))=some ((h.Words.take (a.toNat+ 3 +(wd h.Words (a.toNat+ 1)).toNat)).drop (a.toNat+ 3)):=by
  rw [dP (n:=a+ 3) (by omega) (by omega),dP (n:=a+ 3 +wd h.Words (a.toNat+ 1)) (by omega) (by omega)]
  unfold cut
  rw [if_pos ⟨by omega,by omega,by omega⟩,show (a+ 3 +wd h.Words (a.toNat+ 1)).toNat=a.toNat+ 3 +(wd h.Words (a.toNat+ 1)).toNat by omega,show (a+ 3).toNat=a.toNat+ 3 by omega]
 have hlen:((h.Words.take (a.toNat+ 3 +(wd h.Words (a.toNat+ 1)).toNat)).drop (a.toNat+ 3)).length=(wd h.Words (a.toNat+ 1)).toNat:=by
  rw [List.length_drop,List.length_take];omega
 have a5:y4 F ((h.Words.take (a.toNat+ 3 +(wd h.Words (a.toNat+ 1)).toNat)).drop (a.toNat+ 3)) ((h.Words.take (a.toNat+ 3 +(wd h.Words (a.toNat+ 1)).toNat)).drop (a.toNat+ 3))=some true:=afB ⟨by omega,by omega⟩
 by_cases g2:Hv h a n
 · have t2:pi F (⟨h.Words,h.au,h.aI,h.aV,h.aT,h.aE,h.Next⟩:bw) (⟨k.aD,k.aA,k.Fields,k.Names,k.az⟩:bs) a n=_:=akG bT g bx g2
   have kI:=g2.1;have kJ:=g2.2
   have ai:idx ((h.Words.take (a.toNat+ 3 +(wd h.Words (a.toNat+ 1)).toNat)).drop (a.toNat+ 3)) n=some (wd h.Words (a.toNat+ 3 +n.toNat)):=by
    rw [ig (i:=n.toNat) (by omega) (by omega)]
    unfold wd
    rw [List.getElem?_drop,List.getElem?_take,if_pos (by unfold wd at kJ;omega)]
   unfold yZ
   rw [t1,t2,t3,Option.bind_some,Option.bind_some,Option.bind_some,bm,Option.bind_some,show decide ((0 :Int)= 0)=true from rfl,cond_true,hi,decide_eq_true bx,Option.bind_some,Bool.not_true,cond_false,Option.bind_some,show decide ((0 :Int)= 0)=true from rfl,cond_true,
    dP (n:=a+ 1) (by omega) (by omega),dP (n:=a+ 2) (by omega) (by omega),ig (i:=a.toNat) (by omega) (by omega),ig (i:=a.toNat+ 1) (by omega) (by omega),ig (i:=a.toNat+ 2) (by omega) (by omega),Option.bind_some,Option.bind_some,Option.bind_some,dV,Option.bind_some,
    decide_eq_false (show ¬ n < 0 by omega),decide_eq_false (show ¬ wd h.Words (a.toNat+ 1)<=n by omega),Bool.or_self,cond_false,ai,Option.bind_some,Option.bind_some,a1]
   simp [a5]
 · have t2:pi F (⟨h.Words,h.au,h.aI,h.aV,h.aT,h.aE,h.Next⟩:bw) (⟨k.aD,k.aA,k.Fields,k.Names,k.az⟩:bs) a n=some (0,3):=by
    have t:=af8 bT g bx n
    rw [if_neg g2] at t
    exact QB t (show (3 :Int)≠ 0 by decide)
   have azf:(decide (n < 0) || decide (wd h.Words (a.toNat+ 1)<=n))=true:=by
    rw [Bool.or_eq_true,decide_eq_true_eq,decide_eq_true_eq]
    apply Classical.byContradiction
    intro hM
    exact g2 ⟨by omega,by omega⟩
   unfold yZ
   rw [t1,t2,t3,Option.bind_some,Option.bind_some,Option.bind_some,bm,Option.bind_some,show decide ((0 :Int)= 0)=true from rfl,cond_true,hi,decide_eq_true bx,Option.bind_some,Bool.not_true,cond_false,Option.bind_some,show decide ((0 :Int)= 0)=true from rfl,cond_true,
    dP (n:=a+ 1) (by omega) (by omega),dP (n:=a+ 2) (by omega) (by omega),ig (i:=a.toNat) (by omega) (by omega),ig (i:=a.toNat+ 1) (by omega) (by omega),ig (i:=a.toNat+ 2) (by omega) (by omega),Option.bind_some,Option.bind_some,Option.bind_some,dV,Option.bind_some,
    azf,cond_true,Option.bind_some,a1]
   simp [a5]
end J
namespace Go.Proofs.YtpkhpagplommoaaGreat.heapGets
open Go Go.ChangeShapes Go.WideShapes Go.ChangeAt Go.RowKit
theorem own:ownKnob Tryz.prog.godebug=none:=by kernel_rfl
set_option maxRecDepth 100000 in
theorem ajx (H:Type) (enc:TypeId × Value->H) (W:World) (base:Nat) (args:Array Value) (ds gs:List (DataW H)) (before:List MemPlace)
 (q3:∀ (j:Nat) t v,Tryz.f9.params[j]? =some t->args[j]? =some v->Value.okWide Tryz.prog W .any base t v)
 (jm:DataW.Whole enc Tryz.prog Tryz.f9.params.toList Rows.heapGetsSpec.vars false W args.toList ds gs before) (aBe:∀ n ∈ DataW.weightsEach Tryz.prog Tryz.f9.params.toList ds,n<=reachBytes) :
 Calls Tryz.prog 9 args W fun e j2=>∃ v,e= .returned v/\Rows.heapGetsSpec.post enc Tryz.prog Tryz.f9 false true false false W args v j2:=by
 have aog:=jm
 have ea:=jm.lt
 obtain ⟨p,q,akK,Ck,Hb,RM,TU⟩:=jm
 have gI:DataW.TrodAll enc Tryz.prog W 0 (fun _=>true) true Tryz.f9.params.toList args.toList ds p:=akK
 have kz:=aBe
 rw [Tryz.params9] at gI q3 kz
 obtain ⟨v0,aJY,d0,aJe,h5,aJV,Q5,rfl,rfl,bJ,aGP⟩:=trodAll_cons gI
 obtain ⟨v1,aJZ,d1,aJf,hd,kI,rfl,rfl,rfl,aC,aGQ⟩:=trodAll_cons aGP
 obtain ⟨v2,aJ0,d2,aJg,lY,kJ,rfl,rfl,rfl,aS,aGR⟩:=trodAll_cons aGQ
 obtain ⟨v3,aJ1,d3,aJh,sB,Mm,rfl,rfl,rfl,bV,aGS⟩:=trodAll_cons aGR
 obtain ⟨rfl,rfl,rfl⟩:=trodAll_nil aGS
 obtain rfl:args= #[v0,v1,v2,v3]:=by cases args;simp_all
 obtain ⟨rfl,rfl⟩:=trodVars_none Ck
 have aGc:=aFR (enc:=enc) (N:=reachBytes)
 have aGa:=aZ.ZQ aGc bJ (fun x ai=>ea x (by subst Hb;simp [ai]))
 have aGe:=aGa (fun m hm=>kz m (by simp only [DataW.weightsEach,List.mem_append];simp [hm]))
 obtain ⟨d0,kn,k3⟩:=aGe
 obtain ⟨v0,rfl,_⟩:=okWide_struct Tryz.underlying24 (q3 0 24 v0 rfl rfl)
 obtain ⟨aIx,aIO,aIy,aIP,iw,aFu,aFv⟩:=kn
 obtain rfl:=aZ.ZI iw
 have aGd:=aFS (enc:=enc) (N:=reachBytes)
 have aGb:=aZ.ZQ aGd aC (fun x ai=>ea x (by subst Hb;simp [ai]))
 have aGf:=aGb (fun m hm=>kz m (by simp only [DataW.weightsEach,List.mem_append];simp [hm]))
 obtain ⟨d1,jR,jo⟩:=aGf
 obtain ⟨v1,rfl,_⟩:=okWide_struct Tryz.underlying30 (q3 1 30 v1 rfl rfl)
 obtain ⟨aIB,aIS,aIC,aIT,aID,aIU,aIE,aIV,aIF,aIW,bM,aFw,aFx,aFy,aFz,aFA⟩:=jR
 obtain rfl:=aZ.ZI bM
 obtain ⟨An,rfl,k4⟩:=aZ.ZP Tryz.underlying3 (q3 2 3 v2 rfl rfl) aS
 obtain ⟨aE3,rfl,q6⟩:=aZ.ZP Tryz.underlying3 (q3 3 3 v3 rfl rfl) bV
 obtain ⟨F,bT⟩:=J.aFq d0 k3 d1 jo An k4 aE3 q6
 refine (aim (X:=[]) (M0:=[]) (W:=W) ⟨aZ.ba.refl _ _,fun _ bf=>absurd bf (List.not_mem_nil),fun _ bf=>absurd bf (List.not_mem_nil),fun _ ai=>absurd ai (List.not_mem_nil),List.nodup_nil,fun y hy=>by (simp only [List.mem_cons,List.not_mem_nil,or_false] at hy;rcases hy with rfl | rfl | rfl | rfl | rfl | rfl | rfl <;> first | exact aFu | exact aFv | exact aFw | exact aFx | exact aFy | exact aFz | exact aFA)⟩ bT).mono fun e j2 ⟨he,ad⟩=>?_
 exact ⟨_,he,aZ.aFs aog (by kernel_rfl) (by kernel_rfl) rfl rfl Tryz.underlying4 rfl ad.ev⟩
theorem aEF (os:Os):laidMet Tryz.prog Rows.heapGetsRow.laid ((World.holding Tryz.prog os ⟨#[],#[],[]⟩).forCall (fun _ _=>0) ⟨#[],#[.agg #[.slice none 0 0,.int .i64 0,.int .i64 0,.int .i64 0,.int .i64 0,.slice none 0 0,.int .i64 0],.agg #[.slice none 0 0,.slice none 0 0,.slice none 0 0,.slice none 0 0,.slice none 0 0],.int .i64 0,.int .i64 0],[]⟩).memory:=
 laidMet_of_run' 8 (by kernel_rfl) (by kernel_rfl)
theorem reads (os:Os) {H:Type} (enc:TypeId × Value->H):∃ places,DataW.whole enc Tryz.prog ((World.holding Tryz.prog os ⟨#[],#[],[]⟩).forCall (fun _ _=>0) ⟨#[],#[.agg #[.slice none 0 0,.int .i64 0,.int .i64 0,.int .i64 0,.int .i64 0,.slice none 0 0,.int .i64 0],.agg #[.slice none 0 0,.slice none 0 0,.slice none 0 0,.slice none 0 0,.slice none 0 0],.int .i64 0,.int .i64 0],[]⟩).memory Tryz.f9.params.toList Rows.heapGetsSpec.vars false (#[.agg #[.slice none 0 0,.int .i64 0,.int .i64 0,.int .i64 0,.int .i64 0,.slice none 0 0,.int .i64 0],.agg #[.slice none 0 0,.slice none 0 0,.slice none 0 0,.slice none 0 0,.slice none 0 0],.int .i64 0,.int .i64 0]:Array Value).toList 8 =some ([.agg [.nil,.lit (.int .i64 0),.lit (.int .i64 0),.lit (.int .i64 0),.lit (.int .i64 0),.nil,.lit (.int .i64 0)],.agg [.nil,.nil,.nil,.nil,.nil],.lit (.int .i64 0),.lit (.int .i64 0)],[],places):=
 ⟨[],by kernel_rfl⟩
set_option maxRecDepth 100000 in
theorem lifted (os:Os) (started:os.Started) (H:Type) (enc:TypeId × Value->H) (F:Stop.Interp) :
 ReturnsInHanded {} Tryz.checked os 9 .any ((OpenSpec.ofChange Rows.heapGetsSpec).preRow enc Tryz.prog Tryz.f9 Rows.heapGetsRow.domain false Rows.heapGetsRow.laid) (((OpenSpec.ofChange Rows.heapGetsSpec).at F).post enc Tryz.prog Tryz.f9 false true false false):=by
 obtain ⟨places,ai⟩:=reads os enc
 refine returnsInHanded_of_row (C:=Tryz.checked) (s:=OpenSpec.ofChange Rows.heapGetsSpec) own started (by kernel_rfl) Tryz.func9
  (witness_row_at (enc:=enc) (C:=Tryz.checked) false (World.holding Tryz.prog os ⟨#[],#[],[]⟩) #[.agg #[.slice none 0 0,.int .i64 0,.int .i64 0,.int .i64 0,.int .i64 0,.slice none 0 0,.int .i64 0],.agg #[.slice none 0 0,.slice none 0 0,.slice none 0 0,.slice none 0 0,.slice none 0 0],.int .i64 0,.int .i64 0] rfl (by kernel_rfl) (by kernel_rfl) (by kernel_rfl)
   (OpenSpec.preRow_of_cond 8 ai (by kernel_rfl) (fun k bf=>by cases bf) (by kernel_rfl) (aEF os))) ?_
 intro W base args ds gs before q3 jm _ aJH aBy _ _ _
 exact ajx H enc W base args ds gs before q3 jm (fun n af=>by obtain ⟨_,_,_,Ck,_,_,_⟩:=jm;obtain ⟨rfl,_⟩:=trodVars_none Ck;have adC:(DataW.weightsEach Tryz.prog (Tryz.f9.params.toList++[]) (ds++[])).all (· <=reachBytes)=true:=aBy;rw [List.append_nil,List.append_nil] at adC;exact of_decide_eq_true (List.all_eq_true.1 adC n af))
theorem said:Rows.HeapGetsSaid:=
 OpenClaim.holds_of_cond 9 Tryz.f9 rfl rfl rfl rfl rfl rfl rfl ⟨rfl,rfl,rfl,rfl,rfl⟩ rfl rfl rfl rfl rfl (by kernel_rfl) Tryz.func9 (by kernel_rfl)
  (of_decide_eq_true (by kernel_rfl)) (by unfold Func.isWrapper;first | (rw [if_pos (by decide +kernel)];kernel_rfl) | (rw [if_neg (by decide +kernel)];exact ⟨rfl,rfl⟩))
  (fun os started H enc _ F=>by rw [OpenClaim.pre_eq_preRow];exact lifted os started H enc F)
end Go.Proofs.YtpkhpagplommoaaGreat.heapGets
