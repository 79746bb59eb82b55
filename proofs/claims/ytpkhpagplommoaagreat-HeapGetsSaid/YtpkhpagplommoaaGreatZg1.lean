/- Part 1 of the proof that is ended in the last text: small logic, what the functions compute, walks, plain laws. -/
import Derived.WalkKit
import Derived.Deep.LoopGhost
import Derived.Deep.Quiet
import Derived.Maps.AppendAt
import Derived.KernelRfl
import Derived.Deep.RegionHeld3
import Derived.Laws.StructEq
import Derived.Carry
import Derived.ChangeSame
import Derived.OpenShut
import Derived.Deep.Slices
import Derived.Deep.Fields
import Derived.ChangeMaps5
import Derived.Lib.LaidTab
import Derived.OrdersHeld
import Derived.MapKept
import Derived.Laws.OwnMore
import Derived.Laws.IdiomStrings
import Derived.RangeFuncRecord
import Derived.RangeFuncSeq
import Derived.RangeFuncIn
import Derived.RangeFuncLeaves
import Derived.OrdersIn
import Derived.TacticsIn
import Derived.Deep.OwnRows
import Derived.Lib.AppendZeros
import Derived.Shelf.Spec.SlicesInsert
import Derived.Shelf.Spec.SlicesInsertGrow
import Derived.Test.YtpkhpagplommoaaGreatProg
namespace J
def ap (n:Int):Int:=(n+ 9223372036854775808) % 18446744073709551616 - 9223372036854775808
def nX (n:Int):Int:=n % 18446744073709551616
def WJ (a b:Int):Int:=ap ((BitVec.ofInt 64 a ||| BitVec.ofInt 64 b).toNat:Int)
def PC (a b:Int):Int:=ap ((BitVec.ofInt 64 a &&& BitVec.ofInt 64 b).toNat:Int)
def nT (a:Int) (n:Nat):Int:=a / 2 ^ n
def EH (n:Int):UInt8:=UInt8.ofNat (n % 256).toNat
def idx {α:Type} (l:List α) (i:Int):Option α:=if 0 <=i then l[i.toNat]? else none
def ep {α:Type} (bytes:Nat) (l m:List α):Option (List α):=if (l.length+m.length)*bytes<= 140737488355328 then some (l++m) else none
def bytesOf (s:List UInt8):Option (List UInt8):=if s.length<= 140737488355328 then some s else none
def Mc {α:Type} (z:α) (bytes:Nat) (n:Int):Option (List α):=if 0 <=n/\bytes*n.toNat<= 140737488355328 then some (List.replicate n.toNat z) else none
def EE {α:Type} (z:α) (bytes:Nat) (n:Int):Option (List α):=if 0 <n/\bytes*n.toNat<= 140737488355328 then some (List.replicate n.toNat z) else none
def LB (l:List Int) (n x:Int):Option (List Int):=if 0 <=n/\n<=l.length/\(l.length+ 1)* 8 <= 140737488355328 then some (l.take n.toNat++x::l.drop n.toNat) else none
def cut {α:Type} (l:List α) (i j:Int):Option (List α):=if 0 <=i/\i<=j/\j<=l.length then some ((l.take j.toNat).drop i.toNat) else none
theorem dj {α:Type} {b:Bool} {x y:Option α} {r:α} (a1:b=true) (h:cond b x y=some r):x=some r:=by subst a1;exact h
theorem di {α:Type} {b:Bool} {x y:Option α} {r:α} (a1:b=false) (h:cond b x y=some r):y=some r:=by subst a1;exact h
theorem aH {α β:Type} {o:Option α} {f:α->Option β} {r:β} (h:o.bind f=some r):∃ x,o=some x/\f x=some r:=by
 cases o with
 | none=>cases h
 | some x=>exact ⟨x,rfl,h⟩
theorem t' {α:Type} {l:List α} {i:Int} {d:α} (h:idx l i=some d):0 <=i/\i.toNat <l.length/\l[i.toNat]? =some d:=by
 unfold idx at h
 split at h
 · rename_i bJ
   exact ⟨bJ,(List.getElem?_eq_some_iff.1 h).1,h⟩
 · cases h
theorem ZO {α:Type} {bytes:Nat} {l m r:List α} (h:ep bytes l m=some r):(l.length+m.length)*bytes<= 140737488355328 /\r=l++m:=by
 unfold ep at h
 split at h
 · rename_i bJ;exact ⟨bJ,by simpa using h.symm⟩
 · cases h
theorem aE2 {α:Type} {z:α} {bytes:Nat} {n:Int} {r:List α} (h:Mc z bytes n=some r):0 <=n/\bytes*n.toNat<= 140737488355328 /\r=List.replicate n.toNat z:=by
 unfold Mc at h
 split at h
 · rename_i bJ;exact ⟨bJ.1,bJ.2,by simpa using h.symm⟩
 · cases h
theorem ahx {α:Type} {z:α} {bytes:Nat} {n:Int} {r:List α} (h:EE z bytes n=some r):0 <n/\bytes*n.toNat<= 140737488355328 /\r=List.replicate n.toNat z:=by
 unfold EE at h
 split at h
 · rename_i bJ;exact ⟨bJ.1,bJ.2,by simpa using h.symm⟩
 · cases h
theorem aEo {l r:List Int} {n x:Int} (h:LB l n x=some r):0 <=n/\n<=l.length/\(l.length+ 1)* 8 <= 140737488355328 /\r=l.take n.toNat++x::l.drop n.toNat:=by
 unfold LB at h
 split at h
 · rename_i bJ;exact ⟨bJ.1,bJ.2.1,bJ.2.2,by simpa using h.symm⟩
 · cases h
theorem ahz (n:Int):((EH n).toNat:Int)=n % 256 :=by
 unfold EH
 have bJ:0 <=n % 256 :=Int.emod_nonneg _ (by omega)
 have aC:n % 256 < 256 :=Int.emod_lt_of_pos _ (by omega)
 simp only [UInt8.toNat_ofNat']
 omega
end J
namespace J
end J
namespace J
section
variable {κ β:Type} [DecidableEq κ]
def dp:List (κ × β)->κ->Option β
 | [],_=>none
 | p::r,k=>if p.1 =k then some p.2 else dp r k
def hD:List (κ × β)->κ->β->List (κ × β)
 | [],k,v=>[(k,v)]
 | p::r,k,v=>if p.1 =k then (k,v)::r else p::hD r k v
def kC:List (κ × β)->κ->Option Nat
 | [],_=>none
 | p::r,k=>if p.1 =k then some 0 else (kC r k).map (· + 1)
end
end J
namespace J
inductive Way (ρ α:Type)
 | go (a:α)
 | out (r:ρ)
def dr {ρ α:Type} (x:Option (Way ρ α)) (k:α->Option ρ):Option ρ:=match x with
 | none=>none
 | some (.go a)=>k a
 | some (.out r)=>some r
def dY {ρ α β:Type} (x:Option (Way ρ α)) (k:α->Option (Way ρ β)):Option (Way ρ β):=match x with
 | none=>none
 | some (.go a)=>k a
 | some (.out r)=>some (.out r)
def dW {ρ α:Type} (k:α->Option ρ):Way ρ α->Option ρ
 | .go a=>k a
 | .out r=>some r
def eN {ρ α β:Type} (k:α->Option (Way ρ β)):Way ρ α->Option (Way ρ β)
 | .go a=>k a
 | .out r=>some (.out r)
theorem dZ {ρ α:Type} {x:Option (Way ρ α)} {k:α->Option ρ} {r:ρ} (h:dr x k=some r):∃ y,x=some y/\dW k y=some r:=by
 cases x with
 | none=>cases h
 | some y=>cases y <;> exact ⟨_,rfl,h⟩
theorem eT {ρ α β:Type} {x:Option (Way ρ α)} {k:α->Option (Way ρ β)} {r:Way ρ β} (h:dY x k=some r):∃ y,x=some y/\eN k y=some r:=by
 cases x with
 | none=>cases h
 | some y=>cases y <;> exact ⟨_,rfl,h⟩
@[simp] theorem qc {ρ α:Type} (a:α) (k:α->Option ρ):dr (some (.go a)) k=k a:=rfl
@[simp] theorem afF {ρ α:Type} (r:ρ) (k:α->Option ρ):dr (some (.out r)) k=some r:=rfl
@[simp] theorem nS {ρ α β:Type} (a:α) (k:α->Option (Way ρ β)):dY (some (.go a)) k=k a:=rfl
@[simp] theorem aJW {ρ α β:Type} (r:ρ) (k:α->Option (Way ρ β)):dY (some (.out r)) k=some (.out r):=rfl
end J
namespace J
end J
namespace aZ
open Go Go.RowKit
def fk:List (Nat × Value)->Nat->Option Value
 | [],_=>none
 | p::r,t=>match Nat.beq p.1 t with
   | true=>some p.2
   | false=>fk r t
structure g8 where
 n:Nat
 ds:List Deferred
instance:Coe g8 Nat:=⟨g8.n⟩
structure Fr (n:g8) (l:List (Nat × Value)) (a:Act):Prop where
 size:a.tmps.size=n.n
 defers:a.defers=n.ds
 get:∀ t v,fk l t=some v->a.tmps.getD t undef=v
theorem Fr.g {n:g8} {l:List (Nat × Value)} {a:Act} {t:Nat} {v:Value} (I:Fr n l a) (h:fk l t=some v):a.eval (.tmp t)=v:=I.get t v h
theorem Fr.put {n:g8} {d:Nat} {l:List (Nat × Value)} {a:Act} {v:Value} (I:Fr n l a) (bW:Nat.blt d n=true):Fr n ((d,v)::l) (a.put (some d) v):=by
 have ea:d <n:=Nat.le_of_ble_eq_true bW
 refine ⟨by simpa [Act.put] using I.size,I.defers,fun t u h=>?_⟩
 have a5:=I.size
 simp only [fk] at h
 cases a1:Nat.beq d t with
 | true=>
   rw [a1] at h
   simp only [Option.some.injEq] at h
   have e:d=t:=Nat.eq_of_beq_eq_true a1
   subst e;subst h
   simp [Act.put,a5,ea]
 | false=>
   rw [a1] at h
   have e:d≠t:=by intro e;subst e;simp at a1
   have:=I.get t u h
   simp only [Act.put,Array.getD_eq_getD_getElem?] at this ⊢
   rw [Array.getElem?_setIfInBounds,if_neg e]
   exact this
def Ik (l:List (Nat × Value)):List (Nat × Value)->Prop
 | []=>True
 | p::r=>fk l p.1 =some p.2 /\Ik l r
theorem aEQ {l l':List (Nat × Value)} (h:Ik l l'):∀ t v,fk l' t=some v->fk l t=some v:=by
 induction l' with
 | nil=>intro t v bO;simp [fk] at bO
 | cons p r cn=>
   intro t v bO
   simp only [fk] at bO
   cases a1:Nat.beq p.1 t with
   | true=>
     rw [a1] at bO
     have e:p.1 =t:=Nat.eq_of_beq_eq_true a1
     simp only [Option.some.injEq] at bO
     rw [<-e,<-bO];exact h.1
   | false=>rw [a1] at bO;exact cn h.2 t v bO
theorem Fr.sub {n:g8} {l l':List (Nat × Value)} {a:Act} (I:Fr n l a) (h:Ik l l'):Fr n l' a:=
 ⟨I.size,I.defers,fun t v bO=>I.get t v (aEQ h t v bO)⟩
def xc:Nat->List Value->List (Nat × Value)
 | _,[]=>[]
 | k,v::r=>(k,v)::xc (k+ 1) r
theorem aEP (vs:List Value):∀ k t v,fk (xc k vs) t=some v->k<=t/\vs[t - k]? =some v:=by
 induction vs with
 | nil=>intro k t v h;simp [xc,fk] at h
 | cons u r cn=>
   intro k t v h
   simp only [xc,fk] at h
   cases a1:Nat.beq k t with
   | true=>
     rw [a1] at h
     have e:k=t:=Nat.eq_of_beq_eq_true a1
     subst e
     simpa using h
   | false=>
     rw [a1] at h
     have e:k≠t:=by intro e;subst e;simp at a1
     obtain ⟨aC,aS⟩:=cn (k+ 1) t v h
     refine ⟨by omega,?_⟩
     have:t - k=(t - (k+ 1))+ 1 :=by omega
     rw [this];simpa using aS
theorem Fr.init (vs:List Value) (n:Nat) (h:Nat.ble vs.length n=true):Fr ⟨n,[]⟩ (xc 0 vs) { tmps:=vs.toArray++Array.replicate (n - vs.toArray.size) undef,defers:=[] }:=by
 have hle:vs.length<=n:=by simpa using h
 refine ⟨by simp;omega,rfl,fun t v bO=>?_⟩
 obtain ⟨_,aS⟩:=aEP vs 0 t v bO
 have ea:t <vs.length:=by
  rcases Nat.lt_or_ge t vs.length with h | h
  · exact h
  · rw [List.getElem?_eq_none (by simpa using h)] at aS;cases aS
 have bV:vs[t]? =some v:=by simpa using aS
 rw [Array.getD_eq_getD_getElem?]
 rw [List.getElem?_eq_getElem ea,Option.some.injEq] at bV
 simp [Array.getElem?_append,ea,bV]
theorem enter {P:Program} {f:FuncId} {fn:Func} {c:Code} {vs:List Value} {w:World} {R:Ending->World->Prop} {n:Nat}
 (I:P.funcs[f]? =some fn) (a1:fn.body=some c) (af:fn.ntmps=n) (ax:Nat.ble vs.length n=true)
 (h:∀ a,Fr ⟨n,[]⟩ (xc 0 vs) a->c.wp P (bodyPost P fn R) a w):Calls P f vs.toArray w R:=by
 refine calls_of_wp I a1 ?_
 rw [af]
 exact h _ (Fr.init vs n ax)
structure ba (M:List Nat) (w aF:World):Prop where
 os:aF.os=w.os
 tape:aF.tape=w.tape
 output:aF.output=w.output
 size:w.heap.size<=aF.heap.size
 block:∀ k,k <w.heap.size->k ∉ M->aF.heap[k]? =w.heap[k]?
theorem ba.refl (M:List Nat) (w:World):ba M w w:=⟨rfl,rfl,rfl,Nat.le_refl _,fun _ _ _=>rfl⟩
theorem ba.trans {M io:List Nat} {a b c:World} (h:ba M a b) (k:ba io b c) (hm:∀ x ∈ io,x ∈ M\/a.heap.size<=x):ba M a c:=
 ⟨k.os.trans h.os,k.tape.trans h.tape,k.output.trans h.output,Nat.le_trans h.size k.size,fun i hi af=>
   (k.block i (Nat.lt_of_lt_of_le hi h.size) (fun ai=>by rcases hm i ai with e | e;exact af e;omega)).trans (h.block i hi af)⟩
theorem ba.drew (M:List Nat) (w:World):ba M w w.drew:=⟨rfl,rfl,rfl,Nat.le_refl _,fun _ _ _=>rfl⟩
theorem ba.alloc (M:List Nat) (w:World) (o:Obj):ba M w (w.alloc o):=⟨rfl,rfl,rfl,by simp,fun k bf _=>Below.heap_alloc _ _ _ bf⟩
theorem ba.set (w:World) (a:Addr) (u:Value):ba [a.block] w (w.setCell a u):=
 ⟨rfl,rfl,rfl,by simp [World.setCell],fun k _ af=>Below.heap_setCell _ _ _ _ (by simpa using af)⟩
theorem ba.mono {M io:List Nat} {a b:World} (h:ba M a b) (hm:∀ x ∈ M,x ∈ io):ba io a b:=⟨h.os,h.tape,h.output,h.size,fun k bf af=>h.block k bf (fun ai=>af (hm k ai))⟩
theorem ba.grown {w aF:World} {row:Option Nat} (h:w.grownBy aF row):ba row.toList w aF:=
 ⟨h.os,h.tape,h.output,h.size,fun k bf af=>h.block k bf (fun e=>af (by rw [<-e];simp))⟩
theorem ba.below {w aF:World} (h:ba [] w aF):Below w.heap.size w aF:=⟨h.os,h.tape,h.output,h.size,fun k bf=>h.block k bf (by simp)⟩
structure aq where
 fE:List Nat
 ok:World->Prop
 law:∀ w aF,(∀ k ∈ fE,aF.heap[k]? =w.heap[k]?)->ok w->ok aF
structure al where
 ok:List Nat->World->Prop
 law:∀ M io w aF,ba M w aF->(∀ k ∈ io,k ∈ M\/w.heap.size<=k)->ok M w->ok io aF
def cL (E:List aq):List Nat:=E.flatMap aq.fE
structure ar (W:World) (M0 X:List Nat) (w:World) (E:List aq) (D:List al):Prop where
 ev:ba M0 W w
 lP:∀ k ∈ X,k <W.heap.size/\k ∉ M0
 lt:∀ k ∈ cL E,k <w.heap.size/\(k ∈ M0\/W.heap.size<=k)
 ok:∀ x ∈ E,x.ok w
 dO:(cL E).Nodup
 rd:∀ y ∈ D,y.ok (X++cL E) w
section
variable {W w aF:World} {M0 X:List Nat} {E:List aq} {D:List al}
theorem ar.dw (h:ar W M0 X w E D) (ad:ba [] w aF):ar W M0 X aF E D:=
 ⟨h.ev.trans ad (by simp),h.lP,fun k bf=>⟨Nat.lt_of_lt_of_le (h.lt k bf).1 ad.size,(h.lt k bf).2⟩,
  fun x ai=>x.law w aF (fun k bf=>ad.block k (h.lt k (List.mem_flatMap.2 ⟨x,ai,bf⟩)).1 (by simp)) (h.ok x ai),h.dO,
  fun y hy=>y.law (X++cL E) _ w aF (ad.mono (by simp)) (fun k bf=>.inl bf) (h.rd y hy)⟩
theorem ar.drew (h:ar W M0 X w E D):ar W M0 X w.drew E D:=h.dw (ba.drew _ _)
theorem ar.push (h:ar W M0 X w E D) (x:aq) (ad:ba [] w aF) (ai:x.ok aF) (I:∀ k ∈ x.fE,w.heap.size<=k/\k <aF.heap.size) (af:x.fE.Nodup):ar W M0 X aF (x::E) D:=by
 have aC:=h.dw ad
 refine ⟨aC.ev,h.lP,fun k bf=>?_,fun y hy=>?_,?_,fun y hy=>?_⟩
 · rcases List.mem_append.1 (by simpa [cL] using bf:k ∈ x.fE++cL E) with e | e
   · exact ⟨(I k e).2,.inr (Nat.le_trans h.ev.size (I k e).1)⟩
   · exact aC.lt k e
 · rcases List.mem_cons.1 hy with rfl | e
   · exact ai
   · exact aC.ok y e
 · have:cL (x::E)=x.fE++cL E:=by simp [cL]
   rw [this,List.nodup_append]
   refine ⟨af,h.dO,fun a bx b a1 e=>?_⟩
   subst e
   have:=(I a bx).1
   have:=(h.lt a a1).1
   omega
 · refine y.law (X++cL E) _ w aF (ad.mono (by simp)) (fun k bf=>?_) (h.rd y hy)
   have kb:k ∈ X++(x.fE++cL E):=by simpa [cL] using bf
   simp only [List.mem_append] at kb
   rcases kb with e | e | e
   · exact .inl (by simp [e])
   · exact .inr (I k e).1
   · exact .inl (by simp [e])
theorem ar.drop (h:ar W M0 X w E D) {lu:List aq} (a5:List.Sublist lu E):ar W M0 X w lu D:=by
 have I:List.Sublist (cL lu) (cL E):=by
  unfold cL
  clear h
  induction a5 with
  | slnil=>simp
  | cons a _ cn=>simpa using cn.trans (List.sublist_append_right _ _)
  | cons_cons a _ cn=>simpa using List.Sublist.append_left cn a.fE
 exact ⟨h.ev,h.lP,fun k bf=>h.lt k (I.subset bf),fun x ai=>h.ok x (a5.subset ai),h.dO.sublist I,
  fun y hy=>y.law (X++cL E) _ w w (ba.refl _ _) (fun k bf=>.inl (by rcases List.mem_append.1 bf with e | e;exact List.mem_append.2 (.inl e);exact List.mem_append.2 (.inr (I.subset e)))) (h.rd y hy)⟩
theorem ar.aGT (h:ar W M0 X w E D) {A B:List aq} {x qg:aq} (gl:E=A++x::B) (ad:ba x.fE w aF) (ai:qg.ok aF) (af:qg.fE.Nodup)
 (I:∀ k ∈ qg.fE,k ∈ x.fE\/(w.heap.size<=k/\k <aF.heap.size)):ar W M0 X aF (A++qg::B) D:=by
 subst gl
 have bM:cL (A++x::B)=cL A++(x.fE++cL B):=by simp [cL]
 have b7:cL (A++qg::B)=cL A++(qg.fE++cL B):=by simp [cL]
 have zK:=h.dO
 rw [bM,List.nodup_append,List.nodup_append] at zK
 obtain ⟨ajP,⟨abR,ajQ,abS⟩,Ql⟩:=zK
 have nB:∀ k ∈ x.fE,k <w.heap.size/\(k ∈ M0\/W.heap.size<=k):=fun k bf=>h.lt k (by rw [bM];simp [bf])
 refine ⟨h.ev.trans ad (fun k bf=>(nB k bf).2),h.lP,fun k bf=>?_,fun y hy=>?_,?_,fun y hy=>?_⟩
 · rw [b7] at bf
   simp only [List.mem_append] at bf
   rcases bf with bf | bf | bf
   · have:=h.lt k (by rw [bM];simp [bf]);exact ⟨Nat.lt_of_lt_of_le this.1 ad.size,this.2⟩
   · rcases I k bf with e | e
     · exact ⟨Nat.lt_of_lt_of_le (nB k e).1 ad.size,(nB k e).2⟩
     · exact ⟨e.2,.inr (Nat.le_trans h.ev.size e.1)⟩
   · have:=h.lt k (by rw [bM];simp [bf]);exact ⟨Nat.lt_of_lt_of_le this.1 ad.size,this.2⟩
 · have aeE:∀ z,z ∈ A\/z ∈ B->z.ok aF:=fun z cU=>by
    have adR:z ∈ A++x::B:=by rcases cU with e | e <;> simp [e]
    refine z.law w aF (fun k bf=>ad.block k (h.lt k (List.mem_flatMap.2 ⟨z,adR,bf⟩)).1 (fun Ll=>?_)) (h.ok z adR)
    rcases cU with e | e
    · exact Ql k (List.mem_flatMap.2 ⟨z,e,bf⟩) k (by simp [Ll]) rfl
    · exact abS k Ll k (List.mem_flatMap.2 ⟨z,e,bf⟩) rfl
   simp only [List.mem_append,List.mem_cons] at hy
   rcases hy with hy | rfl | hy
   · exact aeE y (.inl hy)
   · exact ai
   · exact aeE y (.inr hy)
 · rw [b7,List.nodup_append,List.nodup_append]
   have eZ:∀ k ∈ qg.fE,∀ b,(b ∈ cL A\/b ∈ cL B)->k≠b:=fun k bf b a1 e=>by
    subst e
    rcases I k bf with e | e
    · rcases a1 with a1 | a1
      · exact Ql k a1 k (by simp [e]) rfl
      · exact abS k e k a1 rfl
    · have:=(h.lt k (by rw [bM];rcases a1 with a1 | a1 <;> simp [a1])).1
      omega
   exact ⟨ajP,⟨af,ajQ,fun a bx b a1=>eZ a bx b (.inr a1)⟩,fun a bx b a1=>by
    rcases List.mem_append.1 a1 with a1 | a1
    · exact fun e=>eZ b a1 a (.inl bx) e.symm
    · exact Ql a bx b (by simp [a1])⟩
 · refine y.law (X++cL (A++x::B)) _ w aF (ad.mono (fun k bf=>by rw [bM];simp [bf])) (fun k bf=>?_) (h.rd y hy)
   rw [b7] at bf
   simp only [List.mem_append] at bf
   rcases bf with bf | bf | bf | bf
   · exact .inl (by simp [bf])
   · exact .inl (by rw [bM];simp [bf])
   · rcases I k bf with e | e
     · exact .inl (by rw [bM];simp [e])
     · exact .inr e.1
   · exact .inl (by rw [bM];simp [bf])
theorem ar.more (h:ar W M0 X w E D) {y:al} (hy:y.ok (X++cL E) w):ar W M0 X w E (y::D):=
 ⟨h.ev,h.lP,h.lt,h.ok,h.dO,fun z cU=>by rcases List.mem_cons.1 cU with rfl | e;exact hy;exact h.rd z e⟩
theorem ar.less (h:ar W M0 X w E D) {g7:List al} (a5:∀ y ∈ g7,y ∈ D):ar W M0 X w E g7:=⟨h.ev,h.lP,h.lt,h.ok,h.dO,fun y hy=>h.rd y (a5 y hy)⟩
theorem ar.e (h:ar W M0 X w E D) (i:Nat) {x:aq} (hi:E[i]? =some x):x.ok w:=h.ok x (List.mem_of_getElem? hi)
theorem ar.d (h:ar W M0 X w E D) (i:Nat) {y:al} (hi:D[i]? =some y):y.ok (X++cL E) w:=h.rd y (List.mem_of_getElem? hi)
theorem al.less {y:al} {M io:List Nat} (h:y.ok M w) (hm:∀ k ∈ io,k ∈ M):y.ok io w:=y.law M io w w (ba.refl _ _) (fun k bf=>.inl (hm k bf)) h
theorem ar.vf (h:ar W M0 X w E D) (i:Nat) {x qg:aq} (hi:E[i]? =some x) (ad:ba x.fE w aF) (ai:qg.ok aF) (af:qg.fE.Nodup)
 (I:∀ k ∈ qg.fE,k ∈ x.fE\/(w.heap.size<=k/\k <aF.heap.size)):ar W M0 X aF (E.set i qg) D:=by
 obtain ⟨ax,rfl⟩:=List.getElem?_eq_some_iff.1 hi
 have gl:E=E.take i++E[i]::E.drop (i+ 1):=by simp
 have:=h.aGT gl ad ai af I
 rwa [List.set_eq_take_append_cons_drop,if_pos ax]
end
end aZ
namespace aZ
open Go Go.RowKit J
abbrev ao (l:List UInt8):Value:=.string ⟨⟨l⟩⟩
structure fb (α:Type) where
 size:Nat
 rd:(Nat->Prop)->World->List Value->α->Prop
 len:∀ {F w cs d},rd F w cs d->cs.length=size
 one:∀ {F w cs d},rd F w cs d-> ∀ v ∈ cs,v.oneCell'=true
 law:∀ {F yY w aF cs d},(∀ k,F k->yY k/\aF.heap[k]? =w.heap[k]?)->rd F w cs d->rd yY aF cs d
def h9 (M:List Nat) (w:World):Nat->Prop:=fun k=>k ∉ M/\k <w.heap.size
def al.of {α:Type} (T:fb α) (cs:List Value) (d:α):al where
 ok M w:=T.rd (h9 M w) w cs d
 law M io w aF ad hm h:=T.law (fun k bf=>⟨⟨fun ai=>by rcases hm k ai with e | e;exact bf.1 e;exact absurd bf.2 (by omega),Nat.lt_of_lt_of_le bf.2 ad.size⟩,ad.block k bf.2 bf.1⟩) h
def ak (k:IntKind):fb Int where
 size:=1
 rd _ _ cs d:=cs= [.int k d]
 len h:=by subst h;rfl
 one h v ad:=by subst h;simp at ad;subst ad;rfl
 law _ h:=h
def M5:fb UInt8 where
 size:=1
 rd _ _ cs d:=cs= [.int .u8 (d.toNat:Int)]
 len h:=by subst h;rfl
 one h v ad:=by subst h;simp at ad;subst ad;rfl
 law _ h:=h
def aGU:fb Bool where
 size:=1
 rd _ _ cs d:=cs= [.bool d]
 len h:=by subst h;rfl
 one h v ad:=by subst h;simp at ad;subst ad;rfl
 law _ h:=h
def bE:fb (List UInt8) where
 size:=1
 rd _ _ cs d:=cs= [ao d]
 len h:=by subst h;rfl
 one h v ad:=by subst h;simp at ad;subst ad;rfl
 law _ h:=h
section
variable {α:Type} (T:fb α)
def fO (F:Nat->Prop) (w:World):List Value->List α->Prop
 | xs,[]=>xs= []
 | xs,d::r=>∃ cs ys,xs=cs++ys/\T.rd F w cs d/\fO F w ys r
theorem XG {F:Nat->Prop} {w:World}:∀ {l:List α} {xs:List Value},fO T F w xs l->xs.length=l.length*T.size
 | [],xs,h=>by simp only [fO] at h;subst h;simp
 | d::r,xs,h=>by
   obtain ⟨cs,ys,rfl,aC,aS⟩:=h
   rw [List.length_append,T.len aC,XG aS,List.length_cons,Nat.add_mul];omega
theorem afn {F:Nat->Prop} {w:World}:∀ {l:List α} {xs:List Value},fO T F w xs l-> ∀ v ∈ xs,v.oneCell'=true
 | [],xs,h=>by simp only [fO] at h;subst h;simp
 | d::r,xs,h=>by
   obtain ⟨cs,ys,rfl,aC,aS⟩:=h
   intro v ad
   rcases List.mem_append.1 ad with e | e
   · exact T.one aC v e
   · exact afn aS v e
theorem XF {F yY:Nat->Prop} {w aF:World} (bT:∀ k,F k->yY k/\aF.heap[k]? =w.heap[k]?):∀ {l:List α} {xs:List Value},fO T F w xs l->fO T yY aF xs l
 | [],xs,h=>h
 | d::r,xs,h=>by
   obtain ⟨cs,ys,rfl,aC,aS⟩:=h
   exact ⟨cs,ys,rfl,T.law bT aC,XF bT aS⟩
theorem afp {F:Nat->Prop} {w:World} {d:α} {cs:List Value} (bW:T.rd F w cs d):∀ {l:List α} {xs:List Value},fO T F w xs l->fO T F w (xs++cs) (l++[d])
 | [],xs,h=>by simp only [fO] at h;subst h;exact ⟨cs,[],by simp,bW,rfl⟩
 | e::r,xs,h=>by
   obtain ⟨c,ys,rfl,aC,aS⟩:=h
   exact ⟨c,ys++cs,by simp,aC,afp bW aS⟩
theorem afm {F:Nat->Prop} {w:World} {l':List α} {fD:List Value} (dK:fO T F w fD l'):∀ {l:List α} {xs:List Value},fO T F w xs l->fO T F w (xs++fD) (l++l')
 | [],xs,h=>by simp only [fO] at h;subst h;simpa using dK
 | e::r,xs,h=>by
   obtain ⟨c,ys,rfl,aC,aS⟩:=h
   exact ⟨c,ys++fD,by simp,aC,afm dK aS⟩
theorem XD {F:Nat->Prop} {w:World}:∀ {l:List α} {xs:List Value} {i:Nat} {d:α},fO T F w xs l->l[i]? =some d ->
 ∃ cs,T.rd F w cs d/\ ∀ j u,cs[j]? =some u->xs[i*T.size+j]? =some u
 | [],_,i,d,_,hi=>by simp at hi
 | e::r,xs,0,d,h,hi=>by
   obtain ⟨cs,ys,rfl,aC,_⟩:=h
   simp only [List.getElem?_cons_zero,Option.some.injEq] at hi
   subst hi
   refine ⟨cs,aC,fun j u bc=>?_⟩
   have ax:j <cs.length:=by
    rcases Nat.lt_or_ge j cs.length with h | h
    · exact h
    · rw [List.getElem?_eq_none h] at bc;cases bc
   simpa [List.getElem?_append,ax] using bc
 | e::r,xs,i+ 1,d,h,hi=>by
   obtain ⟨cs,ys,rfl,aC,aS⟩:=h
   obtain ⟨c,hc,bc⟩:=XD (i:=i) aS (by simpa using hi)
   refine ⟨c,hc,fun j u TN=>?_⟩
   have hlen:=T.len aC
   have bM:(i+ 1)*T.size+j=cs.length+(i*T.size+j):=by rw [Nat.add_mul];omega
   rw [bM,List.getElem?_append_right (by omega)]
   simpa using bc j u TN
def iM (w:World) (a:Addr) (xs:List Value):Prop:=∀ j u,xs[j]? =some u->w.cell? ⟨a.block,a.off+j,none⟩=some u
theorem iM.law {w aF:World} {a:Addr} {xs:List Value} (h:iM w a xs) (a1:aF.heap[a.block]? =w.heap[a.block]?):iM aF a xs:=
 fun j u bc=>(World.cell?_of_block (a:=⟨a.block,a.off+j,none⟩) a1).trans (h j u bc)
def bG (A:Option Addr):Nat:=(A.getD ⟨0,0,none⟩).block
def bH (A:Option Addr):Nat:=(A.getD ⟨0,0,none⟩).off
def aG:fb (List α) where
 size:=1
 rd F w cs l:=∃ A c,cs= [.slice A l.length c]/\l.length<=c/\c<=maxLen/\(A=none->c= 0) /\
  (l≠ []->A=some ⟨bG A,bH A,none⟩/\F (bG A)/\ ∃ xs,fO T F w xs l/\iM w ⟨bG A,bH A,none⟩ xs)
 len h:=by obtain ⟨A,c,rfl,_⟩:=h;rfl
 one h v ad:=by obtain ⟨A,c,rfl,_⟩:=h;simp at ad;subst ad;rfl
 law bT h:=by
  obtain ⟨A,c,aC,bV,er,iP,tA⟩:=h
  refine ⟨A,c,aC,bV,er,iP,fun ax=>?_⟩
  obtain ⟨bM,b7,xs,ez,hl⟩:=tA ax
  exact ⟨bM,(bT _ b7).1,xs,XF T bT ez,hl.law (bT _ b7).2⟩
theorem bX {F:Nat->Prop} {w:World} {A:Option Addr} {n c:Nat} {l:List α} {i:Int} {d:α} (h:(aG T).rd F w [.slice A n c] l) (hi:idx l i=some d) :
 A=some ⟨bG A,bH A,none⟩/\(0 <=i/\i <n)/\ ∃ cs,T.rd F w cs d/\iM w ⟨bG A,bH A+i.toNat*T.size,none⟩ cs:=by
 obtain ⟨bJ,aC,aS⟩:=t' hi
 obtain ⟨jx,dM,bM,ez,hl,j5,zk⟩:=h
 simp only [List.cons.injEq,Value.slice.injEq,and_true] at bM
 obtain ⟨rfl,rfl,rfl⟩:=bM
 obtain ⟨j7,kV,xs,zo,zp⟩:=zk (fun aza=>by rw [aza] at aC;simp at aC)
 obtain ⟨cs,hc,xp⟩:=XD T zo aS
 refine ⟨j7,⟨bJ,by omega⟩,cs,hc,fun j u bc=>?_⟩
 have:=zp (i.toNat*T.size+j) u (xp j u bc)
 simpa [Nat.add_assoc] using this
end
def aq.br (g:Nat) (t:TypeId) (cs:List Value):aq where
 fE:=[g]
 ok w:=w.heap[g]? =some (.cells cs.toArray t (0,0))
 law w aF h bf:=(h g (by simp)).trans bf
def aq.row {α:Type} (e:TypeId) (size:Nat) (v:Value) (l:List α) (xs:List Value):aq where
 fE:=v.ownBlock.toList
 ok w:=w.ownsRow 0 e size v l.length xs
 law w aF h bf:=by
  refine ⟨bf.1,?_⟩
  rcases bf.2 with af | ⟨g,cap,cur,rfl,a1,RU,rest⟩
  · exact .inl af
  · exact .inr ⟨g,cap,cur,rfl,a1,(h g (by simp [Value.ownBlock])).trans RU,rest⟩
def al.rows {α:Type} (T:fb α) (xs:List Value) (l:List α):al where
 ok M w:=fO T (h9 M w) w xs l
 law M io w aF ad hm h:=XF T (fun k bf=>⟨⟨fun ai=>by rcases hm k ai with e | e;exact bf.1 e;exact absurd bf.2 (by omega),Nat.lt_of_lt_of_le bf.2 ad.size⟩,ad.block k bf.2 bf.1⟩) h
theorem XN {α:Type} {w:World} {e:TypeId} {size:Nat} {v:Value} {l:List α} {xs:List Value} (h:(aq.row e size v l xs).ok w):∃ A c,v= .slice A l.length c/\l.length<=c/\c<=maxLen/\(A=none->c= 0)/\(A≠none->A=some ⟨bG A,0,none⟩):=by
 have dK:w.ownsRow 0 e size v l.length xs:=h
 rcases dK.2 with ⟨rfl,bJ⟩ | ⟨g,cap,cur,rfl,_,_,aC,aS,_⟩
 · exact ⟨none,0,by rw [bJ],by omega,Nat.zero_le _,fun _=>rfl,fun h=>absurd rfl h⟩
 · exact ⟨some ⟨g,0,none⟩,cap,rfl,aC,aS,(fun h=>by cases h),fun _=>rfl⟩
theorem aF9 {α:Type} {T:fb α} {M:List Nat} {w:World} {e:TypeId} {A:Option Addr} {n c:Nat} {l:List α} {xs:List Value} (h:(aq.row e T.size (.slice A n c) l xs).ok w) (bR:(al.rows T xs l).ok M w)
 (fi:∀ k ∈ (Value.slice A n c).ownBlock.toList,k ∉ M):(al.of (aG T) [.slice A n c] l).ok M w:=by
 have dK:w.ownsRow 0 e T.size (.slice A n c) l.length xs:=h
 have Hf:fO T (h9 M w) w xs l:=bR
 show (aG T).rd (h9 M w) w _ l
 rcases dK.2 with ⟨aC,bJ⟩ | ⟨g,cap,cur,aC,_,dd,hle,hm,a5,ai⟩
 · have ax:l= []:=List.eq_nil_of_length_eq_zero bJ
   simp only [Value.slice.injEq] at aC
   obtain ⟨rfl,rfl,rfl⟩:=aC
   subst ax
   exact ⟨none,0,rfl,by simp,Nat.zero_le _,fun _=>rfl,fun h=>absurd rfl h⟩
 · simp only [Value.slice.injEq] at aC
   obtain ⟨rfl,rfl,rfl⟩:=aC
   refine ⟨_,_,rfl,hle,hm,(fun h=>by cases h),fun _=>⟨rfl,⟨fi g (by simp [Value.ownBlock]),(Array.getElem?_eq_some_iff.1 dd).1⟩,xs,Hf,fun j u bc=>?_⟩⟩
   have oB:=dK.cells (g:=g) rfl j u bc
   simpa [Addr.add,bG,bH] using (by
    have e:(⟨g,0,none⟩:Addr).add j=⟨g,0 +j,none⟩:=by unfold Addr.add;split <;> simp_all
    rw [e] at oB;exact oB:w.cell? ⟨g,0 +j,none⟩=some u)
theorem BG {w:World} {g:Nat} {t:TypeId} {cs:List Value} (h:(aq.br g t cs).ok w) {j:Nat} {v:Value} (bc:cs[j]? =some v):w.cell? ⟨g,j,none⟩=some v:=by
 have dK:w.heap[g]? =some (.cells cs.toArray t (0,0)):=h
 simp [World.cell?,dK,bc]
theorem ZW {w:World} {g:Nat} {t:TypeId} {cs:List Value} (h:(aq.br g t cs).ok w) (j:Nat):w.frozen? ⟨g,j,none⟩=false:=by
 have dK:w.heap[g]? =some (.cells cs.toArray t (0,0)):=h
 simp [World.frozen?,dK]
theorem y_ {w:World} {g:Nat} {t:TypeId} {cs:List Value} (h:(aq.br g t cs).ok w):g <w.heap.size:=by
 have dK:w.heap[g]? =some (.cells cs.toArray t (0,0)):=h
 exact (Array.getElem?_eq_some_iff.1 dK).1
theorem ahB (w:World) (t:TypeId) (cs:List Value):(aq.br w.heap.size t cs).ok (w.alloc (.cells cs.toArray t)):=heap_alloc_new w _
def al.cM (g:Nat) (cs:List Value):al where
 ok M w:=g ∉ M/\g <w.heap.size/\iM w ⟨g,0,none⟩ cs
 law M io w aF ad hm h:=⟨fun ai=>by rcases hm g ai with e | e;exact h.1 e;exact absurd h.2.1 (by omega),Nat.lt_of_lt_of_le h.2.1 ad.size,h.2.2.law (ad.block g h.2.1 h.1)⟩
theorem lf {α:Type} (T:fb α) (M:List Nat) (w:World):(al.of (aG T) [.slice none 0 0] ([]:List α)).ok M w:=
 ⟨none,0,rfl,by simp,Nat.zero_le _,fun _=>rfl,fun h=>absurd rfl h⟩
def XU (cs:List Value):Nat->List Value->Prop
 | _,[]=>True
 | k,v::r=>cs[k]? =some v/\XU cs (k+ 1) r
theorem afN {cs:List Value}:∀ {k:Nat} {l:List Value},XU cs k l-> ∀ j u,l[j]? =some u->cs[k+j]? =some u
 | _,[],_,j,u,bc=>by simp at bc
 | k,v::r,h,0,u,bc=>by
   simp only [List.getElem?_cons_zero,Option.some.injEq] at bc
   subst bc;exact h.1
 | k,v::r,h,j+ 1,u,bc=>by
   have:=afN h.2 j u (by simpa using bc)
   rwa [Nat.add_assoc,Nat.add_comm 1 j] at this
theorem hK {w:World} {g:Nat} {t:TypeId} {cs l:List Value} (h:(aq.br g t cs).ok w) (k:Nat) (a5:XU cs k l):iM w ⟨g,k,none⟩ l:=fun j u bc=>BG h (afN a5 j u bc)
theorem fT {α:Type} {T:fb α} {F:Nat->Prop} {w:World} {cs:List Value} {l:List α} (h:(aG T).rd F w cs l):∃ A c,cs= [.slice A l.length c]:=by
 obtain ⟨A,c,aC,_⟩:=h
 exact ⟨A,c,aC⟩
theorem gN {α:Type} {T:fb α} {M:List Nat} {w:World} {e:TypeId} {A:Option Addr} {n c:Nat} {l:List α} {xs:List Value} {i:Int} {d:α} (h:(aq.row e T.size (.slice A n c) l xs).ok w) (bR:(al.rows T xs l).ok M w) (hi:idx l i=some d) :
 A=some ⟨bG A,bH A,none⟩/\(0 <=i/\i <n)/\ ∃ cs,T.rd (h9 M w) w cs d/\iM w ⟨bG A,bH A+i.toNat*T.size,none⟩ cs:=by
 obtain ⟨bJ,aC,aS⟩:=t' hi
 have dK:w.ownsRow 0 e T.size (.slice A n c) l.length xs:=h
 have Hf:fO T (h9 M w) w xs l:=bR
 rcases dK.2 with ⟨bM,iw⟩ | ⟨g,cap,cur,bM,_,dd,_⟩
 · omega
 · simp only [Value.slice.injEq] at bM
   obtain ⟨rfl,rfl,rfl⟩:=bM
   obtain ⟨cs,hc,xp⟩:=XD T Hf aS
   refine ⟨rfl,⟨bJ,by omega⟩,cs,hc,fun j u bc=>?_⟩
   have oB:=dK.cells (g:=g) rfl _ u (xp j u bc)
   have b7:(⟨g,0,none⟩:Addr).add (i.toNat*T.size+j)=⟨g,0 +(i.toNat*T.size+j),none⟩:=by unfold Addr.add;split <;> simp_all
   rw [b7] at oB
   show w.cell? ⟨g,0 +i.toNat*T.size+j,none⟩=some u
   rw [Nat.add_assoc];exact oB
end aZ
namespace aZ
open Go Go.RowKit J
theorem aeI (p q:List UInt8):(p == q)=decide (p=q):=by
 rw [Bool.eq_iff_iff];simp
section
variable {P:Program} {o:Oper} {a:Act} {w:World}
abbrev cf (P:Program) (o:Oper) (a:Act) (w:World) (v:Value) (aF:World):Prop:=(execOp a.eval o).run P w= .ok (.value v) aF
abbrev wK (P:Program) (o:Oper) (a:Act) (w:World) (aF:World):Prop:=(execOp a.eval o).run P w= .ok .skip aF
theorem aIh {x:Operand} {v:Value} (bm:o.op= .move x) (ai:a.eval x=v):cf P o a w v w:=by
 simp only [cf,execOp,bm,ai];rfl
theorem aHV {x:Operand} {v:Value} (bm:o.op= .assign x) (ai:a.eval x=v):cf P o a w v w:=by
 simp only [cf,execOp,bm,ai];rfl
theorem agT {c x y:Operand} {v:Value} (bm:o.op= .pick c x y) (hc:a.eval c= .bool true) (ai:a.eval x=v):cf P o a w v w:=by
 simp only [cf,execOp,bm,hc,ai];rfl
theorem agS {c x y:Operand} {v:Value} (bm:o.op= .pick c x y) (hc:a.eval c= .bool false) (hy:a.eval y=v):cf P o a w v w:=by
 simp only [cf,execOp,bm,hc,hy];rfl
section
variable {x y:Operand} {t ef:TypeId} {k:IntKind} {m n:Int}
theorem aHR (bm:o.op= .binOp .add t x y ef) (ai:a.eval x= .int k m) (hy:a.eval y= .int k n):cf P o a w (.int k (k.wrap (m+n))) w:=by
 simp only [cf,execOp,bm,ai,hy]
 simp [go_sem]
theorem aIu (bm:o.op= .binOp .sub t x y ef) (ai:a.eval x= .int k m) (hy:a.eval y= .int k n):cf P o a w (.int k (k.wrap (m - n))) w:=by
 simp only [cf,execOp,bm,ai,hy]
 simp [go_sem]
theorem aIi (bm:o.op= .binOp .mul t x y ef) (ai:a.eval x= .int k m) (hy:a.eval y= .int k n):cf P o a w (.int k (k.wrap (m*n))) w:=by
 simp only [cf,execOp,bm,ai,hy]
 simp [go_sem]
theorem aIq (bm:o.op= .binOp .quo t x y ef) (ai:a.eval x= .int k m) (hy:a.eval y= .int k n) (bJ:n≠ 0):cf P o a w (.int k (k.wrap (m.tdiv n))) w:=by
 simp only [cf,execOp,bm,ai,hy]
 simp [go_sem,bJ]
theorem aIe (bm:o.op= .binOp .lss t x y ef) (ai:a.eval x= .int k m) (hy:a.eval y= .int k n):cf P o a w (.bool (decide (m <n))) w:=by
 simp only [cf,execOp,bm,ai,hy]
 simp [go_sem]
theorem aIb (bm:o.op= .binOp .leq t x y ef) (ai:a.eval x= .int k m) (hy:a.eval y= .int k n):cf P o a w (.bool (decide (m<=n))) w:=by
 simp only [cf,execOp,bm,ai,hy]
 simp [go_sem]
theorem aH8 (bm:o.op= .binOp .gtr t x y ef) (ai:a.eval x= .int k m) (hy:a.eval y= .int k n):cf P o a w (.bool (decide (n <m))) w:=by
 simp only [cf,execOp,bm,ai,hy]
 simp [go_sem]
theorem aH7 (bm:o.op= .binOp .geq t x y ef) (ai:a.eval x= .int k m) (hy:a.eval y= .int k n):cf P o a w (.bool (decide (n<=m))) w:=by
 simp only [cf,execOp,bm,ai,hy]
 simp [go_sem]
theorem aH3 (bO:P.underlying t=some (.int k)) (bm:o.op= .binOp .eql t x y ef) (ai:a.eval x= .int k m) (hy:a.eval y= .int k n):cf P o a w (.bool (decide (m=n))) w:=by
 have:=run_underlying (P:=P) bO
 simp only [cf,execOp,bm,ai,hy]
 simp [go_sem,this]
 rfl
theorem aIl (bO:P.underlying t=some (.int k)) (bm:o.op= .binOp .neq t x y ef) (ai:a.eval x= .int k m) (hy:a.eval y= .int k n):cf P o a w (.bool (!decide (m=n))) w:=by
 have:=run_underlying (P:=P) bO
 simp only [cf,execOp,bm,ai,hy]
 simp [go_sem,this]
 rfl
end
section
variable {x y:Operand} {t ef:TypeId} {p q:Bool}
theorem aGi (bO:P.underlying t=some .bool) (p q:Bool) (w:World):(binOp .eql t (.bool p) (.bool q)).run P w= .ok (.bool (p == q)) w:=by
 have h:∀ d:Nat,(Op.equalIn (d+ 1) t (.bool p) (.bool q)).run P w= .ok (p == q) w:=fun d=>by
  simp [Op.equalIn,run_underlying bO]
 simp only [binOp]
 simp [Op.equal,Op.maxDepth,h 9999]
theorem aGj (bO:P.underlying t=some .bool) (p q:Bool) (w:World):(binOp .neq t (.bool p) (.bool q)).run P w= .ok (.bool (!(p == q))) w:=by
 have h:∀ d:Nat,(Op.equalIn (d+ 1) t (.bool p) (.bool q)).run P w= .ok (p == q) w:=fun d=>by
  simp [Op.equalIn,run_underlying bO]
 simp only [binOp]
 simp [Op.equal,Op.maxDepth,h 9999]
theorem aH1 (bO:P.underlying t=some .bool) (bm:o.op= .binOp .eql t x y ef) (ai:a.eval x= .bool p) (hy:a.eval y= .bool q):cf P o a w (.bool (p == q)) w:=by
 simp only [cf,execOp,bm,ai,hy]
 simp [go_sem,aGi bO]
theorem aIk (bO:P.underlying t=some .bool) (bm:o.op= .binOp .neq t x y ef) (ai:a.eval x= .bool p) (hy:a.eval y= .bool q):cf P o a w (.bool (!(p == q))) w:=by
 simp only [cf,execOp,bm,ai,hy]
 simp [go_sem,aGj bO]
theorem aIo (bm:o.op= .unOp .not t x) (ai:a.eval x= .bool p):cf P o a w (.bool (!p)) w:=by
 simp only [cf,execOp,bm,ai]
 simp [go_sem]
end
section
variable {x y:Operand} {t ef:TypeId} {p q:List UInt8}
theorem aH4 (bO:P.underlying t=some .string) (bm:o.op= .binOp .eql t x y ef) (ai:a.eval x=ao p) (hy:a.eval y=ao q):cf P o a w (.bool (decide (p=q))) w:=by
 have:=run_underlying (P:=P) bO
 simp only [cf,execOp,bm,ai,hy]
 simp [go_sem,this]
 exact aeI p q
theorem aIm (bO:P.underlying t=some .string) (bm:o.op= .binOp .neq t x y ef) (ai:a.eval x=ao p) (hy:a.eval y=ao q):cf P o a w (.bool (!decide (p=q))) w:=by
 have:=run_underlying (P:=P) bO
 simp only [cf,execOp,bm,ai,hy]
 simp [go_sem,this]
 exact aeI p q
theorem aIa {kT:TypeId} (bO:P.underlying kT=some .string) (bm:o.op= .call { callee:=.builtin .len,args:=#[x],argTypes:=#[kT] }) (ai:a.eval x=ao p):cf P o a w (.int .i64 p.length) w:=by
 simp only [cf,execOp,bm,resolve,invoke,List.map_toArray,List.map_cons,List.map_nil,ai]
 simp [go_sem,Builtin.len_,run_underlying bO,goInt]
theorem aH' {kT:TypeId} {A:Option Addr} {n c:Nat} {e:TypeId} (bO:P.underlying kT=some (.slice e)) (bm:o.op= .call { callee:=.builtin .len,args:=#[x],argTypes:=#[kT] }) (ai:a.eval x= .slice A n c):cf P o a w (.int .i64 n) w:=by
 simp only [cf,execOp,bm,resolve,invoke,List.map_toArray,List.map_cons,List.map_nil,ai]
 simp [go_sem,Builtin.len_,run_underlying bO,goInt]
theorem aH9 {i:Nat} {b:UInt8} (bO:P.underlying t=some .string) (bm:o.op= .index t x y) (ai:a.eval x=ao p) (hy:a.eval y= .int .i64 i) (a1:p[i]? =some b):cf P o a w (.int .u8 b.toNat) w:=by
 simp only [cf,execOp,bm,ai,hy]
 obtain ⟨aC,aS⟩:=List.getElem?_eq_some_iff.1 a1
 have e:(⟨⟨p⟩⟩:ByteArray)[i]? =some b:=by
  show (if h:i <_ then some _ else none)=_
  rw [dif_pos (show i <(⟨⟨p⟩⟩:ByteArray).size from aC)]
  exact congrArg some aS
 simp [go_sem,Instr.index,run_underlying bO,e]
theorem OZ {k k':IntKind} {n:Int} (bO:P.underlying t=some (.int k)) (oG:P.underlying ef=some (.int k')) (bm:o.op= .convert t ef x) (ai:a.eval x= .int k n):cf P o a w (.int k' (k'.wrap n)) w:=by
 simp only [cf,execOp,bm,ai]
 simp [go_sem,convert,run_underlying bO,run_underlying oG]
end
end
theorem yx (n:Int):IntKind.i64.wrap n=ap n:=by rw [IntKind.wrap_i64];rfl
theorem aGY (n:Int):IntKind.u8.wrap n=((EH n).toNat:Int):=by rw [ahz,IntKind.wrap_u8]
section
variable {P:Program} {o:Oper} {a:Act} {w:World} {x y:Operand} {t ef:TypeId} {m n:Int}
theorem aHS (bm:o.op= .binOp .add t x y ef) (ai:a.eval x= .int .i64 m) (hy:a.eval y= .int .i64 n):cf P o a w (.int .i64 (ap (m+n))) w:=by rw [<-yx];exact aHR bm ai hy
theorem aIv (bm:o.op= .binOp .sub t x y ef) (ai:a.eval x= .int .i64 m) (hy:a.eval y= .int .i64 n):cf P o a w (.int .i64 (ap (m - n))) w:=by rw [<-yx];exact aIu bm ai hy
theorem aIj (bm:o.op= .binOp .mul t x y ef) (ai:a.eval x= .int .i64 m) (hy:a.eval y= .int .i64 n):cf P o a w (.int .i64 (ap (m*n))) w:=by rw [<-yx];exact aIi bm ai hy
theorem aIs (bm:o.op= .binOp .rem t x y ef) (ai:a.eval x= .int .i64 m) (hy:a.eval y= .int .i64 n) (bJ:(!decide (n= 0))=true):cf P o a w (.int .i64 (m.tmod n)) w:=by
 have bJ:n≠ 0 :=by simpa using bJ
 simp only [cf,execOp,bm,ai,hy]
 simp [go_sem,bJ]
theorem aIr (bm:o.op= .binOp .quo t x y ef) (ai:a.eval x= .int .i64 m) (hy:a.eval y= .int .i64 n) (bJ:(!decide (n= 0))=true):cf P o a w (.int .i64 (ap (m.tdiv n))) w:=by rw [<-yx];exact aIq bm ai hy (by simpa using bJ)
theorem aHX (bO:P.underlying t=some (.int .i64)) (oG:P.underlying ef=some (.int .i64)) (bm:o.op= .convert t ef x) (ai:a.eval x= .int .i64 m):cf P o a w (.int .i64 (ap m)) w:=by
 have h:=OZ (P:=P) (w:=w) bO oG bm ai
 rwa [yx] at h
theorem aHZ (bO:P.underlying t=some (.int .i64)) (oG:P.underlying ef=some (.int .u8)) (bm:o.op= .convert t ef x) (ai:a.eval x= .int .i64 m):cf P o a w (.int .u8 ((EH m).toNat:Int)) w:=by
 have h:=OZ (P:=P) (w:=w) bO oG bm ai
 rwa [aGY] at h
theorem cW (a:Act) (v:Value):a.eval (.const v)=v:=rfl
theorem abV (a:Act) (g:Nat):a.eval (.global g)= .pointer (some ⟨g,0,none⟩):=rfl
theorem aH5 {vs:List Value} {i:Nat} {v:Value} (bm:o.op= .extract x i) (ai:a.eval x= .tuple vs.toArray) (ad:vs[i]? =some v):cf P o a w v w:=by
 simp only [cf,execOp,bm,ai]
 simp [go_sem,Instr.extract,ad]
theorem aIn {p:Addr} (bm:o.op= .nilCheck x) (ai:a.eval x= .pointer (some p)):cf P o a w (.pointer (some p)) w:=by
 simp only [cf,execOp,bm,ai]
 rfl
end
end aZ
namespace aZ
open Go Go.RowKit J
theorem qC (b o n:Nat):(⟨b,o,none⟩:Addr).add n=⟨b,o+n,none⟩:=by
 unfold Addr.add;split <;> simp_all
section
variable {P:Program} {o:Oper} {a:Act} {w:World} {x y:Operand} {t e s:TypeId}
theorem aH_ {i:Int} {b:UInt8} {p:List UInt8} (bO:P.underlying t=some .string) (bm:o.op= .index t x y) (ai:a.eval x=ao p) (hy:a.eval y= .int .i64 i) (a1:idx p i=some b):cf P o a w (.int .u8 b.toNat) w:=by
 obtain ⟨bJ,aC,aS⟩:=t' a1
 obtain ⟨n,rfl⟩:=Int.eq_ofNat_of_zero_le bJ
 exact aH9 bO bm ai hy (by simpa using aS)
theorem bF {A:Option Addr} {n c sz:Nat} {i:Int} (bO:P.underlying t=some (.slice e)) (a5:∀ w,(Go.sizeOf e).run P w= .ok sz w)
 (bm:o.op= .indexAddr t x y) (ai:a.eval x= .slice A n c) (hy:a.eval y= .int .i64 i) (gI:A=some ⟨bG A,bH A,none⟩) (hi:0 <=i/\i <n) :
 cf P o a w (.pointer (some ⟨bG A,bH A+i.toNat*sz,none⟩)) w:=by
 obtain ⟨bJ,aC⟩:=hi
 obtain ⟨k,rfl⟩:=Int.eq_ofNat_of_zero_le bJ
 have ea:k <n:=by omega
 rw [gI] at ai
 simp only [cf,execOp,bm,ai,hy]
 simp [go_sem,Instr.indexAt,run_underlying bO,ea,a5,qC]
theorem aH6 {gH:Array Field} {f:Field} {j b p sz:Nat} (bO:P.underlying s=some (.struct gH)) (I:gH[j]? =some f) (a5:∀ w,(Go.sizeOf f.type).run P w= .ok sz w) (bJ:Nat.beq sz 0 =false)
 (bm:o.op= .fieldAddr s x j) (ai:a.eval x= .pointer (some ⟨b,p,none⟩)):cf P o a w (.pointer (some ⟨b,p+f.offset,none⟩)) w:=by
 have akJ:sz≠ 0 :=by intro e;subst e;simp at bJ
 simp only [cf,execOp,bm,ai]
 simp [go_sem,Instr.fieldAt,run_underlying bO,I,fieldPlace,a5,akJ,qC]
theorem aIc {b p:Nat} {v:Value} (dd:∀ w,(isAgg t).run P w= .ok false w) (bm:o.op= .load t x) (ai:a.eval x= .pointer (some ⟨b,p,none⟩)) (hc:w.cell? ⟨b,p,none⟩=some v):cf P o a w v w:=by
 simp only [cf,execOp,bm,ai]
 simp [go_sem,Instr.loadAt,loadVar,dd,hc]
theorem aId {b p sz:Nat} {cs:List Value} (dd:∀ w,(isAgg t).run P w= .ok true w) (a5:∀ w,(Go.sizeOf t).run P w= .ok sz w) (ax:cs.length=sz) (bm:o.op= .load t x)
 (ai:a.eval x= .pointer (some ⟨b,p,none⟩)) (hc:iM w ⟨b,p,none⟩ cs):cf P o a w (.agg cs.toArray) w:=by
 have h:=run_loadCells_list (P:=P) w ⟨b,p,none⟩ cs (fun j u bc=>by rw [qC];exact hc j u bc)
 rw [ax] at h
 unfold loadCells at h
 simp only [cf,execOp,bm,ai]
 simp [go_sem,Instr.loadAt,loadVar,dd,a5,h]
theorem ei {v:Value} {cs:List Value} (ad:v.cells=cs.toArray) (bm:o.op= .box t x) (ai:a.eval x=v):cf P o a w (.pointer (some ⟨w.heap.size,0,none⟩)) (w.alloc (.cells cs.toArray t)):=by
 have q2:=ad
 unfold Value.cells at q2
 simp only [cf,execOp,bm,ai]
 simp [go_sem,Instr.box,newVar,newRow,q2]
theorem eQ {z:Value} {cs:List Value} (cU:∀ w,(zeroValue t).run P w= .ok z w) (ad:z.cells=cs.toArray) (bm:o.op= .alloc t):cf P o a w (.pointer (some ⟨w.heap.size,0,none⟩)) (w.alloc (.cells cs.toArray t)):=by
 have q2:=ad
 unfold Value.cells at q2
 simp only [cf,execOp,bm]
 simp [go_sem,Instr.alloc,newVar,newRow,cU,q2]
end
def lay:List Value->Nat->List Value->List Value
 | l,0,cs=>cs++l.drop cs.length
 | [],_+ 1,_=>[]
 | u::l,n+ 1,cs=>u::lay l n cs
theorem Wt:∀ (l:List Value) (n:Nat) (cs:List Value),n+cs.length<=l.length->lay l n cs=l.take n++cs++l.drop (n+cs.length)
 | l,0,cs,_=>by simp [lay]
 | [],n+ 1,cs,h=>by simp at h
 | u::l,n+ 1,cs,h=>by
   have:=Wt l n cs (by simp at h;omega)
   simp only [lay,this,List.take_succ_cons,List.cons_append]
   have e:n+ 1 +cs.length=(n+cs.length)+ 1 :=by omega
   rw [e,List.drop_succ_cons]
section
variable {P:Program} {o:Oper} {a:Act} {w:World} {x y:Operand} {t e s:TypeId}
theorem agU {g p sz:Nat} {o4:TypeId} {cs vs:List Value} {v:Value} (ad:v.cells=vs.toArray) (a5:∀ w,(Go.sizeOf t).run P w= .ok sz w) (ax:Nat.beq vs.length sz=true) (aC:vs.all (·.oneCell')=true)
 (hle:Nat.ble (p+vs.length) cs.length=true) (a1:(aq.br g o4 cs).ok w) (bm:o.op= .store t x y) (ai:a.eval x= .pointer (some ⟨g,p,none⟩)) (hy:a.eval y=v) :
 ∃ aF,wK P o a w aF/\ba [g] w aF/\(aq.br g o4 (lay cs p vs)).ok aF:=by
 have iA:w.heap[g]? =some (.cells cs.toArray o4 (0,0)):=a1
 have hlen:vs.length=sz:=Nat.eq_of_beq_eq_true ax
 have Ln:p+vs.length<=cs.length:=Nat.le_of_ble_eq_true hle
 have h:=run_storeCells_at P g p o4 vs 0 cs.toArray w iA (by simpa using Ln) (fun u hu=>List.all_eq_true.1 aC u hu)
 simp only [Nat.add_zero] at h
 refine ⟨w.setRow g (lay cs p vs).toArray,?_,?_,?_⟩
 · simp only [wK,execOp,bm,ai,hy]
   rw [Wt _ _ _ Ln]
   simp only [List.append_assoc,hlen] at h
   have q2:=ad
   unfold Value.cells at q2
   simp [go_sem,Instr.storeAt,storeVar,a5,q2,hlen,h]
 · refine ⟨rfl,rfl,rfl,by simp [World.setRow],fun k _ af=>?_⟩
   simp only [World.setRow,Array.getElem?_modify]
   rw [if_neg (by simpa [eq_comm] using af)]
 · show (w.setRow g _).heap[g]? =_
   simp [World.setRow,Array.getElem?_modify,iA]
end
section
variable {P:Program} {o:Oper} {a:Act} {w:World} {x y:Operand} {t e:TypeId}
def KK (a:Act):List (Nat × Operand)->List (Nat × Value)->Prop
 | [],[]=>True
 | (i,x)::xs,(j,v)::vs=>(a.eval x=v/\i=j)/\KK a xs vs
 | _,_=>False
theorem Qq:∀ {xs:List (Nat × Operand)} {vs:List (Nat × Value)},KK a xs vs->xs.map (fun p=>(p.1,a.eval p.2))=vs
 | [],[],_=>rfl
 | (i,x)::xs,(j,v)::vs,h=>by
   obtain ⟨⟨aC,rfl⟩,aS⟩:=h
   rw [List.map_cons,Qq aS,aC]
def placesOf (P:Program) (t:TypeId):Sem (Array (Nat × Nat)):=(match P.underlying t with | some (.struct gH)=>gH | _=>#[]).mapM fun (f:Field)=>do pure (f.offset,<-Go.sizeOf f.type)
theorem gG {z:Value} {gH:Array Field} {pl:Array (Nat × Nat)} {xs:List (Nat × Operand)} {vs:List (Nat × Value)} {cs:List Value} (cU:∀ w,(zeroValue t).run P w= .ok z w) (hu:P.underlying t=some (.struct gH))
 (b5:∀ w,(placesOf P t).run P w= .ok pl w) (bm:o.op= .build t xs.toArray) (ai:KK a xs vs) (RJ:Instr.fill (fun i=>pl[i]?) z.cells vs=some cs.toArray):cf P o a w (.agg cs.toArray) w:=by
 have xC:=b5 w
 simp only [placesOf,hu] at xC
 have aC:=Qq ai
 simp only [cf,execOp,bm,Instr.build,Sem.run_bind,cU,Result.andThen_ok,run_underlying hu,xC,List.map_toArray]
 have e:(xs.map fun (i,x)=>(i,a.eval x))=vs:=aC
 simp only [e,RJ]
 rfl
theorem fU {z:Value} {sz n:Nat} {xs:List (Nat × Operand)} {vs:List (Nat × Value)} {cs:List Value} (hu:P.underlying t=some (.slice e)) (a5:∀ w,(Go.sizeOf e).run P w= .ok sz w) (cU:∀ w,(zeroValue e).run P w= .ok z w)
 (hle:Nat.ble (n*sz) 16777216 =true) (eZ:Nat.beq (n*sz) 0 =false) (bm:o.op= .buildSlice t n xs.toArray) (ai:KK a xs vs)
 (RJ:Instr.fill (fun i=>some (i*sz,sz)) ((Array.range (n*sz)).map (z.cells[· % z.cells.size]!)) vs=some cs.toArray) :
 cf P o a w (.slice (some ⟨w.heap.size,0,none⟩) n n) (w.alloc (.cells cs.toArray e)):=by
 have aC:=Qq ai
 have bM:(xs.map fun (i,x)=>(i,a.eval x))=vs:=aC
 have aS: ¬ (n*sz > 2 ^ 24):=by have:=Nat.le_of_ble_eq_true hle;omega
 have bV:n*sz≠ 0 :=by intro bJ;rw [bJ] at eZ;simp at eZ
 simp only [cf,execOp,bm,Instr.buildSlice,Sem.run_bind,Sem.run_pure,a5,cU,Result.andThen_ok,run_underlying hu,List.map_toArray,bM,if_neg aS,if_neg bV,RJ]
 rfl
theorem aIp {ef:TypeId} {m n:Int} (bm:o.op= .binOp .or t x y ef) (ai:a.eval x= .int .i64 m) (hy:a.eval y= .int .i64 n):cf P o a w (.int .i64 (WJ m n)) w:=by
 unfold WJ
 rw [<-yx]
 simp only [cf,execOp,bm,ai,hy]
 rfl
theorem aHT {ef:TypeId} {m n:Int} (bm:o.op= .binOp .and t x y ef) (ai:a.eval x= .int .i64 m) (hy:a.eval y= .int .i64 n):cf P o a w (.int .i64 (PC m n)) w:=by
 unfold PC
 rw [<-yx]
 simp only [cf,execOp,bm,ai,hy]
 rfl
end
end aZ
namespace aZ
open Go Go.RowKit J
section
variable {P:Program} {ops:Array Oper} {Q:Exit->Act->World->Prop} {a:Act} {w aF:World} {rest:List Oper} {o:Oper} {n:g8} {d:Nat} {l:List (Nat × Value)} {v:Value}
theorem Dn (dd:o.guard=none):Region.wanted o (yielded ops a.tmps)=true:=by simp [Region.wanted,dd]
theorem bQ (hw:Region.wanted o (yielded ops a.tmps)=true) (hy:cf P o a w v aF) (I:Fr n l a) (bW:o.dst=some d) (af:Nat.blt d n=true) (k:∀ bL,Fr n ((d,v)::l) bL->wpList P ops Q rest bL aF):wpList P ops Q (o::rest) a w:=by
 refine wpList_step fun K hn=>?_
 rw [if_pos hw]
 unfold Oper.wp
 rw [show (execOp a.eval o).run P w=_ from hy]
 show K (a.put o.dst v) aF
 rw [bW]
 exact hn _ _ (k _ (I.put af))
theorem M1 (hw:Region.wanted o (yielded ops a.tmps)=true) (hy:wK P o a w aF) (bW:o.dst=none) (k:wpList P ops Q rest a aF):wpList P ops Q (o::rest) a w:=by
 refine wpList_step fun K hn=>?_
 rw [if_pos hw]
 unfold Oper.wp
 rw [show (execOp a.eval o).run P w=_ from hy]
 show K (a.put o.dst undef) aF
 rw [bW]
 exact hn _ _ k
theorem cV {j dO:Nat} {b:Bool} (I:Fr n l a) (dd:o.guard=some (j,b)) (bc:(ops[j]?).bind (·.dst)=some dO) (ax:fk l dO=some (.bool b)) (af:Nat.blt dO n=true):Region.wanted o (yielded ops a.tmps)=true:=by
 have ea:dO <n:=Nat.le_of_ble_eq_true af
 have h:=I.get dO _ ax
 have a5:=I.size
 have aS:a.tmps[dO]? =some (.bool b):=by
  rw [Array.getElem?_eq_getElem (by omega)]
  simpa [Array.getD_eq_getD_getElem?,a5,ea] using h
 simp [Region.wanted,dd,yielded,bc,aS]
theorem aG3 {j dO:Nat} {b td:Bool} (I:Fr n l a) (dd:o.guard=some (j,b)) (bc:(ops[j]?).bind (·.dst)=some dO) (ax:fk l dO=some (.bool td)) (eZ:(td == b)=false) (af:Nat.blt dO n=true):Region.wanted o (yielded ops a.tmps)=false:=by
 have ea:dO <n:=Nat.le_of_ble_eq_true af
 have h:=I.get dO _ ax
 have a5:=I.size
 have aS:a.tmps[dO]? =some (.bool td):=by
  rw [Array.getElem?_eq_getElem (by omega)]
  simpa [Array.getD_eq_getD_getElem?,a5,ea] using h
 simpa [Region.wanted,dd,yielded,bc,aS] using eZ
theorem aG4 {j dO:Nat} {b:Bool} (I:Fr n l a) (dd:o.guard=some (j,b)) (bc:(ops[j]?).bind (·.dst)=some dO) (ax:fk l dO=some undef) (af:Nat.blt dO n=true):Region.wanted o (yielded ops a.tmps)=false:=by
 have ea:dO <n:=Nat.le_of_ble_eq_true af
 have h:=I.get dO _ ax
 have a5:=I.size
 have aS:a.tmps[dO]? =some undef:=by
  rw [Array.getElem?_eq_getElem (by omega)]
  simpa [Array.getD_eq_getD_getElem?,a5,ea] using h
 simp [Region.wanted,dd,yielded,bc,aS,undef]
def xi (a:Act):List Operand->List Value->Prop
 | [],[]=>True
 | x::xs,v::vs=>a.eval x=v/\xi a xs vs
 | _,_=>False
theorem KM:∀ {xs:List Operand} {vs:List Value},xi a xs vs->xs.map a.eval=vs
 | [],[],_=>rfl
 | x::xs,v::vs,h=>by rw [List.map_cons,h.1,KM h.2]
theorem aG9 {f:FuncId} {xs:List Operand} {kT:Array TypeId} {vs:List Value} {R:Ending->World->Prop} {K:Act->World->Prop}
 (bm:o.op= .call { callee:=.value (.func f),args:=xs.toArray,argTypes:=kT }) (zH:∀ args w,(callFunc f args).run P w= .ok (.enter f args) w)
 (hs:xi a xs vs) (hc:Calls P f vs.toArray w R) (k:∀ e aF,R e aF-> ∃ v,e= .returned v/\K (a.put o.dst v) aF):o.wp P a w K Q:=by
 unfold Oper.wp
 have e:(execOp a.eval o).run P w= .ok (.enter f vs.toArray) w:=by
  have aC:=KM hs
  simp only [execOp,bm,resolve,List.map_toArray,aC]
  simp [go_sem,Act.eval,Deferred.ofValue,invoke,zH]
 rw [e]
 exact hc.mono fun e aF bR=>by
  obtain ⟨v,rfl,bf⟩:=k e aF bR
  exact bf
theorem bP {f:FuncId} {xs:List Operand} {kT:Array TypeId} {vs:List Value} {R:Ending->World->Prop} (hw:Region.wanted o (yielded ops a.tmps)=true)
 (bm:o.op= .call { callee:=.value (.func f),args:=xs.toArray,argTypes:=kT }) (zH:∀ args w,(callFunc f args).run P w= .ok (.enter f args) w)
 (hs:xi a xs vs) (hc:Calls P f vs.toArray w R) (I:Fr n l a) (bW:o.dst=some d) (af:Nat.blt d n=true)
 (k:∀ e aF,R e aF-> ∃ v,e= .returned v/\ ∀ bL,Fr n ((d,v)::l) bL->wpList P ops Q rest bL aF):wpList P ops Q (o::rest) a w:=by
 refine wpList_step fun K hn=>?_
 rw [if_pos hw]
 refine aG9 bm zH hs hc fun e aF bR=>?_
 obtain ⟨v,he,bf⟩:=k e aF bR
 rw [bW]
 exact ⟨v,he,hn _ _ (bf _ (I.put af))⟩
end
section
variable {P:Program} {Q:Exit->Act->World->Prop} {a:Act} {w:World}
theorem cw {c:Code} (n5:Nat->Act->World->Prop) (k:Nat) (h:n5 k a w) (bJ:∀ a w,¬ n5 0 a w)
 (round:∀ k a w,n5 (k+ 1) a w-> ∀ K:Act->World->Prop,(∀ a w,n5 k a w->K a w)->c.wp P (Exit.then K Q) a w):(Code.loop c).wp P Q a w:=
 wp_loop_ghost n5 k h fun m a w Ch=>by
  cases m with
  | zero=>exact absurd Ch (bJ a w)
  | succ m=>exact round m a w Ch _ fun bL aF dK=>⟨m,Nat.lt_succ_self m,dK⟩
theorem w9 {x y:Code} (lv:Act->World->Prop) (ai:∀ K:Act->World->Prop,(∀ a w,lv a w->K a w)->x.wp P (Exit.then K Q) a w) (hy:∀ a w,lv a w->y.wp P Q a w):(Code.seq x y).wp P Q a w:=
 wp_seq (ai _ hy)
theorem AA {fn:Func} {R:Ending->World->Prop} {n:Nat} {l:List (Nat × Value)} (bR:fn.results= #[]) (I:Fr ⟨n,[]⟩ l a) (h:R (.returned (.tuple #[])) w):bodyPost P fn R .ret a w:=
 ⟨I.defers,_,results_none bR _ _ _,h⟩
theorem bq {fn:Func} {R:Ending->World->Prop} {n:Nat} {t:Nat} {l:List (Nat × Value)} {v:Value} (bR:fn.results= #[.tmp t]) (I:Fr ⟨n,[]⟩ l a) (ax:fk l t=some v) (h:R (.returned v) w):bodyPost P fn R .ret a w:=
 ⟨I.defers,_,results_tmp bR _ _ _,by rw [I.get _ _ ax];exact h⟩
theorem gD {fn:Func} {R:Ending->World->Prop} {n:Nat} {t u:Nat} {l:List (Nat × Value)} {v rz:Value} (bR:fn.results= #[.tmp t,.tmp u]) (I:Fr ⟨n,[]⟩ l a) (ax:fk l t=some v) (pq:fk l u=some rz)
 (h:R (.returned (.tuple #[v,rz])) w):bodyPost P fn R .ret a w:=
 ⟨I.defers,_,results_tmp2 bR _ _ _,by rw [I.get _ _ ax,I.get _ _ pq];exact h⟩
def afv (P:Program) (a:Act) (w:World):ResultVar->Value->Prop
 | .tmp t,v=>a.tmps.getD t undef=v
 | .cell ch ty,v=>∃ b p,a.tmps.getD ch undef= .pointer (some ⟨b,p,none⟩) /\
  ((∃ cs:List Value,(∀ w,(isAgg ty).run P w= .ok true w)/\(∀ w,(Go.sizeOf ty).run P w= .ok cs.length w)/\iM w ⟨b,p,none⟩ cs/\v= .agg cs.toArray) \/
   ((∀ w,(isAgg ty).run P w= .ok false w)/\w.cell? ⟨b,p,none⟩=some v))
def XL (P:Program) (a:Act) (w:World):List ResultVar->List Value->Prop
 | [],[]=>True
 | r::u9,v::vs=>afv P a w r v/\XL P a w u9 vs
 | _,_=>False
def pack:List Value->Value
 | [v]=>v
 | vs=>.tuple vs.toArray
def MO (a:Act):ResultVar->Sem Value
 | .tmp t=>pure (a.tmps.getD t undef)
 | .cell ch t=>do loadVar t (<-asAddr (a.tmps.getD ch undef))
theorem aGk {r:ResultVar} {v:Value} (h:afv P a w r v):(MO a r).run P w= .ok v w:=by
 cases r with
 | tmp t=>exact congrArg (fun x=>Result.ok x w) h
 | cell ch ty=>
   obtain ⟨b,p,aC,aS⟩:=h
   simp only [MO,aC]
   rcases aS with ⟨cs,dd,a5,hc,rfl⟩ | ⟨dd,hc⟩
   · have ax:=run_loadCells_list (P:=P) w ⟨b,p,none⟩ cs (fun j u bc=>by rw [qC];exact hc j u bc)
     unfold loadCells at ax
     simp [go_sem,loadVar,asAddr,dd,a5,ax]
   · simp [go_sem,loadVar,asAddr,dd,hc]
theorem afz:∀ {u9:List ResultVar} {vs:List Value},XL P a w u9 vs->(u9.mapM (MO a)).run P w= .ok vs w
 | [],[],_=>rfl
 | r::u9,v::vs,h=>by
   have aC:=aGk h.1
   have aS:=afz h.2
   rw [List.mapM_cons]
   simp only [Sem.run_bind,aC,aS,Result.andThen_ok]
   rfl
theorem hh {fn:Func} {R:Ending->World->Prop} {n:Nat} {l:List (Nat × Value)} {u9:List ResultVar} {vs:List Value} (bR:fn.results=u9.toArray) (I:Fr ⟨n,[]⟩ l a) (ad:XL P a w u9 vs)
 (h:R (.returned (pack vs)) w):bodyPost P fn R .ret a w:=by
 refine ⟨I.defers,pack vs,?_,h⟩
 have aC:=afz ad
 unfold results
 have e:(fun x=>match x with | .tmp t=>pure (a.tmps.getD t undef) | .cell ch t=>do loadVar t (<-asAddr (a.tmps.getD ch undef)):ResultVar->Sem Value)=MO a:=by
  funext x;cases x <;> rfl
 rw [bR,List.mapM_toArray]
 simp only [Sem.run_bind]
 show Result.andThen (((List.toArray <$> u9.mapM (fun x=>match x with | .tmp t=>pure (a.tmps.getD t undef) | .cell ch t=>do loadVar t (<-asAddr (a.tmps.getD ch undef)):ResultVar->Sem Value))).run P w) _=_
 rw [e,map_eq_pure_bind,Sem.run_bind,aC]
 match vs with
 | []=>rfl
 | [v]=>rfl
 | v::u::r=>rfl
end
section
variable {P:Program} {ops:Array Oper} {Q:Exit->Act->World->Prop} {a:Act} {w:World} {rest:List Oper} {o:Oper} {n:g8} {d:Nat} {l:List (Nat × Value)}
 {W:World} {M0 X:List Nat} {E:List aq} {D:List al}
theorem ar.new (hm:ar W M0 X w E D) (t:TypeId) (cs:List Value):ar W M0 X (w.alloc (.cells cs.toArray t)) (aq.br w.heap.size t cs::E) D:=
 hm.push _ (ba.alloc _ _ _) (ahB w t cs) (fun k bf=>by simp [aq.br] at bf;subst bf;exact ⟨Nat.le_refl _,by simp⟩) (by simp [aq.br])
theorem cX {g p sz:Nat} {t o4:TypeId} {x y:Operand} {cs vs:List Value} {v:Value} (i:Nat) (hm:ar W M0 X w E D) (hi:E[i]? =some (aq.br g o4 cs)) (hw:Region.wanted o (yielded ops a.tmps)=true)
 (ad:v.cells=vs.toArray) (a5:∀ w,(Go.sizeOf t).run P w= .ok sz w) (ax:Nat.beq vs.length sz=true) (aC:vs.all (·.oneCell')=true) (hle:Nat.ble (p+vs.length) cs.length=true)
 (bm:o.op= .store t x y) (ai:a.eval x= .pointer (some ⟨g,p,none⟩)) (hy:a.eval y=v) (bW:o.dst=none)
 (k:∀ aF,ar W M0 X aF (E.set i (aq.br g o4 (lay cs p vs))) D->wpList P ops Q rest a aF):wpList P ops Q (o::rest) a w:=by
 obtain ⟨aF,aC,aS,bV⟩:=agU ad a5 ax aC hle (hm.e i hi) bm ai hy
 exact M1 hw aC bW (k aF (hm.vf i hi aS bV (by simp [aq.br]) (fun k bf=>.inl bf)))
theorem ar.cO {α:Type} (hm:ar W M0 X w E D) (e:TypeId) (size:Nat):ar W M0 X w (aq.row e size (.slice none 0 0) ([]:List α) []::E) D:=
 hm.push _ (ba.refl _ _) (World.ownsRow_nil w 0 e size) (fun k bf=>by simp [aq.row,Value.ownBlock] at bf) (by simp [aq.row,Value.ownBlock])
theorem WI (o:Option Nat):o.toList.Nodup:=by cases o <;> simp
theorem adX {e:TypeId} {z:Value} {sz bytes:Nat} (h:(P.info? e).map (fun i=>(i.zero,i.size,i.bytes))=some (some z,sz,bytes)):∃ i,P.info? e=some i/\i.zero=some z/\i.size=sz/\i.bytes=bytes:=by
 cases hi:P.info? e with
 | none=>rw [hi] at h;cases h
 | some i=>
   rw [hi] at h
   simp only [Option.map_some,Option.some.injEq,Prod.mk.injEq] at h
   exact ⟨i,rfl,h.1,h.2.1,h.2.2⟩
end
end aZ
namespace aZ
open Go Go.RowKit J
section
variable {P:Program} {ops:Array Oper} {C:World->Prop} {ng:Act->Prop} {a:Act} {w:World} {rest:List Oper} {o:Oper} {n:g8} {d:Nat} {l:List (Nat × Value)} {v:Value}
theorem ek (hw:Region.wanted o (yielded ops a.tmps)=true) (hy:∀ w,C w->cf P o a w v w) (I:Fr n l a) (bW:o.dst=some d) (af:Nat.blt d n=true) (k:∀ bL,Fr n ((d,v)::l) bL->wpQuiet P ops C ng rest bL):wpQuiet P ops C ng (o::rest) a:=by
 unfold wpQuiet
 rw [if_pos hw]
 refine ⟨v,fun w hc=>?_,?_⟩
 · unfold Oper.quietAt
   rw [show (execOp a.eval o).run P w=_ from hy w hc]
   exact ⟨rfl,rfl⟩
 · rw [bW];exact k _ (I.put af)
theorem hA {id:Nat} {Q:Exit->Act->World->Prop} {l:List Oper} (hm:P.follows .mixedOrders=true) (iQ:Region.lexB .any l.toArray=true)
 (h:wpQuiet P l.toArray (fun aF=>ba [] w aF) (fun a=>∀ aF,ba [] w aF->Q .normal a aF) l a):(Code.region id l.toArray true).wp P Q a w:=
 wp_region_quiet (C:=fun aF=>ba [] w aF) hm iQ (ba.drew [] w) (by
  refine Eq.mp ?_ h
  rw [List.toList_toArray]) |> fun h=>wp_mono h (fun e a w q=>q)
end
theorem akd {w aF:World} {p:Addr} {v:Value} (h:ba [] w aF) (hc:w.cell? p=some v):aF.cell? p=some v:=
 (World.cell?_of_block (h.block p.block (World.block_lt_of_cell? w p hc) (by simp))).trans hc
theorem b2 {w aF:World} {p:Addr} {cs:List Value} (h:ba [] w aF) (hc:iM w p cs):iM aF p cs:=fun j u bc=>akd h (hc j u bc)
section
variable {P:Program} {Q:Exit->Act->World->Prop} {K:Act->World->Prop} {a:Act} {w:World}
theorem bz {i:Nat} (h:Q (.exit i) a w):Exit.then K Q (.exit i) a w:=h
theorem cr {i:Nat} (h:Q .normal a w):Exit.inBlock i Q (.exit i) a w:=by simpa [Exit.inBlock] using h
theorem aHa {i j:Nat} (a1:Nat.beq j i=false) (h:Q (.exit j) a w):Exit.inBlock i Q (.exit j) a w:=by
 have:j≠i:=by intro e;subst e;simp at a1
 simpa [Exit.inBlock,this] using h
theorem aj (h:Q .ret a w):Exit.then K Q .ret a w:=h
theorem a8 {i:Nat} (h:Q .ret a w):Exit.inBlock i Q .ret a w:=h
theorem ca {id:Nat} {c:Code} (lv:Act->World->Prop) (ai:∀ K:Act->World->Prop,(∀ a w,lv a w->K a w)->c.wp P (Exit.inBlock id (Exit.then K Q)) a w) (hy:∀ a w,lv a w->Q .normal a w):(Code.block id c).wp P Q a w:=by
 refine wp_block (wp_mono (ai _ hy) ?_)
 intro e a w h
 cases e with
 | exit i=>
   by_cases hi:i=id
   · simpa [Exit.inBlock,Exit.then,hi] using h
   · simpa [Exit.inBlock,Exit.then,hi] using h
 | _=>exact h
theorem aY {id:Nat} {l:List Oper} (h:wpList P l.toArray Q l a w):(Code.region id l.toArray false).wp P Q a w:=wp_region_lit h
theorem eG {c:Operand} {x y:Code} {b:Bool} (hc:a.eval c= .bool b) (a1:b=true) (h:x.wp P Q a w):(Code.cond c x y).wp P Q a w:=wp_cond_true (by rw [hc,a1]) h
theorem hW {c:Operand} {x y:Code} {b:Bool} (hc:a.eval c= .bool b) (a1:b=false) (h:y.wp P Q a w):(Code.cond c x y).wp P Q a w:=wp_cond_false (by rw [hc,a1]) h
end
section
variable {W w:World} {M0 X:List Nat} {E:List aq} {D:List al}
def Mk (D:List al):List al->Prop
 | []=>True
 | y::r=>(∃ i:Nat,D[i]? =some y)/\Mk D r
theorem ae_ {D:List al}:∀ {g7:List al},Mk D g7-> ∀ y ∈ g7,y ∈ D
 | [],_,y,hy=>by simp at hy
 | z::r,h,y,hy=>by
   rcases List.mem_cons.1 hy with rfl | e
   · obtain ⟨i,hi⟩:=h.1;exact List.mem_of_getElem? hi
   · exact ae_ h.2 y e
theorem ar.pick (h:ar W M0 X w E D) {g7:List al} (a5:Mk D g7):ar W M0 X w E g7:=h.less (ae_ a5)
theorem ar.Fw (h:ar W M0 X w E D) (i:Nat):ar W M0 X w (E.eraseIdx i) D:=h.drop (List.eraseIdx_sublist E i)
theorem ar.freeze {α:Type} {T:fb α} {e:TypeId} {A:Option Addr} {n c:Nat} {l:List α} {xs:List Value} (h:ar W M0 X w E D) (i j:Nat) (hi:E[i]? =some (aq.row e T.size (.slice A n c) l xs)) (bc:D[j]? =some (al.rows T xs l)) :
 ar W M0 X w (E.eraseIdx i) (al.of (aG T) [.slice A n c] l::D):=by
 have aC:=h.Fw i
 refine aC.more (aF9 (h.e i hi) (aC.d j bc) ?_)
 intro k bf kb
 rcases List.mem_append.1 kb with bM | bM
 · have ea:=h.lP k bM
   rcases (h.lt k (List.mem_flatMap.2 ⟨_,List.mem_of_getElem? hi,bf⟩)).2 with b7 | b7
   · exact ea.2 b7
   · omega
 · obtain ⟨ax,ai⟩:=List.getElem?_eq_some_iff.1 hi
   have gl:E=E.take i++E[i]::E.drop (i+ 1):=by simp
   have bW:=h.dO
   rw [gl,ai] at bW
   have b7:cL (E.take i++aq.row e T.size (.slice A n c) l xs::E.drop (i+ 1))=cL (E.take i)++((aq.row e T.size (.slice A n c) l xs).fE++cL (E.drop (i+ 1))):=by simp [cL]
   rw [b7,List.nodup_append,List.nodup_append] at bW
   rw [List.eraseIdx_eq_take_drop_succ] at bM
   rcases List.mem_append.1 (by simpa [cL] using bM:k ∈ cL (E.take i)++cL (E.drop (i+ 1))) with ez | ez
   · exact bW.2.2 k ez k (List.mem_append.2 (.inl bf)) rfl
   · exact bW.2.1.2.2 k bf k ez rfl
theorem ar.lB {g:Nat} {t:TypeId} {cs:List Value} (h:ar W M0 X w E D) (i:Nat) (hi:E[i]? =some (aq.br g t cs)):ar W M0 X w (E.eraseIdx i) (al.cM g cs::D):=by
 have aC:=h.Fw i
 refine aC.more ⟨?_,y_ (h.e i hi),fun j u bc=>?_⟩
 · intro kb
   have bf:g ∈ (aq.br g t cs).fE:=by simp [aq.br]
   rcases List.mem_append.1 kb with bM | bM
   · have ea:=h.lP g bM
     rcases (h.lt g (List.mem_flatMap.2 ⟨_,List.mem_of_getElem? hi,bf⟩)).2 with b7 | b7
     · exact ea.2 b7
     · omega
   · obtain ⟨ax,ai⟩:=List.getElem?_eq_some_iff.1 hi
     have gl:E=E.take i++E[i]::E.drop (i+ 1):=by simp
     have bW:=h.dO
     rw [gl,ai] at bW
     have b7:cL (E.take i++aq.br g t cs::E.drop (i+ 1))=cL (E.take i)++((aq.br g t cs).fE++cL (E.drop (i+ 1))):=by simp [cL]
     rw [b7,List.nodup_append,List.nodup_append] at bW
     rw [List.eraseIdx_eq_take_drop_succ] at bM
     rcases List.mem_append.1 (by simpa [cL] using bM:g ∈ cL (E.take i)++cL (E.drop (i+ 1))) with ez | ez
     · exact bW.2.2 g ez g (List.mem_append.2 (.inl bf)) rfl
     · exact bW.2.1.2.2 g bf g ez rfl
 · have:=BG (h.e i hi) bc
   simpa using this
end
end aZ
namespace aZ
open Go Go.RowKit J
def ht (n:Nat):List Nat->Array Bool
 | []=>Array.replicate n false
 | i::d=>(ht n d).setIfInBounds i true
def Bv (K:Act->World->Prop) (Q:Exit->Act->World->Prop):Exit->Act->World->Prop
 | .normal,a,w=>K a w
 | e,a,w=>Q e a w
section
variable {P:Program} {ops:Array Oper} {Q:Exit->Act->World->Prop} {a:Act} {w:World} {o:Oper} {n:g8} {f d i:Nat} {ds:List Nat} {l:List (Nat × Value)} {v:Value}
def M2 (ops:Array Oper) (ds:List Nat) (i:Nat):Bool:=Region.noSelect ops && Region.free .any ops (ht ops.size ds) i && (Region.ready .any ops (ht ops.size ds)).contains i
theorem aG8 {K:Act->World->Prop} {Q:Exit->Act->World->Prop} (h:o.wp P a w K (Bv K Q)):o.wp P a w K Q:=by
 unfold Oper.wp at *
 generalize (execOp a.eval o).run P w=r at *
 cases r with
 | ok n aF=>
   cases n <;> simp only [Oper.upon] at h ⊢ <;>
    first
     | exact h
     | exact Calls.mono h (fun e af1 he=>by cases e <;> first | exact he | exact he)
 | halt x aF=>cases x <;> simp only [Oper.upon] at h ⊢ <;> exact h
theorem X7 {K:Act->World->Prop} (hi:ops[i]? =some o) (h:wpList P ops (Bv K (NoPanic Q)) [o] a w):wpOp P ops (NoPanic Q) i K a w:=by
 unfold wpOp
 simp only [hi]
 unfold wpList at h
 split at h
 · rename_i hw
   rw [if_pos hw]
   rcases h with h | ⟨aC,aS⟩
   · exact .inl (aG8 h)
   · exact .inr ⟨aC,aS.elim fun a h=>h.elim fun w h=>⟨a,w,h⟩⟩
 · rename_i hw
   rw [if_neg hw]
   exact h
end
section
variable {P:Program} {o:Oper} {a:Act} {w:World} {t ef:TypeId} {x y:Operand} {gH:Array Field} {xs ys:Array Value} {b:Bool}
theorem aH2 (bO:P.underlying t=some (.struct gH)) (b5:P.stoodInHeld t=false) (hm:P.eqGuardType P.depth t=false)
 (bR:(Op.eqFields 9999 xs ys gH.toList).run P w= .ok b w) (bm:o.op= .binOp .eql t x y ef) (ai:a.eval x= .agg xs) (hy:a.eval y= .agg ys):cf P o a w (.bool b) w:=by
 have I:P.fieldsOf t=gH:=by simp [Program.fieldsOf,bO]
 have h:=run_equalIn_struct (P:=P) w 9999 t xs ys (by rw [I];exact bO) b5
 rw [I,bR] at h
 have h:(Op.equalIn 10000 t (Value.agg xs) (Value.agg ys)).run P w= .ok b w:=h
 simp only [cf,execOp,bm,ai,hy]
 simp [go_sem,Op.equal,Op.maxDepth,h,run_eqGuard_agg w _ _ _ _ _ _ hm]
theorem O1 (bO:P.underlying t=some (.struct gH)) (b5:P.stoodInHeld t=false) (hm:P.eqGuardType P.depth t=false)
 (bR:(Op.eqFields 9999 xs ys gH.toList).run P w= .ok b w) (bm:o.op= .binOp .neq t x y ef) (ai:a.eval x= .agg xs) (hy:a.eval y= .agg ys):cf P o a w (.bool (!b)) w:=by
 have I:P.fieldsOf t=gH:=by simp [Program.fieldsOf,bO]
 have h:=run_equalIn_struct (P:=P) w 9999 t xs ys (by rw [I];exact bO) b5
 rw [I,bR] at h
 have h:(Op.equalIn 10000 t (Value.agg xs) (Value.agg ys)).run P w= .ok b w:=h
 simp only [cf,execOp,bm,ai,hy]
 simp [go_sem,Op.equal,Op.maxDepth,h,run_eqGuard_agg w _ _ _ _ _ _ hm]
theorem Ca {d:Nat}:(Op.eqFields d xs ys []).run P w= .ok true w:=rfl
theorem xd {d:Nat} {f:Field} {l:List Field} {k:IntKind} {m n:Int} {e:Prop} [Decidable e] (af:(f.name != "_")=true) (hu:P.underlying f.type=some (.int k)) (dd:∀ w,(isAgg f.type).run P w= .ok false w)
 (ai:xs[f.offset]? =some (.int k m)) (hy:ys[f.offset]? =some (.int k n)) (h:(Op.eqFields (d+ 1) xs ys l).run P w= .ok (decide e) w):(Op.eqFields (d+ 1) xs ys (f::l)).run P w= .ok (decide (m=n/\e)) w:=by
 have zW:f.name≠ "_" :=by simpa using af
 simp only [Op.eqFields,zW,if_true,ne_eq,not_false_iff,part,Sem.run_bind,dd,Result.andThen_ok,ai,hy,Bool.false_eq_true,if_false,Sem.run_pure,run_equalIn_int w d f.type k k m n hu]
 by_cases tW:m=n
 · subst tW;simp [h]
 · simp [tW,show (m == n)=false from by simpa using tW]
end
end aZ
namespace aZ
open Go Go.RowKit Go.ChangeShapes Go.WideShapes Go.Deep J
section
variable {H:Type} {enc:TypeId × Value->H} {P:Program}
theorem aby (ax:laidOutB P=true) {W j2:World} {g5:Nat->Bool}:∀ {vd:List TypeId} {vs:List Value} {ds:List (DataW H)} {ri:List MemPlace},DataW.TrodAll enc P W 0 (fun _=>true) true vd vs ds ri ->
 (vd.all fun t=>P.readableRec t && Nat.blt t P.types.size)=true->(∀ p ∈ ri,W.sameAt j2 p)->(∀ p ∈ ri,g5 p.block=true)->DataW.TrodAll enc P j2 0 g5 true vd vs ds ri
 | [],vs,ds,ri,h,_,_,_=>by obtain ⟨rfl,rfl,rfl⟩:=trodAll_nil h;exact trodAll_mk0
 | t::vd,vs,ds,ri,h,bR,a5,b5=>by
   obtain ⟨v,aJX,d,aJd,p,q,rfl,rfl,rfl,bJ,aC⟩:=trodAll_cons h
   simp only [List.all_cons,Bool.and_eq_true] at bR
   exact trodAll_cons_mk (WideElems.Trod_stays ax bR.1.1 (Nat.le_of_ble_eq_true bR.1.2) bJ (fun x ai=>a5 x (List.mem_append_left _ ai)) (fun x ai=>b5 x (List.mem_append_left _ ai)))
    (aby ax aC bR.2 (fun x ai=>a5 x (List.mem_append_right _ ai)) (fun x ai=>b5 x (List.mem_append_right _ ai)))
theorem aFs {f:Func} {s:ChangeSpec} {W j2:World} {args:Array Value} {ds gs:List (DataW H)} {before:List MemPlace} {o4:TypeId}
 (jm:DataW.Whole enc P f.params.toList s.vars false W args.toList ds gs before) (ax:laidOutB P=true) (bR:(f.params.toList.all fun t=>P.readableRec t && Nat.blt t P.types.size)=true)
 (ad:s.vars= []) (RK:s.fn H ds= { results:=[.lit (.bool true)],args:=ds }) (a1:P.underlying o4=some .bool) (ady:f.resultTypes= #[o4]) (lI:ba [] W j2) :
 s.post enc P f false true false false W args (.bool true) j2:=by
 have tM:=lI.below
 have ea:∀ p ∈ before,p.block <W.heap.size:=fun p b5=>jm.lt p b5
 have aoh:=jm
 obtain ⟨p,q,gI,Ck,Hb,cU,af⟩:=jm
 rw [ad] at Ck
 obtain ⟨rfl,rfl⟩:=trodVars_none Ck
 simp only [List.append_nil] at Hb
 subst Hb
 have hold:∀ x ∈ before,(fun b=>decide (b <W.heap.size)) x.block=true:=fun x ai=>by simpa using ea x ai
 have Q5:∀ g5:Nat->Bool,(∀ x ∈ before,g5 x.block=true)->DataW.TrodAll enc P j2 0 g5 true f.params.toList args.toList ds before:=
  fun g5 sh=>aby ax gI bR (fun x ai=>tM.same (ea x ai)) sh
 have adz:∀ (b:Nat) (g5:Nat->Bool) (bW:Bool),DataW.TrodAll enc P j2 b g5 bW f.resultTypes.toList ((Value.bool true).resultList f.resultTypes.size) [.lit (.bool true)] []:=fun b g5 bW=>by
  rw [ady];exact trodAll_cons_mk (p:=[]) (shut_bool a1 true) trodAll_mk0
 have xH:∀ g5:Nat->Bool,DataW.TrodVars enc P j2 g5 s.vars [] []:=fun g5=>by rw [ad];rfl
 refine ⟨ds,[],before,[],before,[],aoh,?_,?_,?_,World.keptBut_mono (fun x ai=>⟨ai,Or.inr (by simpa using ai)⟩) (tM.frame (· ∈ before)),fun _=>?_⟩
 · simp only [List.append_nil,RK];exact adz _ _ _
 · simp only [List.append_nil,RK];exact Q5 _ hold
 · simp only [List.append_nil,RK];exact xH _
 · refine ⟨ok_one ady rfl (okWide_bool_mk a1 true),_,_,([]++before)++[],⟨[]++before,[],trodAll_append (Q5 (fun _=>true) (fun _ _=>rfl)) (adz _ _ _),xH _,rfl,?_,?_⟩,?_⟩
   · intro b off b5
     have pk:MemPlace.cell b off ∈ before:=by simpa using b5
     rw [tM.frozen (ea _ pk)]
     exact cU b off pk
   · intro bx;simpa using af bx
   · intro x ai _;simpa using ai
theorem ZP {W:World} {r:Reach} {wM:Nat} {g5:Nat->Bool} {bW:Bool} {t:TypeId} {v:Value} {d:DataW H} {ri:List MemPlace} (bO:P.underlying t=some (.int .i64)) (q3:Value.okWide P W r wM t v) (h:DataW.Trod enc P W 0 g5 bW t v d ri) :
 ∃ n:Int,v= .int .i64 n/\ -9223372036854775808 <=n/\n<= 9223372036854775807 :=by
 obtain ⟨n,rfl,_,_,hw⟩:=open_int bO q3 h
 exact ⟨n,rfl,by simpa [Lit.wf,IntKind.min,IntKind.max,IntKind.signed,IntKind.bits] using hw⟩
theorem afy {α:Type} {T:fb α} {F:Nat->Prop} {W:World} {b o:Nat} {R:α->Prop}:∀ m:Nat,(∀ i,i <m-> ∃ cs d,iM W ⟨b,o+i*T.size,none⟩ cs/\T.rd F W cs d/\R d) ->
 ∃ (l:List α) (xs:List Value),l.length=m/\fO T F W xs l/\iM W ⟨b,o,none⟩ xs/\ ∀ d ∈ l,R d
 | 0,_=>⟨[],[],rfl,rfl,fun j u bc=>by simp at bc,fun d bW=>by cases bW⟩
 | m+ 1,h=>by
   obtain ⟨l,xs,aC,aS,bV,er⟩:=afy m (fun i hi=>h i (by omega))
   obtain ⟨cs,d,dV,ej,fN⟩:=h m (by omega)
   refine ⟨l++[d],xs++cs,by simp [aC],afp (T:=T) ej aS,fun j u bc=>?_,fun e he=>?_⟩
   · have ax:=XG (T:=T) aS
     rcases Nat.lt_or_ge j xs.length with ea | zP
     · exact bV j u (by simpa [List.getElem?_append,ea] using bc)
     · rw [List.getElem?_append_right zP] at bc
       have:=dV (j - xs.length) u bc
       rw [ax,aC] at this
       rw [show o+j=o+m*T.size+(j - m*T.size) by rw [ax,aC] at zP;omega]
       simpa using this
   · rcases List.mem_append.1 he with bM | bM
     · exact er e bM
     · simp at bM;subst bM;exact fN
end
end aZ
namespace aZ
open Go Go.RowKit Go.ChangeShapes Go.WideShapes Go.Deep J
def hU {H:Type} (P:Program) (enc:TypeId × Value->H) (N:Nat) (t:TypeId) {α:Type} (T:fb α) (R:α->Prop):Prop:=
 ∀ (W:World) (n:Nat) (cs:List Value) (x:DataW H × List MemPlace),DataW.trod enc P W 0 (fun _=>true) true n t cs=some x->(∀ p ∈ x.2,p.block <W.heap.size)->(∀ m ∈ x.1.weights P t,m<=N)-> ∃ d,T.rd (h9 [] W) W cs d/\R d
def jg (n:Int):Prop:=-9223372036854775808 <=n/\n<= 9223372036854775807
section
variable {H:Type} {enc:TypeId × Value->H} {P:Program} {N:Nat} {t e:TypeId}
theorem yk (bO:P.underlying t=some .string):hU P enc N t bE (fun s=>s.length<=N):=by
 intro W n cs x h _ hw
 obtain ⟨s,rfl,rfl,_⟩:=DataW.trod_string bO h
 exact ⟨s.data.toList,rfl,hw _ (by simp [DataW.weights])⟩
theorem nQ (bO:P.underlying t=some (.int .i64)):hU P enc N t (ak .i64) jg:=by
 intro W n cs x h _ _
 obtain ⟨z,rfl,_,cU⟩:=DataW.trod_int bO h
 exact ⟨z,rfl,by simpa [jg,Lit.wf,IntKind.min,IntKind.max,IntKind.signed,IntKind.bits] using cU⟩
theorem aFV (bO:P.underlying t=some .bool):hU P enc N t aGU (fun _=>True):=by
 intro W n cs x h _ _
 obtain ⟨b,rfl,_⟩:=DataW.trod_bool bO h
 exact ⟨b,rfl,trivial⟩
theorem aeP {d:DataW H} {m:Nat} (hm:m ∈ d.weights P e):∀ {l:List (DataW H)},d ∈ l->m ∈ DataW.weightsAll P e l
 | [],h=>by cases h
 | x::r,h=>by
   simp only [DataW.weightsAll,List.mem_append]
   rcases List.mem_cons.1 h with rfl | h
   · exact .inl hm
   · exact .inr (aeP hm h)
theorem rp {α:Type} {T:fb α} {R:α->Prop} (bO:P.underlying t=some (.slice e)) (kz:P.cellsOf e=T.size) (Lq:Nat.blt 0 T.size=true) (GJ:hU P enc N e T R):hU P enc N t (aG T) (fun l=>l.length*P.bytesOf e<=N/\ ∀ d ∈ l,R d):=by
 have Lq:0 <T.size:=Nat.le_of_ble_eq_true Lq
 intro W n cs x h b5 hw
 rcases open_slice bO h with ⟨rfl,rfl⟩ | ⟨a,uO,cap,m,kg,D,ahs,rfl,_,ax,hm,zV,ai,hi⟩
 · exact ⟨[],⟨none,0,rfl,Nat.le_refl _,Nat.zero_le _,fun _=>rfl,fun h=>absurd rfl h⟩,by simp,fun d bW=>by cases bW⟩
 · have gz:m=cap:=by simpa using zV
   subst gz
   have adj:x.2 =MemPlace.row a (m*P.cellsOf e)++(List.range m).flatMap ahs:=congrArg Prod.snd ai
   have ac5:x.1 = .slice ((List.range uO).map D) ((List.range (m - uO)).map fun j=>D (uO+j)):=congrArg Prod.fst ai
   have xI:(uO+(m - uO))*P.bytesOf e<=N:=by
    refine hw _ ?_
    rw [ac5]
    simp only [DataW.weights,bO,List.length_map,List.length_range]
    exact List.mem_cons_self
   have hlen:uO*P.bytesOf e<=N:=Nat.le_trans (Nat.mul_le_mul_right _ (Nat.le_add_right _ _)) xI
   by_cases bJ:uO= 0
   · subst bJ
     exact ⟨[],⟨some a,m,rfl,by simp,hm,fun h=>(by cases h),fun h=>absurd rfl h⟩,by simp,fun d bW=>by cases bW⟩
   · have oB:∀ i,i <uO-> ∃ cs d,(∀ j u,cs[j]? =some u->W.cell? (a.add (i*T.size+j))=some u)/\cs.length=T.size/\T.rd (h9 [] W) W cs d/\R d:=fun i fZ=>by
      have adb:i <m:=by omega
      obtain ⟨B_,hc,oG⟩:=hi i adb
      obtain ⟨d,bW,g2⟩:=GJ W kg B_ _ oG (fun p TZ=>b5 p (by
       rw [adj,List.mem_append]
       exact .inr (List.mem_flatMap.2 ⟨i,by simpa using adb,TZ⟩))) (fun k bf=>hw k (by
       rw [ac5]
       simp only [DataW.weights,bO,List.mem_cons,List.mem_append]
       exact .inr (.inl (aeP bf (List.mem_map.2 ⟨i,by simpa using fZ,rfl⟩)))))
      rw [kz] at hc
      obtain ⟨_,nz,xp⟩:=World.cells?_some hc
      refine ⟨B_,d,fun j u bc=>?_,nz,bW,g2⟩
      have G4:j <T.size:=by rw [<-nz];exact (List.getElem?_eq_some_iff.1 bc).1
      have:=xp j G4
      rw [bc,Go.Deep.add_add] at this
      exact this
     have adB:a.spot=none:=by
      obtain ⟨cs,d,aC,aS,_⟩:=oB 0 (by omega)
      have:=aC 0 _ (List.getElem?_eq_getElem (by omega))
      unfold World.cell? at this
      split at this
      · split at this
        · cases this
        · rename_i a5;simpa [Addr.add] using a5
      · cases this
     obtain ⟨ab,ZM,aIN⟩:=a
     simp only at adB
     subst adB
     obtain ⟨l,xs,aC,aS,bV,er⟩:=afy (T:=T) (F:=h9 [] W) (W:=W) (b:=ab) (o:=ZM) (R:=R) uO (fun i fZ=>by
      obtain ⟨cs,d,dV,_,fN,jA⟩:=oB i fZ
      exact ⟨cs,d,fun j u bc=>by have:=dV j u bc;rw [qC] at this;simpa [Nat.add_assoc] using this,fN,jA⟩)
     subst aC
     refine ⟨l,⟨_,m,rfl,ax,hm,fun h=>(by cases h),fun _=>⟨rfl,⟨by simp,?_⟩,xs,aS,bV⟩⟩,hlen,er⟩
     have pk:MemPlace.cell ab ZM ∈ x.2 :=by
      rw [adj,List.mem_append]
      left
      have:0 <m*P.cellsOf e:=Nat.mul_pos (by omega) (by omega)
      simp only [MemPlace.row,List.mem_map,List.mem_range]
      exact ⟨0,this,by simp⟩
     exact b5 _ pk
theorem aeQ {m:Nat}:∀ {vd:List TypeId} {l:List (DataW H)} {j:Nat} {u:TypeId} {d:DataW H},vd[j]? =some u->l[j]? =some d->m ∈ d.weights P u->m ∈ DataW.weightsEach P vd l
 | [],_,j,_,_,h,_,_=>by simp at h
 | _::_,[],j,_,_,_,h,_=>by simp at h
 | t::vd,x::l,0,u,d,aC,aS,hm=>by
   simp only [List.getElem?_cons_zero,Option.some.injEq] at aC aS
   subst aC;subst aS
   simp only [DataW.weightsEach,List.mem_append]
   exact .inl hm
 | t::vd,x::l,j+ 1,u,d,aC,aS,hm=>by
   simp only [DataW.weightsEach,List.mem_append]
   exact .inr (aeQ (j:=j) (by simpa using aC) (by simpa using aS) hm)
theorem om {gH:Array Field} {W:World} {n:Nat} {cs:List Value} {x:DataW H × List MemPlace} (bO:P.underlying t=some (.struct gH)) (h:DataW.trod enc P W 0 (fun _=>true) true n t cs=some x) (b5:∀ p ∈ x.2,p.block <W.heap.size) (hw:∀ m ∈ x.1.weights P t,m<=N) :
 ∃ kg,cs.length=P.cellsOf t/\ ∀ (j:Nat) (f:Field),gH[j]? =some f-> ∃ y,DataW.trod enc P W 0 (fun _=>true) true kg f.type ((cs.drop f.offset).take (P.cellsOf f.type))=some y/\(∀ p ∈ y.2,p.block <W.heap.size)/\(∀ m ∈ y.1.weights P f.type,m<=N):=by
 obtain ⟨ys,kg,_,ai,ax,aJR,dd⟩:=DataW.trod_struct bO h
 refine ⟨kg,ax,fun j f bc=>?_⟩
 have G4:j <gH.size:=(Array.getElem?_eq_some_iff.1 bc).1
 have hy:ys[j]? =some (ys[j]'(by omega)):=List.getElem?_eq_getElem _
 refine ⟨ys[j]'(by omega),by rw [dd j f bc,hy],fun p TZ=>b5 p ?_,fun m hm=>hw m ?_⟩
 · rw [ai]
   exact List.mem_flatMap.2 ⟨_,List.getElem_mem _,TZ⟩
 · rw [ai]
   simp only [DataW.weights,bO]
   refine aeQ (j:=j) (u:=f.type) (d:=(ys[j]'(by omega)).1) ?_ ?_ hm
   · rw [List.getElem?_map,Array.getElem?_toList,bc];rfl
   · rw [List.getElem?_map,hy];rfl
theorem gj {gH:Array Field} {W:World} {kg:Nat} {cs:List Value} (I:∀ (j:Nat) (f:Field),gH[j]? =some f-> ∃ y,DataW.trod enc P W 0 (fun _=>true) true kg f.type ((cs.drop f.offset).take (P.cellsOf f.type))=some y/\(∀ p ∈ y.2,p.block <W.heap.size)/\(∀ m ∈ y.1.weights P f.type,m<=N))
 (j:Nat) {f:Field} (bc:gH[j]? =some f) {t off k:Nat} (bO:f.type=t) (bm:f.offset=off) (bf:P.cellsOf t=k) {r:List Value} (bR:(cs.drop off).take k=r):∃ y,DataW.trod enc P W 0 (fun _=>true) true kg t r=some y/\(∀ p ∈ y.2,p.block <W.heap.size)/\(∀ m ∈ y.1.weights P t,m<=N):=by
 obtain ⟨y,aC,aS,bV⟩:=I j f bc
 rw [bO,bm] at aC
 rw [bO] at bV
 rw [bf,bR] at aC
 exact ⟨y,aC,aS,bV⟩
theorem ZI {v:Array Value} {l:List Value} (h:(Value.agg v).cells.toList=l):v=l.toArray:=by
 have h:v.toList=l:=h
 rw [<-h]
theorem ZQ {α:Type} {T:fb α} {R:α->Prop} {W:World} {v:Value} {d:DataW H} {ri:List MemPlace} (bR:hU P enc N t T R) (h:DataW.Trod enc P W 0 (fun _=>true) true t v d ri) (b5:∀ p ∈ ri,p.block <W.heap.size) (hw:∀ m ∈ d.weights P t,m<=N):∃ d',T.rd (h9 [] W) W v.cells.toList d'/\R d':=by
 obtain ⟨n,af⟩:=h
 exact bR W n _ _ af b5 hw
end
end aZ
namespace aZ
open Go Go.RowKit J
inductive qu
 | i (k:IntKind)
 | b
 | s
 | U
def qu.ok (P:Program) (t:TypeId):qu->Prop
 | .i k=>P.underlying t=some (.int k)
 | .b=>P.underlying t=some .bool
 | .s=>P.underlying t=some .string
 | .U=>∃ e,P.underlying t=some (.slice e)
structure mb where
 nV:List (Nat × qu)
 om:List (Nat × Nat × Nat)
 H7:List (Nat × Option Nat)
def XZ (P:Program):List (Nat × qu)->Prop
 | []=>True
 | p::r=>p.2.ok P p.1 /\XZ P r
def Pq (P:Program) (s j off:Nat):Prop:=∃ gH f sz,P.underlying s=some (.struct gH)/\gH[j]? =some f/\f.offset=off/\sz≠ 0 /\ ∀ w,(Go.sizeOf f.type).run P w= .ok sz w
def Qu (P:Program):List (Nat × Nat × Nat)->Prop
 | []=>True
 | p::r=>Pq P p.1 p.2.1 p.2.2 /\Qu P r
def ZH (P:Program) (t:Nat):Option Nat->Prop
 | none=>∀ w,(isAgg t).run P w= .ok false w
 | some n=>(∀ w,(isAgg t).run P w= .ok true w)/\ ∀ w,(Go.sizeOf t).run P w= .ok n w
def XR (P:Program):List (Nat × Option Nat)->Prop
 | []=>True
 | p::r=>ZH P p.1 p.2 /\XR P r
structure rO (P:Program) (G:mb):Prop where
 nV:XZ P G.nV
 om:Qu P G.om
 H7:XR P G.H7
theorem fs {P:Program} {s j off sz:Nat} {gH:Array Field} {f:Field} (h:P.underlying s=some (.struct gH)) (I:gH[j]? =some f) (bm:f.offset=off) (a5:∀ w,(Go.sizeOf f.type).run P w= .ok sz w) (bJ:Nat.beq sz 0 =false):Pq P s j off:=
 ⟨gH,f,sz,h,I,bm,(fun e=>by subst e;simp at bJ),a5⟩
def oN {β:Type}:List (Nat × β)->Nat->Option β
 | [],_=>none
 | p::r,t=>match Nat.beq p.1 t with
   | true=>some p.2
   | false=>oN r t
def HI:List (Nat × Nat × Nat)->Nat->Nat->Option Nat
 | [],_,_=>none
 | p::r,s,j=>match Nat.beq p.1 s && Nat.beq p.2.1 j with
   | true=>some p.2.2
   | false=>HI r s j
theorem AK {P:Program} {l:List (Nat × qu)} (h:XZ P l) {t:Nat} {k:qu} (ax:oN l t=some k):k.ok P t:=by
 induction l with
 | nil=>simp [oN] at ax
 | cons p r cn=>
   simp only [oN] at ax
   cases a1:Nat.beq p.1 t with
   | true=>
     rw [a1] at ax
     simp only [Option.some.injEq] at ax
     rw [<-Nat.eq_of_beq_eq_true a1,<-ax];exact h.1
   | false=>rw [a1] at ax;exact cn h.2 ax
theorem afJ {P:Program} {l:List (Nat × Option Nat)} (h:XR P l) {t:Nat} {k:Option Nat} (ax:oN l t=some k):ZH P t k:=by
 induction l with
 | nil=>simp [oN] at ax
 | cons p r cn=>
   simp only [oN] at ax
   cases a1:Nat.beq p.1 t with
   | true=>
     rw [a1] at ax
     simp only [Option.some.injEq] at ax
     rw [<-Nat.eq_of_beq_eq_true a1,<-ax];exact h.1
   | false=>rw [a1] at ax;exact cn h.2 ax
theorem akl {P:Program} {l:List (Nat × Nat × Nat)} (h:Qu P l) {s j off:Nat} (ax:HI l s j=some off):Pq P s j off:=by
 induction l with
 | nil=>simp [HI] at ax
 | cons p r cn=>
   simp only [HI] at ax
   cases a1:Nat.beq p.1 s && Nat.beq p.2.1 j with
   | true=>
     rw [a1] at ax
     simp only [Option.some.injEq] at ax
     simp only [Bool.and_eq_true] at a1
     rw [<-Nat.eq_of_beq_eq_true a1.1,<-Nat.eq_of_beq_eq_true a1.2,<-ax];exact h.1
   | false=>rw [a1] at ax;exact cn h.2 ax
def iT (w:World):List (Nat × Nat × List Value)->Prop
 | []=>True
 | m::r=>iM w ⟨m.1,m.2.1,none⟩ m.2.2 /\iT w r
theorem aw {w:World}:iT w []:=trivial
theorem av {w:World} {b p:Nat} {cs:List Value} {M:List (Nat × Nat × List Value)} (h:iM w ⟨b,p,none⟩ cs) (k:iT w M):iT w ((b,p,cs)::M):=⟨h,k⟩
theorem aeN {w:World} {M:List (Nat × Nat × List Value)} (h:iT w M) {i b p:Nat} {cs:List Value} (hi:M[i]? =some (b,p,cs)):iM w ⟨b,p,none⟩ cs:=by
 induction M generalizing i with
 | nil=>simp at hi
 | cons m r cn=>
   cases i with
   | zero=>
     simp only [List.getElem?_cons_zero,Option.some.injEq] at hi
     subst hi
     exact h.1
   | succ i=>exact cn h.2 (by simpa using hi)
theorem a2 {w:World} {g:Nat} {t:TypeId} {cs:List Value} (h:(aq.br g t cs).ok w):iM w ⟨g,0,none⟩ cs:=fun j u bc=>by
 have:=BG h bc
 simpa using this
structure hj where
 t:Nat
 j:Nat
 want:Bool
 v:Value
def AB:List (Nat × Value)->Nat->List (Nat × Value)
 | [],_=>[]
 | p::r,d=>match Nat.beq p.1 d with
   | true=>AB r d
   | false=>p::AB r d
def rq:List hj->Nat->List hj
 | [],_=>[]
 | p::r,d=>match Nat.beq p.t d || Nat.beq p.j d with
   | true=>rq r d
   | false=>p::rq r d
def Cl:List (Nat × Bool)->Nat->Bool->Bool
 | [],_,_=>false
 | p::r,j,b=>(Nat.beq p.1 j && (p.2 == b)) || Cl r j b
def HJ:List hj->List (Nat × Bool)->Nat->Option Value
 | [],_,_=>none
 | p::r,cur,t=>match Nat.beq p.t t && Cl cur p.j p.want with
   | true=>some p.v
   | false=>HJ r cur t
def mu (a:Act):List hj->Prop
 | []=>True
 | p::r=>(a.tmps.getD p.j undef= .bool p.want->a.tmps.getD p.t undef=p.v)/\mu a r
def tv (a:Act):List (Nat × Bool)->Prop
 | []=>True
 | p::r=>a.tmps.getD p.1 undef= .bool p.2 /\tv a r
theorem aoo {a:Act} {cur:List (Nat × Bool)} (h:tv a cur) {j:Nat} {b:Bool} (hM:Cl cur j b=true):a.tmps.getD j undef= .bool b:=by
 induction cur with
 | nil=>simp [Cl] at hM
 | cons p r cn=>
   simp only [Cl,Bool.or_eq_true,Bool.and_eq_true,beq_iff_eq] at hM
   rcases hM with ⟨aC,aS⟩ | hM
   · rw [<-Nat.eq_of_beq_eq_true aC,<-aS];exact h.1
   · exact cn h.2 hM
theorem aER {a:Act} {gs:List hj} (h:mu a gs) {cur:List (Nat × Bool)} (hc:tv a cur) {t:Nat} {v:Value} (ax:HJ gs cur t=some v):a.tmps.getD t undef=v:=by
 induction gs with
 | nil=>simp [HJ] at ax
 | cons p r cn=>
   simp only [HJ] at ax
   cases a1:Nat.beq p.t t && Cl cur p.j p.want with
   | true=>
     rw [a1] at ax
     simp only [Option.some.injEq] at ax
     simp only [Bool.and_eq_true] at a1
     rw [<-Nat.eq_of_beq_eq_true a1.1,<-ax]
     exact h.1 (aoo hc a1.2)
   | false=>rw [a1] at ax;exact cn h.2 ax
def ij (b1:List (Nat × Value)) (gs:List hj) (cur:List (Nat × Bool)):Operand->Option Value
 | .const v=>some v
 | .global g=>some (.pointer (some ⟨g,0,none⟩))
 | .tmp t=>match fk b1 t with
   | some v=>some v
   | none=>HJ gs cur t
 | .func _=>none
theorem Mj {n:g8} {b1:List (Nat × Value)} {gs:List hj} {cur:List (Nat × Bool)} {a:Act} (I:Fr n b1 a) (dd:mu a gs) (hc:tv a cur) {x:Operand} {v:Value} (h:ij b1 gs cur x=some v):a.eval x=v:=by
 cases x with
 | const u=>simp only [ij,Option.some.injEq] at h;rw [<-h];rfl
 | global g=>simp only [ij,Option.some.injEq] at h;rw [<-h];rfl
 | func f=>simp [ij] at h
 | tmp t=>
   simp only [ij] at h
   cases ax:fk b1 t with
   | some u=>rw [ax] at h;simp only [Option.some.injEq] at h;rw [<-h];exact I.g ax
   | none=>rw [ax] at h;exact aER dd hc h
def C4 (b1:List (Nat × Value)) (gs:List hj) (cur:List (Nat × Bool)):List Operand->Option (List Value)
 | []=>some []
 | x::r=>match ij b1 gs cur x,C4 b1 gs cur r with
   | some v,some vs=>some (v::vs)
   | _,_=>none
theorem WG {n:g8} {b1:List (Nat × Value)} {gs:List hj} {cur:List (Nat × Bool)} {a:Act} (I:Fr n b1 a) (dd:mu a gs) (hc:tv a cur):∀ {xs:List Operand} {vs:List Value},C4 b1 gs cur xs=some vs->xs.map a.eval=vs
 | [],vs,h=>by simp only [C4,Option.some.injEq] at h;subst h;rfl
 | x::r,vs,h=>by
   simp only [C4] at h
   split at h
   · rename_i v us aC aS
     simp only [Option.some.injEq] at h
     subst h
     rw [List.map_cons,Mj I dd hc aC,WG I dd hc aS]
   · cases h
def adY:Operand->Bool
 | .const (.int _ n)=>n != 0
 | _=>false
def ps:IntKind->IntKind->Bool
 | .i64,.i64 | .u8,.u8 | .i32,.i32 | .u64,.u64 | .u32,.u32 | .u16,.u16 | .i16,.i16 | .i8,.i8=>true
 | _,_=>false
theorem sk {j k:IntKind} (h:ps j k=true):j=k:=by cases j <;> cases k <;> simp_all [ps]
def lL (k:IntKind):Bool:=ps k .i64
theorem lM {k:IntKind} (h:lL k=true):k= .i64:=sk h
def ZU (oI:Option qu) (i':Bool) (op:BinOp) (j k:IntKind) (m n:Int):Option Value:=
 match op with
 | .add=>match lL j && lL k with | true=>some (.int .i64 (ap (m+n))) | false=>none
 | .sub=>match lL j && lL k with | true=>some (.int .i64 (ap (m - n))) | false=>none
 | .mul=>match lL j && lL k with | true=>some (.int .i64 (ap (m*n))) | false=>none
 | .quo=>match lL j && lL k && i' with | true=>some (.int .i64 (ap (m.tdiv n))) | false=>none
 | .rem=>match lL j && lL k && i' with | true=>some (.int .i64 (m.tmod n)) | false=>none
 | .or=>match lL j && lL k with | true=>some (.int .i64 (WJ m n)) | false=>none
 | .and=>match lL j && lL k with | true=>some (.int .i64 (PC m n)) | false=>none
 | .lss=>match ps j k with | true=>some (.bool (decide (m <n))) | false=>none
 | .leq=>match ps j k with | true=>some (.bool (decide (m<=n))) | false=>none
 | .gtr=>match ps j k with | true=>some (.bool (decide (n <m))) | false=>none
 | .geq=>match ps j k with | true=>some (.bool (decide (n<=m))) | false=>none
 | .eql=>match oI with
   | some (.i i)=>match ps i j && ps j k with | true=>some (.bool (decide (m=n))) | false=>none
   | _=>none
 | .neq=>match oI with
   | some (.i i)=>match ps i j && ps j k with | true=>some (.bool (!decide (m=n))) | false=>none
   | _=>none
 | _=>none
def ZV (oI:Option qu) (op:BinOp) (p q:List UInt8):Option Value:=
 match op,oI with
 | .eql,some .s=>some (.bool (decide (p=q)))
 | .neq,some .s=>some (.bool (!decide (p=q)))
 | _,_=>none
def ZT (oI:Option qu) (op:BinOp) (p q:Bool):Option Value:=
 match op,oI with
 | .eql,some .b=>some (.bool (p == q))
 | .neq,some .b=>some (.bool (!(p == q)))
 | _,_=>none
def bin (oI:Option qu) (i':Bool) (op:BinOp):Value->Value->Option Value
 | .int j m,.int k n=>ZU oI i' op j k m n
 | .string ⟨⟨p⟩⟩,.string ⟨⟨q⟩⟩=>ZV oI op p q
 | .bool p,.bool q=>ZT oI op p q
 | _,_=>none
section
variable {P:Program} {o:Oper} {a:Act} {w:World} {x y:Operand} {t ef:TypeId}
theorem ahA {oI:Option qu} (bf:∀ k,oI=some k->k.ok P t) {i':Bool} (cU:i'=true-> ∀ k n,a.eval y= .int k n->n≠ 0) {op:BinOp} {u v r:Value} (h:bin oI i' op u v=some r) (bm:o.op= .binOp op t x y ef) (ai:a.eval x=u) (hy:a.eval y=v):cf P o a w r w:=by
 unfold bin at h
 split at h
 · rename_i j m k n
   unfold ZU at h
   split at h
   case h_1=>
    split at h
    · rename_i a1
      simp only [Bool.and_eq_true] at a1
      obtain ⟨aC,aS⟩:=a1
      have aC:=lM aC;have aS:=lM aS
      subst aC;subst aS
      simp only [Option.some.injEq] at h
      subst h
      exact aHS bm ai hy
    · cases h
   case h_2=>
    split at h
    · rename_i a1
      simp only [Bool.and_eq_true] at a1
      obtain ⟨aC,aS⟩:=a1
      have aC:=lM aC;have aS:=lM aS
      subst aC;subst aS
      simp only [Option.some.injEq] at h
      subst h
      exact aIv bm ai hy
    · cases h
   case h_3=>
    split at h
    · rename_i a1
      simp only [Bool.and_eq_true] at a1
      obtain ⟨aC,aS⟩:=a1
      have aC:=lM aC;have aS:=lM aS
      subst aC;subst aS
      simp only [Option.some.injEq] at h
      subst h
      exact aIj bm ai hy
    · cases h
   case h_4=>
    split at h
    · rename_i a1
      simp only [Bool.and_eq_true] at a1
      obtain ⟨⟨aC,aS⟩,bV⟩:=a1
      have aC:=lM aC;have aS:=lM aS
      subst aC;subst aS
      simp only [Option.some.injEq] at h
      subst h
      have eZ:=cU bV _ _ hy
      exact aIr bm ai hy (by rw [Bool.not_eq_true',decide_eq_false_iff_not];exact eZ)
    · cases h
   case h_5=>
    split at h
    · rename_i a1
      simp only [Bool.and_eq_true] at a1
      obtain ⟨⟨aC,aS⟩,bV⟩:=a1
      have aC:=lM aC;have aS:=lM aS
      subst aC;subst aS
      simp only [Option.some.injEq] at h
      subst h
      have eZ:=cU bV _ _ hy
      exact aIs bm ai hy (by rw [Bool.not_eq_true',decide_eq_false_iff_not];exact eZ)
    · cases h
   case h_6=>
    split at h
    · rename_i a1
      simp only [Bool.and_eq_true] at a1
      obtain ⟨aC,aS⟩:=a1
      have aC:=lM aC;have aS:=lM aS
      subst aC;subst aS
      simp only [Option.some.injEq] at h
      subst h
      exact aIp bm ai hy
    · cases h
   case h_7=>
    split at h
    · rename_i a1
      simp only [Bool.and_eq_true] at a1
      obtain ⟨aC,aS⟩:=a1
      have aC:=lM aC;have aS:=lM aS
      subst aC;subst aS
      simp only [Option.some.injEq] at h
      subst h
      exact aHT bm ai hy
    · cases h
   case h_8=>
    split at h
    · rename_i a1
      have a1:=sk a1
      subst a1
      simp only [Option.some.injEq] at h
      subst h
      exact aIe bm ai hy
    · cases h
   case h_9=>
    split at h
    · rename_i a1
      have a1:=sk a1
      subst a1
      simp only [Option.some.injEq] at h
      subst h
      exact aIb bm ai hy
    · cases h
   case h_10=>
    split at h
    · rename_i a1
      have a1:=sk a1
      subst a1
      simp only [Option.some.injEq] at h
      subst h
      exact aH8 bm ai hy
    · cases h
   case h_11=>
    split at h
    · rename_i a1
      have a1:=sk a1
      subst a1
      simp only [Option.some.injEq] at h
      subst h
      exact aH7 bm ai hy
    · cases h
   case h_12=>
    split at h
    · rename_i i
      have hi:=bf _ rfl
      split at h
      · rename_i a1
        simp only [Bool.and_eq_true] at a1
        have aC:=sk a1.1;have aS:=sk a1.2
        subst aC;subst aS
        simp only [Option.some.injEq] at h
        subst h
        exact aH3 hi bm ai hy
      · cases h
    · cases h
   case h_13=>
    split at h
    · rename_i i
      have hi:=bf _ rfl
      split at h
      · rename_i a1
        simp only [Bool.and_eq_true] at a1
        have aC:=sk a1.1;have aS:=sk a1.2
        subst aC;subst aS
        simp only [Option.some.injEq] at h
        subst h
        exact aIl hi bm ai hy
      · cases h
    · cases h
   case h_14=>cases h
 · rename_i p q
   unfold ZV at h
   split at h
   · simp only [Option.some.injEq] at h
     subst h
     exact aH4 (bf _ rfl) bm ai hy
   · simp only [Option.some.injEq] at h
     subst h
     exact aIm (bf _ rfl) bm ai hy
   · cases h
 · rename_i p q
   unfold ZT at h
   split at h
   · simp only [Option.some.injEq] at h
     subst h
     exact aH1 (bf _ rfl) bm ai hy
   · simp only [Option.some.injEq] at h
     subst h
     exact aIk (bf _ rfl) bm ai hy
   · cases h
 · cases h
end
end aZ
namespace aZ
open Go Go.RowKit J
def nth {α:Type}:List α->Nat->Option α
 | [],_=>none
 | x::_,0 =>some x
 | _::r,i+ 1 =>nth r i
theorem sA {α:Type}:∀ (l:List α) (i:Nat),nth l i=l[i]?
 | [],i=>by simp [nth]
 | x::r,0 =>rfl
 | x::r,i+ 1 =>by simp [nth,sA r i]
def UI:Operand->Bool
 | .const (.bool b)=>b
 | _=>false
def UG:Operand->Bool
 | .const (.bool b)=>!b
 | _=>false
def WM (x y:Operand) (b:Bool):Value->Value->Option Value
 | .bool p,.bool q=>match UI x with
   | true=>some (.bool (b || q))
   | false=>match UG y with
     | true=>some (.bool (b && p))
     | false=>some (.bool (cond b p q))
 | .int j m,.int k n=>match ps j k with
   | true=>some (.int j (cond b m n))
   | false=>none
 | .string ⟨⟨p⟩⟩,.string ⟨⟨q⟩⟩=>some (ao (cond b p q))
 | _,_=>none
theorem aEt {a:Act} {x:Operand} (h:UI x=true):a.eval x= .bool true:=by
 unfold UI at h
 split at h
 · subst h;rfl
 · cases h
theorem aEr {a:Act} {x:Operand} (h:UG x=true):a.eval x= .bool false:=by
 unfold UG at h
 split at h
 · rename_i b
   have:b=false:=by simpa using h
   subst this;rfl
 · cases h
theorem aFk {a:Act} {x y:Operand} {b:Bool} {u v r:Value} (h:WM x y b u v=some r) (ai:b=true->a.eval x=u) (hy:b=false->a.eval y=v):(if b then a.eval x else a.eval y)=r:=by
 unfold WM at h
 split at h
 · rename_i p q
   split at h
   · rename_i bO
     simp only [Option.some.injEq] at h
     subst h
     cases b with
     | true=>rw [if_pos rfl,aEt bO];rfl
     | false=>rw [if_neg (by simp),hy rfl];rfl
   · split at h
     · rename_i I
       simp only [Option.some.injEq] at h
       subst h
       cases b with
       | true=>rw [if_pos rfl,ai rfl];rfl
       | false=>rw [if_neg (by simp),aEr I];rfl
     · simp only [Option.some.injEq] at h
       subst h
       cases b with
       | true=>rw [if_pos rfl,ai rfl];rfl
       | false=>rw [if_neg (by simp),hy rfl];rfl
 · split at h
   · rename_i bf
     have:=sk bf
     subst this
     simp only [Option.some.injEq] at h
     subst h
     cases b with
     | true=>rw [if_pos rfl,ai rfl];rfl
     | false=>rw [if_neg (by simp),hy rfl];rfl
   · cases h
 · simp only [Option.some.injEq] at h
   subst h
   cases b with
   | true=>rw [if_pos rfl,ai rfl];rfl
   | false=>rw [if_neg (by simp),hy rfl];rfl
 · cases h
abbrev Out:=Value × List Nat × List (Nat × Nat)
def k2 (a5:List Nat) (v:Value):Option Out:=some (v,a5,[])
def ab6 (G:mb) (M:List (Nat × Nat × List Value)) (t m rel:Nat) (a5:List Nat) (HT aL:Nat):Option Out:=
 match nth M m,oN G.H7 t with
 | some (b,off,cs),some none=>match nth cs rel with
   | some v=>some (v,a5,[(HT,b),(aL,off+rel)])
   | none=>none
 | some (b,off,cs),some (some n)=>match Nat.ble (rel+n) cs.length with
   | true=>some (.agg ((cs.drop rel).take n).toArray,a5,[(HT,b),(aL,off+rel)])
   | false=>none
 | _,_=>none
def ab4 (G:mb) (s d:Nat) (a5:List Nat):Value->Option Out
 | .int k m=>match lL k,oN G.nV s,oN G.nV d with
   | true,some (.i .i64),some (.i .i64)=>k2 a5 (.int .i64 (ap m))
   | true,some (.i .i64),some (.i .u8)=>k2 a5 (.int .u8 ((EH m).toNat:Int))
   | _,_,_=>none
 | _=>none
def ab5 (G:mb) (t:Nat) (a5:List Nat):Value->Option Out
 | .string ⟨⟨p⟩⟩=>match oN G.nV t with
   | some .s=>k2 a5 (.int .i64 (p.length:Int))
   | _=>none
 | .slice _ n _=>match oN G.nV t with
   | some .U=>k2 a5 (.int .i64 (n:Int))
   | _=>none
 | _=>none
def ab7 (b1:List (Nat × Value)) (gs:List hj) (cur:List (Nat × Bool)) (c x y:Operand):List Nat->Option Out
 | 0 ::a5=>match c with
   | .tmp AF=>match ij b1 gs cur (.tmp AF),ij b1 gs ((AF,true)::cur) x,ij b1 gs ((AF,false)::cur) y with
     | some (.bool b),some u,some v=>match WM x y b u v with
       | some r=>k2 a5 r
       | none=>none
     | _,_,_=>none
   | _=>none
 | _::a5=>match ij b1 gs cur c with
   | some (.bool b)=>match b with
     | true=>match ij b1 gs cur x with | some v=>k2 a5 v | none=>none
     | false=>match ij b1 gs cur y with | some v=>k2 a5 v | none=>none
   | _=>none
 | []=>none
def nr (G:mb) (M:List (Nat × Nat × List Value)) (a5:List Nat) (b1:List (Nat × Value)) (gs:List hj) (cur:List (Nat × Bool)):Op->Option Out
 | .move x=>match ij b1 gs cur x with | some v=>k2 a5 v | none=>none
 | .assign x=>match ij b1 gs cur x with | some v=>k2 a5 v | none=>none
 | .pick c x y=>ab7 b1 gs cur c x y a5
 | .binOp op t x y _=>match ij b1 gs cur x,ij b1 gs cur y with
   | some u,some v=>match bin (oN G.nV t) (adY y) op u v with
     | some r=>k2 a5 r
     | none=>none
   | _,_=>none
 | .unOp .not _ x=>match ij b1 gs cur x with
   | some (.bool p)=>k2 a5 (.bool (!p))
   | _=>none
 | .convert s d x=>match ij b1 gs cur x with
   | some v=>ab4 G s d a5 v
   | none=>none
 | .load t x=>match ij b1 gs cur x,a5 with
   | some (.pointer (some ⟨HT,aL,none⟩)),m::rel::dI=>ab6 G M t m rel dI HT aL
   | _,_=>none
 | .fieldAddr s x j=>match ij b1 gs cur x,HI G.om s j with
   | some (.pointer (some ⟨b,p,none⟩)),some off=>k2 a5 (.pointer (some ⟨b,p+off,none⟩))
   | _,_=>none
 | .nilCheck x=>match ij b1 gs cur x with
   | some (.pointer (some p))=>k2 a5 (.pointer (some p))
   | _=>none
 | .extract x i=>match ij b1 gs cur x with
   | some (.tuple ⟨vs⟩)=>match nth vs i with
     | some v=>k2 a5 v
     | none=>none
   | _=>none
 | .makeFunc fn ⟨xs⟩ ⟨ys⟩=>match C4 b1 gs cur xs,C4 b1 gs cur ys with
   | some us,some vs=>k2 a5 (.func fn us.toArray vs.toArray)
   | _,_=>none
 | .call ⟨.builtin .len,⟨[x]⟩,⟨[t]⟩⟩=>match ij b1 gs cur x with
   | some v=>ab5 G t a5 v
   | none=>none
 | _=>none
theorem mP {a5 dI:List Nat} {u v:Value} {l:List (Nat × Nat)} (h:k2 a5 u=some (v,dI,l)):u=v:=by
 simp only [k2,Option.some.injEq,Prod.mk.injEq] at h
 exact h.1
def nq:List (Nat × Nat)->Prop
 | []=>True
 | p::r=>p.1 =p.2 /\nq r
section
variable {P:Program} {G:mb} {M:List (Nat × Nat × List Value)} {w:World} {a:Act} {o:Oper}
theorem ab2 {n:g8} {b1:List (Nat × Value)} {gs:List hj} {cur:List (Nat × Bool)} {a5 dI:List Nat} {v:Value} {l:List (Nat × Nat)} (gJ:rO P G) (fi:iT w M) (I:Fr n b1 a) (dd:mu a gs) (hc:tv a cur)
 {op:Op} (bm:o.op=op) (h:nr G M a5 b1 gs cur op=some (v,dI,l)) (ax:nq l):cf P o a w v w:=by
 have opn:∀ {x:Operand} {u:Value},ij b1 gs cur x=some u->a.eval x=u:=fun ai=>Mj I dd hc ai
 unfold nr at h
 split at h
 · split at h
   · rename_i ai
     rw [<-mP h];exact aIh bm (opn ai)
   · cases h
 · split at h
   · rename_i ai
     rw [<-mP h];exact aHV bm (opn ai)
   · cases h
 · rename_i c x y
   unfold ab7 at h
   split at h
   · split at h
     · rename_i AF
       split at h
       · rename_i b u rz aC aS bV
         split at h
         · rename_i r bR
           rw [<-mP h]
           have xq:a.eval (.tmp AF)= .bool b:=opn aC
           have ai:b=true->a.eval x=u:=fun a1=>Mj I dd (show tv a ((AF,true)::cur) from ⟨by subst a1;exact xq,hc⟩) aS
           have hy:b=false->a.eval y=rz:=fun a1=>Mj I dd (show tv a ((AF,false)::cur) from ⟨by subst a1;exact xq,hc⟩) bV
           have b5:=aFk (a:=a) bR ai hy
           cases b with
           | true=>exact agT bm xq (by simpa using b5)
           | false=>exact agS bm xq (by simpa using b5)
         · cases h
       · cases h
     · cases h
   · split at h
     · rename_i b aC
       split at h
       · split at h
         · rename_i u aS
           rw [<-mP h];exact agT bm (opn aC) (opn aS)
         · cases h
       · split at h
         · rename_i u aS
           rw [<-mP h];exact agS bm (opn aC) (opn aS)
         · cases h
     · cases h
   · cases h
 · rename_i op t x y ef
   split at h
   · rename_i u rz aC aS
     split at h
     · rename_i r bR
       rw [<-mP h]
       refine ahA (fun k bf=>AK gJ.nV bf) (fun cU k n af=>?_) bR bm (opn aC) (opn aS)
       unfold adY at cU
       split at cU
       · rename_i k' kg
         have:a.eval (.const (.int k' kg))= .int k' kg:=rfl
         rw [this] at af
         injection af with _ e
         subst e
         simpa using cU
       · cases cU
     · cases h
   · cases h
 · rename_i x
   split at h
   · rename_i p aC
     rw [<-mP h];exact aIo bm (opn aC)
   · cases h
 · rename_i s d x
   split at h
   · rename_i u aC
     unfold ab4 at h
     split at h
     · rename_i k m
       split at h
       · rename_i aS bV er
         have:=lM aS
         subst this
         rw [<-mP h];exact aHX (AK gJ.nV bV) (AK gJ.nV er) bm (opn aC)
       · rename_i aS bV er
         have:=lM aS
         subst this
         rw [<-mP h];exact aHZ (AK gJ.nV bV) (AK gJ.nV er) bm (opn aC)
       · cases h
     · cases h
   · cases h
 · rename_i t x
   split at h
   · rename_i HT aL m rel t_ aC
     have ai:=opn aC
     unfold ab6 at h
     split at h
     · rename_i b off cs aS bV
       split at h
       · rename_i u er
         simp only [Option.some.injEq,Prod.mk.injEq] at h
         obtain ⟨rfl,_,rfl⟩:=h
         obtain ⟨bM,b7,_⟩:=ax
         simp only at bM b7
         subst bM;subst b7
         rw [sA] at aS er
         exact aIc (afJ gJ.H7 bV) bm ai (aeN fi aS rel u er)
       · cases h
     · rename_i b off cs k aS bV
       split at h
       · rename_i a1
         simp only [Option.some.injEq,Prod.mk.injEq] at h
         obtain ⟨rfl,_,rfl⟩:=h
         obtain ⟨bM,b7,_⟩:=ax
         simp only at bM b7
         subst bM;subst b7
         rw [sA] at aS
         have a5:=afJ gJ.H7 bV
         have hle:=Nat.le_of_ble_eq_true a1
         refine aId a5.1 a5.2 (by simp;omega) bm ai (fun j u bc=>?_)
         have ark:=aeN fi aS
         rw [List.getElem?_take] at bc
         split at bc
         · rw [List.getElem?_drop] at bc
           have:=ark (rel+j) u bc
           simpa [Nat.add_assoc] using this
         · cases bc
       · cases h
     · cases h
   · cases h
 · rename_i s x j
   split at h
   · rename_i b p off aC aS
     rw [<-mP h]
     obtain ⟨gH,f,sz,j7,kV,zo,zp,aky⟩:=akl gJ.om aS
     rw [<-zo]
     exact aH6 j7 kV aky (by cases bJ:Nat.beq sz 0 with | false=>rfl | true=>exact absurd (Nat.eq_of_beq_eq_true bJ) zp) bm (opn aC)
   · cases h
 · rename_i x
   split at h
   · rename_i p aC
     rw [<-mP h];exact aIn bm (opn aC)
   · cases h
 · rename_i x i
   split at h
   · rename_i vs aC
     split at h
     · rename_i u aS
       rw [<-mP h]
       rw [sA] at aS
       exact aH5 (vs:=vs) bm (opn aC) aS
     · cases h
   · cases h
 · rename_i fn xs ys
   split at h
   · rename_i us vs aC aS
     rw [<-mP h]
     have bM:=WG I dd hc aC
     have b7:=WG I dd hc aS
     simp only [cf,execOp,bm,Instr.makeFunc]
     rw [show (Array.map a.eval ⟨xs⟩)=us.toArray by rw [<-bM];simp,show (Array.map a.eval ⟨ys⟩)=vs.toArray by rw [<-b7];simp]
     rfl
   · cases h
 · rename_i x t
   split at h
   · rename_i u aC
     unfold ab5 at h
     split at h
     · split at h
       · rename_i aS
         rw [<-mP h];exact aIa (AK gJ.nV aS) bm (opn aC)
       · cases h
     · split at h
       · rename_i aS
         rw [<-mP h]
         obtain ⟨e,he⟩:=AK gJ.nV aS
         exact aH' he bm (opn aC)
       · cases h
     · cases h
   · cases h
 · cases h
end
end aZ
namespace aZ
open Go Go.RowKit J
def QC (ops:Array Oper) (j:Nat):Option Nat:=match nth ops.toList j with
 | some o=>o.dst
 | none=>none
theorem akI {ops:Array Oper} {j dO:Nat} (h:QC ops j=some dO):(ops[j]?).bind (·.dst)=some dO:=by
 unfold QC at h
 rw [sA,Array.getElem?_toList] at h
 split at h
 · rename_i o bm
   rw [bm];exact h
 · cases h
abbrev ahr:=List (Nat × Value) × List hj × List (Nat × Nat)
def ev (G:mb) (ops:Array Oper) (n:Nat) (M:List (Nat × Nat × List Value)):List Oper->List Nat->List (Nat × Value)->List hj->List (Nat × Nat)->Option ahr
 | [],_,b1,gs,l=>some (b1,gs,l)
 | o::rest,a5,b1,gs,l=>match o.dst with
   | none=>none
   | some d=>match Nat.blt d n with
     | false=>none
     | true=>match o.guard with
       | none=>match nr G M a5 b1 gs [] o.op with
         | some (v,dI,l')=>ev G ops n M rest dI ((d,v)::b1) (rq gs d) (l'++l)
         | none=>none
       | some (j,want)=>match QC ops j with
         | none=>none
         | some dO=>match Nat.blt dO n with
           | false=>none
           | true=>match a5 with
             | 0 ::dI=>match Nat.beq dO d with
               | true=>none
               | false=>match nr G M dI b1 gs [(dO,want)] o.op with
                 | some (v,t_,l')=>ev G ops n M rest t_ (AB b1 d) (⟨d,dO,want,v⟩::rq gs d) (l'++l)
                 | none=>none
             | _::dI=>match fk b1 dO with
               | some (.bool b)=>match b == want with
                 | true=>match nr G M dI b1 gs [] o.op with
                   | some (v,t_,l')=>ev G ops n M rest t_ ((d,v)::b1) (rq gs d) (l'++l)
                   | none=>none
                 | false=>ev G ops n M rest dI ((d,undef)::b1) (rq gs d) l
               | some (.tuple ⟨[]⟩)=>ev G ops n M rest dI ((d,undef)::b1) (rq gs d) l
               | _=>none
             | []=>none
def B' (b1:List (Nat × Value)):List Nat->Option (List (Nat × Value))
 | []=>some []
 | t::r=>match fk b1 t,B' b1 r with
   | some v,some vs=>some ((t,v)::vs)
   | _,_=>none
def dup (l:List Nat):List (Nat × Nat):=l.map fun x=>(x,x)
def j6 (G:mb) (ops:Array Oper) (n:Nat) (M:List (Nat × Nat × List Value)) (os:List Oper) (a5:List Nat) (b1:List (Nat × Value)) (dw:List Nat):Option (List (Nat × Value) × List (Nat × Nat)):=
 match ev G ops n M os a5 b1 [] [] with
 | some (fr',_,l)=>match B' fr' dw with
   | some k=>some (k,l)
   | none=>none
 | none=>none
theorem KH:∀ l:List Nat,nq (dup l)
 | []=>trivial
 | x::r=>⟨rfl,KH r⟩
theorem xf:∀ {l l':List (Nat × Nat)},nq (l++l')->nq l/\nq l'
 | [],_,h=>⟨trivial,h⟩
 | _::_,_,h=>⟨⟨h.1,(xf h.2).1⟩,(xf h.2).2⟩
theorem Qj {b1:List (Nat × Value)}:∀ {dw:List Nat} {k:List (Nat × Value)},B' b1 dw=some k->Ik b1 k
 | [],k,h=>by simp only [B',Option.some.injEq] at h;subst h;trivial
 | t::r,k,h=>by
   simp only [B'] at h
   split at h
   · rename_i v vs aC aS
     simp only [Option.some.injEq] at h
     subst h
     exact ⟨aC,Qj aS⟩
   · cases h
theorem aFt {a:Act} {n:g8} {d:Nat} {v:Value} (a5:a.tmps.size=n) (bW:Nat.blt d n=true):(a.put (some d) v).tmps.getD d undef=v:=by
 have ea:d <n:=Nat.le_of_ble_eq_true bW
 simp [Act.put,a5,ea]
theorem Ml {a:Act} {d t:Nat} {v:Value} (h:t≠d):(a.put (some d) v).tmps.getD t undef=a.tmps.getD t undef:=by
 simp only [Act.put,Array.getD_eq_getD_getElem?]
 rw [Array.getElem?_setIfInBounds,if_neg (fun e=>h e.symm)]
theorem xk {a:Act} {d:Nat} {v:Value}:∀ {gs:List hj},mu a gs->mu (a.put (some d) v) (rq gs d)
 | [],_=>trivial
 | p::r,h=>by
   simp only [rq]
   cases a1:Nat.beq p.t d || Nat.beq p.j d with
   | true=>exact xk h.2
   | false=>
     simp only [Bool.or_eq_false_iff] at a1
     have aC:p.t≠d:=fun e=>by rw [e] at a1;simp at a1
     have aS:p.j≠d:=fun e=>by rw [e] at a1;simp at a1
     refine ⟨?_,xk h.2⟩
     rw [Ml aC,Ml aS];exact h.1
theorem Wx {d t:Nat} {v:Value}:∀ {b1:List (Nat × Value)},fk (AB b1 d) t=some v->t≠d/\fk b1 t=some v
 | [],h=>by simp [AB,fk] at h
 | p::r,h=>by
   simp only [AB] at h
   cases a1:Nat.beq p.1 d with
   | true=>
     rw [a1] at h
     obtain ⟨aC,aS⟩:=Wx h
     refine ⟨aC,?_⟩
     have e:=Nat.eq_of_beq_eq_true a1
     simp only [fk]
     cases hc:Nat.beq p.1 t with
     | true=>exact absurd ((Nat.eq_of_beq_eq_true hc).symm.trans e) aC
     | false=>exact aS
   | false=>
     rw [a1] at h
     simp only [fk] at h ⊢
     cases hc:Nat.beq p.1 t with
     | true=>
       rw [hc] at h
       refine ⟨fun e=>?_,h⟩
       rw [Nat.eq_of_beq_eq_true hc,e] at a1
       simp at a1
     | false=>
       rw [hc] at h
       exact Wx h
theorem Fr.afw {n:g8} {d:Nat} {b1:List (Nat × Value)} {a:Act} {v:Value} (I:Fr n b1 a):Fr n (AB b1 d) (a.put (some d) v):=
 ⟨by simpa [Act.put] using I.size,I.defers,fun t u h=>by obtain ⟨aC,aS⟩:=Wx h;rw [Ml aC];exact I.get t u aS⟩
def CH:Op->Bool
 | .load _ _=>true
 | _=>false
theorem akb {G:mb} {M:List (Nat × Nat × List Value)} {a5:List Nat} {b1:List (Nat × Value)} {gs:List hj} {cur:List (Nat × Bool)} {op:Op} (h:CH op=false):nr G M a5 b1 gs cur op=nr G [] a5 b1 gs cur op:=by
 cases op with
 | load t x=>simp [CH] at h
 | unOp u t x=>cases u <;> rfl
 | call c=>
   unfold nr
   split <;> first | rfl | (rename_i e;cases e;done) | (rename_i e;cases e;rfl)
 | _=>rfl
theorem Qn {P:Program} {G:mb} {M:List (Nat × Nat × List Value)} {C:World->Prop} {a:Act} {o:Oper} {n:g8} {b1:List (Nat × Value)} {gs:List hj} {cur:List (Nat × Bool)} {a5 dI:List Nat} {v:Value} {l:List (Nat × Nat)} (gJ:rO P G) (fi:∀ w,C w->iT w M) (I:Fr n b1 a) (dd:mu a gs) (hc:tv a cur)
 (h:nr G M a5 b1 gs cur o.op=some (v,dI,l)) (ax:nq l):(∀ w,C w->cf P o a w v w)/\(CH o.op=false-> ∀ w,cf P o a w v w):=
 ⟨fun w pg=>ab2 gJ (fi w pg) I dd hc rfl h ax,fun af w=>ab2 gJ (M:=[]) trivial I dd hc rfl (by rw [<-akb af];exact h) ax⟩
theorem af3 {ops:Array Oper} {o:Oper} {a:Act} {n:g8} {l:List (Nat × Value)} {j dO:Nat} {want:Bool} (I:Fr n l a) (dd:o.guard=some (j,want)) (bc:(ops[j]?).bind (·.dst)=some dO) (af:Nat.blt dO n=true) :
 Region.wanted o (yielded ops a.tmps)=true ↔ a.tmps.getD dO undef= .bool want:=by
 have ea:dO <n:=Nat.le_of_ble_eq_true af
 have a5:=I.size
 have aS:a.tmps[dO]? =some (a.tmps.getD dO undef):=by
  rw [Array.getElem?_eq_getElem (by omega)]
  simp [Array.getD_eq_getD_getElem?,a5,ea]
 simp only [Region.wanted,dd,yielded,bc,Option.bind_some,aS,beq_iff_eq]
 constructor
 · intro h
   split at h
   · rename_i b a1
     simp only [Option.some.injEq] at h a1
     rw [a1,h]
   · cases h
 · intro h
   rw [h]
def ahv (P:Program) (ops:Array Oper) (C:World->Prop) (o:Oper) (d:Nat) (a:Act) (u:Value):Prop:=
 o.dst=some d/\((Region.wanted o (yielded ops a.tmps)=true/\(∀ w,C w->cf P o a w u w)/\(CH o.op=false-> ∀ w,cf P o a w u w))\/(Region.wanted o (yielded ops a.tmps)=false/\u=undef))
section
variable {P:Program} {G:mb} {ops:Array Oper} {n:g8} {M:List (Nat × Nat × List Value)} {C:World->Prop}
theorem Qo (gJ:rO P G) (fi:∀ w,C w->iT w M) {o:Oper} {rest:List Oper} {a5:List Nat} {b1:List (Nat × Value)} {gs:List hj} {l lQ:List (Nat × Nat)} {jj:List (Nat × Value)} {lE:List hj} {a:Act}
 (I:Fr n b1 a) (dd:mu a gs) (h:ev G ops n M (o::rest) a5 b1 gs l=some (jj,lE,lQ)) (cU:nq lQ)
 (TT:∀ {os:List Oper} {a5:List Nat} {b1:List (Nat × Value)} {gs:List hj} {l:List (Nat × Nat)},ev G ops n M os a5 b1 gs l=some (jj,lE,lQ)->nq l) :
 ∃ d u dI fr' zr l',ahv P ops C o d a u/\Fr n fr' (a.put (some d) u)/\mu (a.put (some d) u) zr/\ev G ops n M rest dI fr' zr l'=some (jj,lE,lQ):=by
 rw [ev] at h
 split at h
 · cases h
 · rename_i d bW
   split at h
   · cases h
   · rename_i af
     split at h
     · rename_i zO
       split at h
       · rename_i v dI l' aC
         have he:=(xf (TT h)).1
         exact ⟨d,v,dI,_,_,_,⟨bW,.inl ⟨Dn zO,Qn (cur:=[]) gJ fi I dd trivial aC he⟩⟩,I.put af,xk dd,h⟩
       · cases h
     · rename_i j want zO
       split at h
       · cases h
       · rename_i dO zK
         have GH:=akI zK
         split at h
         · cases h
         · rename_i xB
           split at h
           · rename_i dI
             split at h
             · cases h
             · rename_i eZ
               split at h
               · rename_i v t_ l' aC
                 have he:=(xf (TT h)).1
                 have G9:dO≠d:=fun e=>by rw [e] at eZ;simp at eZ
                 by_cases K3:a.tmps.getD dO undef= .bool want
                 · refine ⟨d,v,t_,_,_,_,⟨bW,.inl ⟨(af3 I zO GH xB).2 K3,Qn (cur:=[(dO,want)]) gJ fi I dd ⟨K3,trivial⟩ aC he⟩⟩,I.afw,(show mu (a.put (some d) v) (⟨d,dO,want,v⟩::rq gs d) from ⟨fun _=>aFt I.size af,xk dd⟩),h⟩
                 · refine ⟨d,undef,t_,_,_,_,⟨bW,.inr ⟨by rw [Bool.eq_false_iff];exact fun hw=>K3 ((af3 I zO GH xB).1 hw),rfl⟩⟩,I.afw,(show mu (a.put (some d) undef) (⟨d,dO,want,v⟩::rq gs d) from ⟨fun ai=>?_,xk dd⟩),h⟩
                   simp only at ai
                   rw [Ml G9] at ai
                   exact absurd ai K3
               · cases h
           · rename_i q dI ec
             split at h
             · rename_i b a1
               split at h
               · rename_i tM
                 have tM:b=want:=by simpa using tM
                 subst tM
                 split at h
                 · rename_i v t_ l' aC
                   have he:=(xf (TT h)).1
                   exact ⟨d,v,t_,_,_,_,⟨bW,.inl ⟨cV I zO GH a1 xB,Qn (cur:=[]) gJ fi I dd trivial aC he⟩⟩,I.put af,xk dd,h⟩
                 · cases h
               · rename_i tM
                 exact ⟨d,undef,dI,_,_,_,⟨bW,.inr ⟨aG3 I zO GH a1 tM xB,rfl⟩⟩,I.put af,xk dd,h⟩
             · rename_i a1
               exact ⟨d,undef,dI,_,_,_,⟨bW,.inr ⟨aG4 I zO GH a1 xB,rfl⟩⟩,I.put af,xk dd,h⟩
             · cases h
           · cases h
theorem xh {jj:List (Nat × Value)} {lE:List hj} {lQ:List (Nat × Nat)} (cU:nq lQ):∀ {os:List Oper} {a5:List Nat} {b1:List (Nat × Value)} {gs:List hj} {l:List (Nat × Nat)},ev G ops n M os a5 b1 gs l=some (jj,lE,lQ)->nq l
 | [],a5,b1,gs,l,h=>by
   simp only [ev,Option.some.injEq,Prod.mk.injEq] at h
   rw [h.2.2];exact cU
 | o::rest,a5,b1,gs,l,h=>by
   rw [ev] at h
   split at h
   · cases h
   · split at h
     · cases h
     · split at h
       · split at h
         · exact (xf (xh cU h)).2
         · cases h
       · split at h
         · cases h
         · split at h
           · cases h
           · split at h
             · split at h
               · cases h
               · split at h
                 · exact (xf (xh cU h)).2
                 · cases h
             · split at h
               · split at h
                 · split at h
                   · exact (xf (xh cU h)).2
                   · cases h
                 · exact xh cU h
               · exact xh cU h
               · cases h
             · cases h
theorem afK {w:World} {Q:Exit->Act->World->Prop} (gJ:rO P G) (fi:iT w M) {jj:List (Nat × Value)} {lE:List hj} {lQ:List (Nat × Nat)} (cU:nq lQ):∀ (k:Nat) {rest:List Oper} {a5:List Nat} {b1:List (Nat × Value)} {gs:List hj} {l:List (Nat × Nat)} {a:Act},
 Fr n b1 a->mu a gs->ev G ops n M (rest.take k) a5 b1 gs l=some (jj,lE,lQ)->(∀ bL,Fr n jj bL->wpList P ops Q (rest.drop k) bL w)->wpList P ops Q rest a w
 | 0,rest,a5,b1,gs,l,a,I,_,h,bf=>by
   simp only [List.take_zero,ev,Option.some.injEq,Prod.mk.injEq] at h
   have:=bf a (by rw [<-h.1];exact I)
   simpa using this
 | k+ 1,[],a5,b1,gs,l,a,I,_,h,bf=>by
   simp only [List.take_nil,ev,Option.some.injEq,Prod.mk.injEq] at h
   have:=bf a (by rw [<-h.1];exact I)
   simpa using this
 | k+ 1,o::rest,a5,b1,gs,l,a,I,dd,h,bf=>by
   rw [List.take_succ_cons] at h
   obtain ⟨d,u,dI,fr',zr,l',⟨bW,xF⟩,eY,zN,dK⟩:=Qo (C:=fun aF=>aF=w) gJ (fun aF e=>by subst e;exact fi) I dd h cU (xh cU)
   have next:=afK gJ fi cU k eY zN dK (by simpa using bf)
   refine wpList_step fun K hn=>?_
   rcases xF with ⟨hw,hy,_⟩ | ⟨hw,rfl⟩
   · rw [if_pos hw]
     unfold Oper.wp
     rw [show (execOp a.eval o).run P w=_ from hy w rfl]
     show K (a.put o.dst u) w
     rw [bW]
     exact hn _ _ next
   · rw [if_neg (by simp [hw]),bW]
     exact hn _ _ next
theorem afe {ng:Act->Prop} (gJ:rO P G) (fi:∀ w,C w->iT w M) {jj:List (Nat × Value)} {lE:List hj} {lQ:List (Nat × Nat)} (cU:nq lQ):∀ (k:Nat) {rest:List Oper} {a5:List Nat} {b1:List (Nat × Value)} {gs:List hj} {l:List (Nat × Nat)} {a:Act},
 Fr n b1 a->mu a gs->ev G ops n M (rest.take k) a5 b1 gs l=some (jj,lE,lQ)->(∀ bL,Fr n jj bL->wpQuiet P ops C ng (rest.drop k) bL)->wpQuiet P ops C ng rest a
 | 0,rest,a5,b1,gs,l,a,I,_,h,bf=>by
   simp only [List.take_zero,ev,Option.some.injEq,Prod.mk.injEq] at h
   have:=bf a (by rw [<-h.1];exact I)
   simpa using this
 | k+ 1,[],a5,b1,gs,l,a,I,_,h,bf=>by
   simp only [List.take_nil,ev,Option.some.injEq,Prod.mk.injEq] at h
   have:=bf a (by rw [<-h.1];exact I)
   simpa using this
 | k+ 1,o::rest,a5,b1,gs,l,a,I,dd,h,bf=>by
   rw [List.take_succ_cons] at h
   obtain ⟨d,u,dI,fr',zr,l',⟨bW,xF⟩,eY,zN,dK⟩:=Qo (C:=C) gJ fi I dd h cU (xh cU)
   have next:=afe gJ fi cU k eY zN dK (by simpa using bf)
   unfold wpQuiet
   rcases xF with ⟨hw,hy,_⟩ | ⟨hw,rfl⟩
   · rw [if_pos hw]
     refine ⟨u,fun w hc=>?_,?_⟩
     · unfold Oper.quietAt
       rw [show (execOp a.eval o).run P w=_ from hy w hc]
       exact ⟨rfl,rfl⟩
     · rw [bW];exact next
   · rw [if_neg (by simp [hw]),bW]
     exact next
theorem Qp {os:List Oper} {a5:List Nat} {b1:List (Nat × Value)} {dw:List Nat} {k:List (Nat × Value)} {L:List (Nat × Nat)} (h:j6 G ops n M os a5 b1 dw=some (k,L)):∃ jj lE,ev G ops n M os a5 b1 [] []=some (jj,lE,L)/\Ik jj k:=by
 unfold j6 at h
 split at h
 · rename_i fr' zr l aC
   split at h
   · rename_i k' aS
     simp only [Option.some.injEq,Prod.mk.injEq] at h
     obtain ⟨rfl,rfl⟩:=h
     exact ⟨fr',zr,aC,Qj aS⟩
   · cases h
 · cases h
theorem g5 (k:Nat) (dw a5:List Nat) {w:World} {Q:Exit->Act->World->Prop} {rest:List Oper} {b1 fr':List (Nat × Value)} {L:List Nat} {a:Act} (gJ:rO P G) (fi:iT w M) (I:Fr n b1 a) (he:j6 G ops n M (rest.take k) a5 b1 dw=some (fr',dup L))
 (next:∀ bL,Fr n fr' bL->wpList P ops Q (rest.drop k) bL w):wpList P ops Q rest a w:=by
 obtain ⟨jj,lE,aC,aS⟩:=Qp he
 exact afK (gs:=[]) gJ fi (KH L) k I trivial aC fun bL eY=>next bL (eY.sub aS)
theorem afd (k:Nat) (dw a5:List Nat) {ng:Act->Prop} {rest:List Oper} {b1 fr':List (Nat × Value)} {L:List Nat} {a:Act} (gJ:rO P G) (fi:∀ w,C w->iT w M) (I:Fr n b1 a) (he:j6 G ops n M (rest.take k) a5 b1 dw=some (fr',dup L))
 (next:∀ bL,Fr n fr' bL->wpQuiet P ops C ng (rest.drop k) bL):wpQuiet P ops C ng rest a:=by
 obtain ⟨jj,lE,aC,aS⟩:=Qp he
 exact afe (gs:=[]) gJ fi (KH L) k I trivial aC fun bL eY=>next bL (eY.sub aS)
end
def CG:List Nat->Nat->Bool
 | [],_=>false
 | i::r,j=>Nat.beq i j || CG r j
section
variable {P:Program} {ops:Array Oper} {Q:Exit->Act->World->Prop} {md:Region.Mode} {S:World->Prop} {p:Nat}
def vg (P:Program) (md:Region.Mode) (ops:Array Oper) (Q:Exit->Act->World->Prop) (p:Nat) (S:World->Prop):Nat->Array Bool->Act->World->Prop
 | 0,listed,a,w=>Region.ready md ops listed= []/\Q .normal a w
 | iy+ 1,listed,a,w=>
   (Region.ready md ops listed= []->Q .normal a w) /\
   ∀ i ∈ Region.ready md ops listed,wpOp P ops Q i (fun bL aF=>((listed.setIfInBounds i true).getD p false=false->S aF)/\vg P md ops Q p S iy (listed.setIfInBounds i true) bL aF) a w
theorem af':∀ (iy:Nat) (listed:Array Bool) (a:Act) (w:World),vg P md ops Q p S iy listed a w->wpAny P md ops Q iy listed a w
 | 0,_,_,_,h=>h
 | iy+ 1,_,_,_,h=>⟨h.1,fun i hi=>wpOp_mono (fun bL aF dK=>af' iy _ bL aF dK.2) (h.2 i hi)⟩
theorem afG {CN:Array Bool} {i p:Nat} (h:CN.getD p false=true):(CN.setIfInBounds i true).getD p false=true:=by
 simp only [Array.getD_eq_getD_getElem?,Array.getElem?_setIfInBounds] at h ⊢
 split
 · rename_i e
   subst e
   split
   · rfl
   · rename_i ea
     rw [Array.getElem?_eq_none (by omega)] at h
     cases h
 · exact h
theorem af_ {HR:Nat} {Pv:World->Prop}:∀ (iy:Nat) (listed:Array Bool) (a:Act) (w:World),listed.getD p false=true->vg P md ops Q HR Pv iy listed a w->vg P md ops Q p S iy listed a w
 | 0,_,_,_,_,h=>h
 | iy+ 1,_,_,_,b5,h=>⟨h.1,fun i hi=>wpOp_mono (fun bL aF dK=>⟨fun I=>absurd ((afG b5).symm.trans I) (by simp),af_ iy _ bL aF (afG b5) dK.2⟩) (h.2 i hi)⟩
def xa:List Oper->Nat->Nat->List Nat->List Nat
 | [],_,_,acc=>acc
 | o::r,k,i,acc=>xa r (k+ 1) i (match o.after.toList.any fun e=>Region.binds .any e && (Nat.beq e.on i || CG acc e.on) with | true=>k::acc | false=>acc)
theorem adT {l:List Nat} {j:Nat} (h:CG l j=true):j ∈ l:=by
 induction l with
 | nil=>simp [CG] at h
 | cons i r cn=>
   simp only [CG,Bool.or_eq_true] at h
   rcases h with h | h
   · rw [Nat.eq_of_beq_eq_true h];simp
   · exact List.mem_cons_of_mem _ (cn h)
def JN (ops:Array Oper) (i:Nat) (wJ:List Nat):Prop:=∀ u ∈ wJ,∃ o,ops[u]? =some o/\ ∃ e ∈ o.after,Region.binds .any e=true/\(e.on=i\/e.on ∈ wJ)
theorem abO {ops:Array Oper} {i:Nat}:∀ {l:List Oper} {k:Nat} {acc:List Nat},(∀ m o,l[m]? =some o->ops[k+m]? =some o)->JN ops i acc->JN ops i (xa l k i acc)
 | [],_,_,_,h=>h
 | o::r,k,acc,ax,h=>by
   rw [xa]
   refine abO (fun m lg hm=>by have:=ax (m+ 1) lg (by simpa using hm);rwa [show k+(m+ 1)=k+ 1 +m by omega] at this) ?_
   split
   · rename_i a1
     intro u hu
     rcases List.mem_cons.1 hu with rfl | hu
     · simp only [List.any_eq_true,Bool.and_eq_true,Bool.or_eq_true] at a1
       obtain ⟨e,he,aC,aS⟩:=a1
       refine ⟨o,by simpa using ax 0 o rfl,e,by simpa using he,aC,?_⟩
       rcases aS with aS | aS
       · exact .inl (Nat.eq_of_beq_eq_true aS)
       · exact .inr (List.mem_cons_of_mem _ (adT aS))
     · obtain ⟨lg,G',e,he,aC,aS⟩:=h u hu
       exact ⟨lg,G',e,he,aC,aS.imp id (List.mem_cons_of_mem _)⟩
   · exact h
def X4 (ops:Array Oper) (p i:Nat) (ds:List Nat):Bool:=(match nth ops.toList p with
 | none=>true
 | some _=>CG (xa ops.toList 0 i []) p) && (xa ops.toList 0 i []).all fun u=>!(ht ops.size ds).getD u false
theorem X5 {ops:Array Oper} {p i:Nat} {ds:List Nat} (h:X4 ops p i ds=true):JN ops i (xa ops.toList 0 i [])/\(ops[p]? =none\/p ∈ xa ops.toList 0 i [])/\ ∀ u ∈ xa ops.toList 0 i [],(ht ops.size ds).getD u false=false:=by
 unfold X4 at h
 rw [Bool.and_eq_true] at h
 refine ⟨abO (fun m o hm=>by simpa using hm) (fun u hu=>by simp at hu),?_,fun u hu=>?_⟩
 · have aC:=h.1
   rw [sA,Array.getElem?_toList] at aC
   split at aC
   · rename_i af;exact .inl af
   · exact .inr (adT aC)
 · have:=List.all_eq_true.1 h.2 u hu
   simpa using this
theorem aG7 {i:Nat} {ay:Oper} {v:Value} (hi:ops[i]? =some ay) (Hn:∀ (j:Nat) (o:Oper) cs b,ops[j]? =some o->o.op≠ .select cs b) (tY:p≠i)
 (gn:∀ c a w,Q (.panic c) (a.put ay.dst v) w->Q (.panic c) a w) {wJ:List Nat} (aof:JN ops i wJ) (azi:ops[p]? =none\/p ∈ wJ) :
 ∀ (iy:Nat) (listed:Array Bool) (a:Act) (w:World),
   (∀ j jQ,ops[j]? =some jQ->j≠i->listed.getD j true=false->(∀ e ∈ jQ.after,Region.binds .any e=true->e.on≠i)->ay.apart ops jQ=true) ->
   listed.getD p false=false->(∀ u ∈ wJ,listed.getD u false=false)->i ∈ Region.ready .any ops listed->YieldsIf P ops S ay v a->S w ->
   vg P .any ops Q p S iy (listed.setIfInBounds i true) (a.put ay.dst v) w->vg P .any ops Q p S (iy+ 1) listed a w:=by
 intro iy
 induction iy with
 | zero=>
   intro listed a w _ _ _ bR hy iz H
   refine ⟨fun h=>(by rw [h] at bR;cases bR),fun j bc=>?_⟩
   by_cases iR:j=i
   · subst iR;exact hy.wpOp hi iz ⟨fun _=>iz,H⟩
   · have:=ready_mono bc iR
     rw [H.1] at this
     cases this
 | succ iy cn=>
   intro listed a w GK nA xG bR hy iz H
   refine ⟨fun h=>(by rw [h] at bR;cases bR),fun j bc=>?_⟩
   by_cases iR:j=i
   · subst iR;exact hy.wpOp hi iz ⟨fun _=>iz,H⟩
   · have aC:=H.2 j (ready_mono bc iR)
     obtain ⟨G5,jQ,tX,oy⟩:=mem_ready.1 bc
     have zY:∀ e ∈ jQ.after,Region.binds .any e=true->e.on≠i:=fun e he a1 heq=>by
      have aC:=oy e he a1
      have bJ:=(mem_ready.1 bR).1
      rw [heq] at aC
      rcases Nat.lt_or_ge i listed.size with dK | dK
      · simp [dK] at bJ aC;rw [bJ] at aC;cases aC
      · simp [Array.getElem?_eq_none dK] at aC
     have adf:j ∉ wJ:=fun TN=>by
      obtain ⟨lg,G',e,he,a1,aS⟩:=aof j TN
      rw [tX] at G'
      simp only [Option.some.injEq] at G'
      subst G'
      rcases aS with aS | aS
      · exact zY e he a1 aS
      · have bV:=oy e he a1
        rw [xG _ aS] at bV
        cases bV
     have adg:j≠p:=fun e=>by
      subst e
      rcases azi with h | h
      · rw [tX] at h;cases h
      · exact adf h
     have aBg:∀ u ∈ wJ,(listed.setIfInBounds j true).getD u false=false:=fun u hu=>by
      have:=xG u hu
      have eZ:j≠u:=fun e=>adf (e ▸ hu)
      simp only [Array.getD_eq_getD_getElem?,Array.getElem?_setIfInBounds,if_neg eZ] at this ⊢
      exact this
     have T0:(listed.setIfInBounds j true).getD p false=false:=by
      simp only [Array.getD_eq_getD_getElem?,Array.getElem?_setIfInBounds,if_neg adg] at nA ⊢
      exact nA
     have adk:((listed.setIfInBounds i true).setIfInBounds j true).getD p false=false:=by
      simp only [Array.getD_eq_getD_getElem?,Array.getElem?_setIfInBounds,if_neg adg,if_neg (Ne.symm tY)] at nA ⊢
      exact nA
     have aS:=wpOp_putIf tX (GK j jQ tX iR G5 zY) (fun cs b=>Hn i ay cs b hi) (fun cs b=>Hn j jQ cs b tX) gn hy aC
     have RL:∀ k ok,ops[k]? =some ok->k≠i->(listed.setIfInBounds j true).getD k true=false ->
      (∀ e ∈ ok.after,Region.binds .any e=true->e.on≠i)->ay.apart ops ok=true:=fun k ok bf TP xG mL=>by
      refine GK k ok bf TP ?_ mL
      by_cases zU:j=k
      · subst zU;exact G5
      · rw [getD_set_ne true zU] at xG;exact xG
     refine wpOp_mono (fun bL aF bV=>⟨fun _=>bV.2.1 adk,cn (listed.setIfInBounds j true) bL aF RL T0 aBg (ready_mono bR (Ne.symm iR)) bV.1 (bV.2.1 adk) ?_⟩) aS
     rw [Array.setIfInBounds_comm _ _ iR]
     exact bV.2.2
theorem af9 {i:Nat} {ay:Oper} {v:Value} (hi:ops[i]? =some ay) (Hn:∀ (j:Nat) (o:Oper) cs b,ops[j]? =some o->o.op≠ .select cs b) (tY:p≠i)
 (gn:∀ c a w,Q (.panic c) (a.put ay.dst v) w->Q (.panic c) a w) :
 ∀ (iy:Nat) (listed:Array Bool) (a:Act) (w:World),
   (∀ j jQ,ops[j]? =some jQ->j≠i->listed.getD j true=false->(∀ e ∈ jQ.after,Region.binds .any e=true->e.on≠i)->ay.apart ops jQ=true) ->
   (listed.getD p false=false->S w)->i ∈ Region.ready .any ops listed->YieldsIf P ops (fun _=>True) ay v a ->
   vg P .any ops Q p S iy (listed.setIfInBounds i true) (a.put ay.dst v) w->vg P .any ops Q p S (iy+ 1) listed a w:=by
 have Ho:∀ (CN:Array Bool) (b:Bool),(CN.setIfInBounds i true).getD p b=CN.getD p b:=fun CN b=>by
  simp only [Array.getD_eq_getD_getElem?,Array.getElem?_setIfInBounds,if_neg (Ne.symm tY)]
 intro iy
 induction iy with
 | zero=>
   intro listed a w _ iz bR hy H
   refine ⟨fun h=>(by rw [h] at bR;cases bR),fun j bc=>?_⟩
   by_cases iR:j=i
   · subst iR;exact hy.wpOp hi trivial ⟨fun h=>iz (by rwa [Ho] at h),H⟩
   · have:=ready_mono bc iR
     rw [H.1] at this
     cases this
 | succ iy cn=>
   intro listed a w GK iz bR hy H
   refine ⟨fun h=>(by rw [h] at bR;cases bR),fun j bc=>?_⟩
   by_cases iR:j=i
   · subst iR;exact hy.wpOp hi trivial ⟨fun h=>iz (by rwa [Ho] at h),H⟩
   · have aC:=H.2 j (ready_mono bc iR)
     obtain ⟨G5,jQ,tX,oy⟩:=mem_ready.1 bc
     have zY:∀ e ∈ jQ.after,Region.binds .any e=true->e.on≠i:=fun e he a1 heq=>by
      have aC:=oy e he a1
      have bJ:=(mem_ready.1 bR).1
      rw [heq] at aC
      rcases Nat.lt_or_ge i listed.size with dK | dK
      · simp [dK] at bJ aC;rw [bJ] at aC;cases aC
      · simp [Array.getElem?_eq_none dK] at aC
     have aS:=wpOp_putIf tX (GK j jQ tX iR G5 zY) (fun cs b=>Hn i ay cs b hi) (fun cs b=>Hn j jQ cs b tX) gn hy aC
     have RL:∀ k ok,ops[k]? =some ok->k≠i->(listed.setIfInBounds j true).getD k true=false ->
      (∀ e ∈ ok.after,Region.binds .any e=true->e.on≠i)->ay.apart ops ok=true:=fun k ok bf TP xG mL=>by
      refine GK k ok bf TP ?_ mL
      by_cases zU:j=k
      · subst zU;exact G5
      · rw [getD_set_ne true zU] at xG;exact xG
     have acC:∀ aF,(((listed.setIfInBounds i true).setIfInBounds j true).getD p false=false->S aF)->(listed.setIfInBounds j true).getD p false=false->S aF:=fun aF ai xC=>
      ai (by rw [Array.setIfInBounds_comm _ _ (Ne.symm iR),Ho];exact xC)
     refine wpOp_mono (fun bL aF bV=>⟨acC aF bV.2.1,cn (listed.setIfInBounds j true) bL aF RL (acC aF bV.2.1) (ready_mono bR (Ne.symm iR)) bV.1 ?_⟩) aS
     rw [Array.setIfInBounds_comm _ _ iR]
     exact bV.2.2
end
def eC (P:Program) (ops:Array Oper) (Q:Exit->Act->World->Prop) (p:Nat) (S:World->Prop) (f:Nat) (ds:List Nat) (a:Act) (w:World):Prop:=((ht ops.size ds).getD p false=false->S w)/\vg P .any ops (NoPanic Q) p S f (ht ops.size ds) a w
def At (ops:List Oper):List Nat->Option (List Oper)
 | []=>some []
 | i::r=>match nth ops i,At ops r with
   | some o,some os=>some (o::os)
   | _,_=>none
def aeW (ops:Array Oper) (i:Nat):Bool:=match nth ops.toList i with
 | some o=>!CH o.op
 | none=>false
def Dm (ops:Array Oper) (p:Nat):List Nat->List Nat->Bool
 | _,[]=>true
 | ds,i::r=>M2 ops ds i && (X4 ops p i ds || aeW ops i) && !Nat.beq p i && Dm ops p (i::ds) r
def H5:List Nat->List Nat->List Nat
 | [],ds=>ds
 | i::r,ds=>H5 r (i::ds)
section
variable {P:Program} {G:mb} {ops:Array Oper} {n:g8} {M:List (Nat × Nat × List Value)} {S:World->Prop} {Q:Exit->Act->World->Prop} {a:Act} {w:World} {f p:Nat} {ds:List Nat}
theorem aE1 (i:Nat):ht ops.size (i::ds)=(ht ops.size ds).setIfInBounds i true:=rfl
theorem eC.wpAny (h:eC P ops Q p S f ds a w):Go.wpAny P .any ops (NoPanic Q) f (ht ops.size ds) a w:=af' f _ a w h.2
theorem hk {id m:Nat} {lo:List Oper} (p:Nat) (S:World->World->Prop) (hm:P.follows .mixedOrders=true) (ax:Nat.beq lo.length m=true) (h:∀ aF,ba [] w aF->eC P lo.toArray Q p (S aF) m [] a aF):(Code.region id lo.toArray true).wp P Q a w:=by
 have ax:=Nat.eq_of_beq_eq_true ax
 subst ax
 exact wp_region_noPanic (wp_region_any hm (h _ (ba.drew [] w)).wpAny)
theorem fm (hc:(Region.ready .any ops (ht ops.size ds)).isEmpty=true) (h:Q .normal a w) (iz:(ht ops.size ds).getD p false=false->S w):eC P ops Q p S f ds a w:=by
 refine ⟨iz,?_⟩
 have bR:=List.isEmpty_iff.1 hc
 cases f with
 | zero=>exact ⟨bR,NoPanic.normal h⟩
 | succ f=>exact ⟨fun _=>NoPanic.normal h,by rw [bR];simp⟩
theorem eC.next (HR:Nat) (Pv:World->Prop) (b5:(ht ops.size ds).getD p false=true) (h:eC P ops Q HR Pv f ds a w):eC P ops Q p S f ds a w:=
 ⟨fun I=>absurd (b5.symm.trans I) (by simp),af_ f _ a w b5 h.2⟩
theorem ZN (gJ:rO P G) (fi:∀ w,S w->iT w M) (ox:S w) {jj:List (Nat × Value)} {lE:List hj} {lQ:List (Nat × Nat)} (cU:nq lQ):∀ (is:List Nat) {os:List Oper} {a5 ds:List Nat} {b1:List (Nat × Value)} {gs:List hj} {l:List (Nat × Nat)} {a:Act},
 (ht ops.size ds).getD p false=false->At ops.toList is=some os->Dm ops p ds is=true->Fr n b1 a->mu a gs->ev G ops n M os a5 b1 gs l=some (jj,lE,lQ)->(∀ bL,Fr n jj bL->eC P ops Q p S f (H5 is ds) bL w)->eC P ops Q p S (f+is.length) ds a w
 | [],os,a5,ds,b1,gs,l,a,_,bm,_,I,_,h,bf=>by
   simp only [At,Option.some.injEq] at bm
   subst bm
   simp only [ev,Option.some.injEq,Prod.mk.injEq] at h
   exact bf a (by rw [<-h.1];exact I)
 | i::is,os,a5,ds,b1,gs,l,a,nA,bm,bO,I,dd,h,bf=>by
   simp only [At] at bm
   split at bm
   · rename_i o aJU aC aS
     simp only [Option.some.injEq] at bm
     subst bm
     rw [sA,Array.getElem?_toList] at aC
     simp only [Dm,Bool.and_eq_true,Bool.not_eq_true'] at bO
     obtain ⟨⟨⟨pr,xI⟩,tY⟩,aBf⟩:=bO
     have Ha:p≠i:=fun e=>by rw [e] at tY;simp at tY
     obtain ⟨d,u,dI,fr',zr,l',⟨bW,xF⟩,eY,zN,dK⟩:=Qo (C:=S) gJ fi I dd h cU (xh cU)
     have T0:(ht ops.size (i::ds)).getD p false=false:=by
      rw [aE1]
      simp only [Array.getD_eq_getD_getElem?,Array.getElem?_setIfInBounds,if_neg (Ne.symm Ha)] at nA ⊢
      exact nA
     have next:=ZN gJ fi ox cU is T0 aS aBf eY zN dK bf
     simp only [M2,Bool.and_eq_true] at pr
     refine ⟨fun _=>ox,?_⟩
     have:=next.2
     rw [show f+(i::is).length=f+is.length+ 1 by simp [Nat.add_assoc]]
     rw [Bool.or_eq_true] at xI
     rcases xI with xI | TV
     · refine aG7 (v:=u) aC (Region.noSelect_spec pr.1.1) Ha (fun c a w h=>h) (X5 xI).1 (X5 xI).2.1 (f+is.length) _ a w (Region.free_spec aC pr.1.2) nA (X5 xI).2.2 (by simpa using pr.2) (xF.imp (fun ⟨x,y,_⟩=>⟨x,y⟩) id) ox ?_
       rw [bW]
       exact this
     · have azb:CH o.op=false:=by
        unfold aeW at TV
        rw [sA,Array.getElem?_toList,aC] at TV
        simpa using TV
       refine af9 (v:=u) aC (Region.noSelect_spec pr.1.1) Ha (fun c a w h=>h) (f+is.length) _ a w (Region.free_spec aC pr.1.2) (fun _=>ox) (by simpa using pr.2) (xF.imp (fun ⟨x,_,y⟩=>⟨x,fun w _=>y azb w⟩) id) ?_
       rw [bW]
       exact this
   · cases bm
theorem ahw (is:List Nat) (k:Nat) (dw a5:List Nat) {os:List Oper} {b1 fr':List (Nat × Value)} {L:List Nat} (gJ:rO P G) (fi:∀ w,S w->iT w M) (I:Fr n b1 a) (bf:Nat.beq is.length k=true) (nA:(ht ops.size ds).getD p false=false) (hi:At ops.toList is=some os) (bO:Dm ops p ds is=true)
 (he:j6 G ops n M os a5 b1 dw=some (fr',dup L)) (ox:S w) (next:∀ bL,Fr n fr' bL->eC P ops Q p S f (H5 is ds) bL w):eC P ops Q p S (f+k) ds a w:=by
 have bf:=Nat.eq_of_beq_eq_true bf
 subst bf
 obtain ⟨jj,lE,aC,aS⟩:=Qp he
 exact ZN (gs:=[]) gJ fi ox (KH L) is nA hi bO I trivial aC fun bL eY=>next bL (eY.sub aS)
theorem da (i:Nat) {o:Oper} (hi:ops[i]? =some o) (hc:(Region.ready .any ops (ht ops.size ds) == [i])=true) (iz:(ht ops.size ds).getD p false=false->S w) (h:wpList P ops (Bv (eC P ops Q p S f (i::ds)) (NoPanic Q)) [o] a w):eC P ops Q p S (f+ 1) ds a w:=by
 have bR:=eq_of_beq hc
 refine ⟨iz,⟨fun bJ=>(by rw [bR] at bJ;cases bJ),fun j bc=>?_⟩⟩
 rw [bR] at bc
 have:j=i:=by simpa using bc
 subst this
 exact X7 hi h
theorem ZK (i j:Nat) {o lg:Oper} (hi:ops[i]? =some o) (bc:ops[j]? =some lg) (hc:(Region.ready .any ops (ht ops.size ds) == [i,j])=true) (iz:(ht ops.size ds).getD p false=false->S w) (h:wpList P ops (Bv (eC P ops Q p S f (i::ds)) (NoPanic Q)) [o] a w)
 (dK:wpList P ops (Bv (eC P ops Q p S f (j::ds)) (NoPanic Q)) [lg] a w):eC P ops Q p S (f+ 1) ds a w:=by
 have bR:=eq_of_beq hc
 refine ⟨iz,⟨fun bJ=>(by rw [bR] at bJ;cases bJ),fun q ec=>?_⟩⟩
 rw [bR] at ec
 have:q=i\/q=j:=by simpa using ec
 rcases this with rfl | rfl
 · exact X7 hi h
 · exact X7 bc dK
theorem c5 (h:eC P ops Q p S f ds a w):wpList P ops (Bv (eC P ops Q p S f ds) (NoPanic Q)) [] a w:=h
end
end aZ
namespace aZ
open Go Go.RowKit J
theorem PE (p q:List UInt8):((⟨⟨p⟩⟩:ByteArray) == ⟨⟨q⟩⟩)=decide (p=q):=by
 show ((⟨p⟩:Array UInt8) == ⟨q⟩)=_
 rw [Bool.eq_iff_iff];simp
structure sX (κ:Type) [DecidableEq κ] where
 enc:κ->Value
 desc:TypeDesc
 same:∀ a b,Instr.sameNow desc (enc a) (enc b)=some (decide (b=a))
 bits:∀ a,Instr.sameBits 10000 (enc a) (enc a)=true
 check:∀ (P:Program) (w:World) (e:Bool) (t:TypeId) (a:κ),P.underlying t=some desc->(Instr.checkKey e 10000 t (enc a)).run P w= .ok () w
def e6:sX Int where
 enc n:=.int .i64 n
 desc:=.int .i64
 same a b:=by
  simp only [Instr.sameNow,if_true,Option.some.injEq]
  rw [Bool.eq_iff_iff]
  simp only [beq_iff_eq,decide_eq_true_iff]
  exact eq_comm
 bits a:=by
  have h:∀ n,Instr.sameBits n (.int .i64 a) (.int .i64 a)=true:=fun n=>by cases n <;> simp [Instr.sameBits]
  exact h 10000
 check P w e t a h:=by
  have dK:∀ n:Nat,(Instr.checkKey e (n+ 1) t (.int .i64 a)).run P w= .ok () w:=fun n=>by simp [Instr.checkKey,run_underlying h]
  exact dK 9999
def dn:sX (List UInt8) where
 enc s:=ao s
 desc:=.string
 same a b:=by
  simp only [Instr.sameNow,Option.some.injEq]
  have e:decide (a=b)=decide (b=a):=by rw [decide_eq_decide];exact eq_comm
  exact (PE a b).trans e
 bits a:=by
  have h:∀ n,Instr.sameBits n (ao a) (ao a)=true:=fun n=>by
   have e:((⟨⟨a⟩⟩:ByteArray) == ⟨⟨a⟩⟩)=true:=(PE a a).trans (by simp)
   cases n <;> (simp only [Instr.sameBits];exact e)
  exact h 10000
 check P w e t a h:=by
  have dK:∀ n:Nat,(Instr.checkKey e (n+ 1) t (ao a)).run P w= .ok () w:=fun n=>by simp [Instr.checkKey,run_underlying h]
  exact dK 9999
section
variable {κ β:Type} [DecidableEq κ] (K:sX κ) (ev:β->Value)
def im (es:List MapEntry) (d:List (κ × β)):Prop:=es.map (fun e=>(e.key,e.val))=d.map (fun p=>(K.enc p.1,ev p.2))
def rP (w:World) (r:Nat) (d:List (κ × β)):Prop:=∃ es clock,w.heap[r]? =some (.map es clock)/\im K ev es.toList d/\(es.toList.map (·.born)).Pairwise (· < ·)/\ ∀ e ∈ es.toList,e.born <clock
def aq.map (r:Nat) (d:List (κ × β)):aq where
 fE:=[r]
 ok w:=rP K ev w r d
 law w aF h bf:=by
  obtain ⟨es,c,aC,aS⟩:=bf
  exact ⟨es,c,(h r (by simp)).trans aC,aS⟩
def al.map (r:Nat) (d:List (κ × β)):al where
 ok M w:=r ∉ M/\r <w.heap.size/\rP K ev w r d
 law M io w aF ad hm h:=by
  obtain ⟨aC,aS,es,c,bV,er⟩:=h
  exact ⟨fun ai=>by rcases hm r ai with e | e;exact aC e;omega,Nat.lt_of_lt_of_le aS ad.size,es,c,(ad.block r aS aC).trans bV,er⟩
end
section
variable {κ β:Type} [DecidableEq κ] {K:sX κ} {ev:β->Value}
theorem ab_ {k:κ}:∀ {es:List MapEntry} {d:List (κ × β)} (i:Nat),im K ev es d->Instr.findNow K.desc (K.enc k) es i=some ((kC d k).bind fun p=>(dp d k).map fun v=>(i+p,ev v))
 | [],[],i,_=>rfl
 | [],_::_,_,h=>by simp [im] at h
 | _::_,[],_,h=>by simp [im] at h
 | e::es,p::d,i,h=>by
   simp only [im,List.map_cons,List.cons.injEq,Prod.mk.injEq] at h
   obtain ⟨⟨aC,aS⟩,bV⟩:=h
   simp only [Instr.findNow,aC,K.same,kC,dp]
   by_cases b5:p.1 =k
   · simp [b5,aS]
   · simp only [b5,decide_false,if_false]
     rw [ab_ (i+ 1) bV]
     cases hm:kC d k with
     | none=>rfl
     | some q=>simp only [Option.bind_some,Option.map_some];rw [show i+ 1 +q=i+(q+ 1) by omega]
theorem Mb {k:κ}:∀ {d:List (κ × β)},(kC d k).isSome=(dp d k).isSome
 | []=>rfl
 | p::d=>by
   simp only [kC,dp]
   by_cases b5:p.1 =k
   · simp [b5]
   · simp [b5,Mb]
variable {P:Program} {o:Oper} {a:Act} {w:World} {x y z:Operand} {t lO xg:TypeId} {r:Nat} {d:List (κ × β)} {k:κ} {v:β}
theorem run_findKey {es:Array MapEntry} (bf:P.underlying lO=some K.desc) (he:im K ev es.toList d):(Instr.findKey lO (K.enc k) es.toList).run P w= .ok ((kC d k).bind fun p=>(dp d k).map fun v=>(p,ev v)) w:=by
 have h:=ab_ (k:=k) 0 he
 simp only [Nat.zero_add] at h
 simp only [Instr.findKey,Sem.run_bind,run_underlying bf,Result.andThen_ok,h]
 rfl
theorem aIf (bm:o.op= .makeMap t none):cf P o a w (.map (some w.heap.size)) (w.alloc (.map #[] 0)):=by
 simp only [cf,execOp,bm,Sem.run_bind]
 rfl
theorem aEV (w:World):(aq.map K ev w.heap.size ([]:List (κ × β))).ok (w.alloc (.map #[] 0)):=⟨#[],0,heap_alloc_new w _,rfl,by simp,by simp⟩
theorem I4 {I6:β} (bO:P.underlying t=some (.map lO xg)) (bf:P.underlying lO=some K.desc) (cU:∀ w,(zeroValue xg).run P w= .ok (ev I6) w) (hm:rP K ev w r d) (bm:o.op= .lookup t x y true) (ai:a.eval x= .map (some r)) (hy:a.eval y=K.enc k) :
 cf P o a w (.tuple #[ev ((dp d k).getD I6),.bool (dp d k).isSome]) w:=by
 obtain ⟨es,clock,aC,aS,_⟩:=hm
 have I:=run_findKey (P:=P) (w:=w) (k:=k) bf aS
 simp only [cf,execOp,bm,ai,hy,Instr.lookup,Sem.run_bind,Sem.run_pure,run_underlying bO,Result.andThen_ok,MapKept.run_getObj_map aC,K.check P w es.isEmpty lO k bf,I]
 have a5:=Mb (k:=k) (d:=d)
 cases b5:kC d k with
 | none=>
   rw [b5] at a5
   cases dd:dp d k with
   | none=>
     simp only [Option.bind_none,Sem.run_bind,Sem.run_pure,cU,Result.andThen_ok]
     rfl
   | some u=>rw [dd] at a5;cases a5
 | some p=>
   rw [b5] at a5
   cases dd:dp d k with
   | none=>rw [dd] at a5;cases a5
   | some u=>rfl
theorem I3 {I6:β} (bO:P.underlying t=some (.map lO xg)) (bf:P.underlying lO=some K.desc) (cU:∀ w,(zeroValue xg).run P w= .ok (ev I6) w) (hm:rP K ev w r d) (bm:o.op= .lookup t x y false) (ai:a.eval x= .map (some r)) (hy:a.eval y=K.enc k) :
 cf P o a w (ev ((dp d k).getD I6)) w:=by
 obtain ⟨es,clock,aC,aS,_⟩:=hm
 have I:=run_findKey (P:=P) (w:=w) (k:=k) bf aS
 simp only [cf,execOp,bm,ai,hy,Instr.lookup,Sem.run_bind,Sem.run_pure,run_underlying bO,Result.andThen_ok,MapKept.run_getObj_map aC,K.check P w es.isEmpty lO k bf,I]
 have a5:=Mb (k:=k) (d:=d)
 cases b5:kC d k with
 | none=>
   rw [b5] at a5
   cases dd:dp d k with
   | none=>
     simp only [Option.bind_none,Sem.run_bind,Sem.run_pure,cU,Result.andThen_ok]
     rfl
   | some u=>rw [dd] at a5;cases a5
 | some p=>
   rw [b5] at a5
   cases dd:dp d k with
   | none=>rw [dd] at a5;cases a5
   | some u=>rfl
theorem Yt (bO:P.underlying t=some (.map lO xg)) (hm:rP K ev w r d) (bm:o.op= .call { callee:=.builtin .len,args:=#[x],argTypes:=#[t] }) (ai:a.eval x= .map (some r)):cf P o a w (.int .i64 (d.length:Int)) w:=by
 obtain ⟨es,clock,aC,aS,_⟩:=hm
 have ax:es.size=d.length:=by
  have:=congrArg List.length aS
  simpa using this
 simp only [cf,execOp,bm,resolve,invoke,List.map_toArray,List.map_cons,List.map_nil,ai]
 simp [go_sem,Builtin.len_,run_underlying bO,goInt,MapKept.run_getObj_map aC,ax]
theorem abZ {k:κ} {v:β}:∀ {es:List MapEntry} {d:List (κ × β)} {p:Nat},im K ev es d->kC d k=some p->im K ev (es.modify p fun e=>{ e with key:=K.enc k,val:=ev v }) (hD d k v)
 | [],[],_,_,b5=>by simp [kC] at b5
 | [],_::_,_,h,_=>by simp [im] at h
 | _::_,[],_,h,_=>by simp [im] at h
 | e::es,q::d,p,h,b5=>by
   simp only [im,List.map_cons,List.cons.injEq,Prod.mk.injEq] at h
   obtain ⟨⟨aC,aS⟩,bV⟩:=h
   simp only [kC] at b5
   by_cases ec:q.1 =k
   · simp only [ec,if_true,Option.some.injEq] at b5
     subst b5
     simp only [hD,ec,if_true,im,List.modify_zero_cons,List.map_cons,List.cons.injEq,true_and]
     exact bV
   · simp only [ec,if_false,Option.map_eq_some_iff] at b5
     obtain ⟨HR,xC,rfl⟩:=b5
     have:=abZ (v:=v) bV xC
     simp only [hD,ec,if_false,im,List.modify_succ_cons,List.map_cons,List.cons.injEq,Prod.mk.injEq,aC,aS,and_self,true_and]
     exact this
theorem abY {k:κ} {v:β} {c:Nat}:∀ {es:List MapEntry} {d:List (κ × β)},im K ev es d->kC d k=none->im K ev (es++[{ key:=K.enc k,val:=ev v,born:=c }]) (hD d k v)
 | [],[],_,_=>rfl
 | [],_::_,h,_=>by simp [im] at h
 | _::_,[],h,_=>by simp [im] at h
 | e::es,q::d,h,b5=>by
   simp only [im,List.map_cons,List.cons.injEq,Prod.mk.injEq] at h
   obtain ⟨⟨aC,aS⟩,bV⟩:=h
   simp only [kC] at b5
   by_cases ec:q.1 =k
   · simp [ec] at b5
   · simp only [ec,if_false,Option.map_eq_none_iff] at b5
     have:=abY (v:=v) (c:=c) bV b5
     simp only [hD,ec,if_false,im,List.cons_append,List.map_cons,List.cons.injEq,Prod.mk.injEq,aC,aS,and_self,true_and]
     exact this
theorem abX {k:κ}:∀ {es:List MapEntry} {d:List (κ × β)} {p:Nat},im K ev es d->kC d k=some p-> ∃ e,es[p]? =some e/\e.key=K.enc k
 | [],[],_,_,b5=>by simp [kC] at b5
 | [],_::_,_,h,_=>by simp [im] at h
 | _::_,[],_,h,_=>by simp [im] at h
 | e::es,q::d,p,h,b5=>by
   simp only [im,List.map_cons,List.cons.injEq,Prod.mk.injEq] at h
   obtain ⟨⟨aC,aS⟩,bV⟩:=h
   simp only [kC] at b5
   by_cases ec:q.1 =k
   · simp only [ec,if_true,Option.some.injEq] at b5
     subst b5
     exact ⟨e,rfl,by rw [aC,ec]⟩
   · simp only [ec,if_false,Option.map_eq_some_iff] at b5
     obtain ⟨HR,xC,rfl⟩:=b5
     simpa using abX bV xC
theorem aIg (bO:P.underlying t=some (.map lO xg)) (bf:P.underlying lO=some K.desc) (hm:rP K ev w r d) (bm:o.op= .mapUpdate t x y z\/o.op= .insert t x y z) (ai:a.eval x= .map (some r)) (hy:a.eval y=K.enc k) (cU:a.eval z=ev v) :
 ∃ aF,wK P o a w aF/\ba [r] w aF/\rP K ev aF r (hD d k v):=by
 obtain ⟨es,clock,aC,aS,bV,er⟩:=hm
 have I:=run_findKey (P:=P) (w:=w) (k:=k) bf aS
 have a5:=Mb (k:=k) (d:=d)
 have ea:r <w.heap.size:=(Array.getElem?_eq_some_iff.1 aC).1
 have lI:∀ lg:Obj,ba [r] w { w with heap:=w.heap.setIfInBounds r lg }:=fun lg=>⟨rfl,rfl,rfl,by simp,fun q _ af=>by
  rw [Array.getElem?_setIfInBounds,if_neg (fun e=>af (by simp [e]))]⟩
 cases b5:kC d k with
 | none=>
   rw [b5] at I
   refine ⟨{ w with heap:=w.heap.setIfInBounds r (.map (es.push { key:=K.enc k,val:=ev v,born:=clock }) (clock+ 1)) },?_,lI _,es.push { key:=K.enc k,val:=ev v,born:=clock },clock+ 1,?_,?_,?_,?_⟩
   · rcases bm with bm | bm <;>
     · simp only [wK,execOp,bm,ai,hy,cU,Instr.mapUpdate,Sem.run_bind,run_underlying bO,Result.andThen_ok,MapKept.run_getObj_map aC,K.check P w false lO k bf,I,Option.bind_none,MapKept.run_setObj_map _ aC]
       rfl
   · simp [ea]
   · simpa using abY aS b5
   · simp only [Array.toList_push,List.map_append,List.map_cons,List.map_nil,List.pairwise_append]
     refine ⟨bV,by simp,fun b a1 c hc=>?_⟩
     obtain ⟨e,he,rfl⟩:=List.mem_map.1 a1
     simp only [List.mem_singleton] at hc
     subst hc
     exact er e he
   · intro e he
     simp only [Array.toList_push,List.mem_append,List.mem_singleton] at he
     rcases he with he | rfl
     · exact Nat.lt_succ_of_lt (er e he)
     · exact Nat.lt_succ_self _
 | some p=>
   rw [b5] at I a5
   obtain ⟨e,he,avw⟩:=abX (k:=k) aS b5
   cases dd:dp d k with
   | none=>rw [dd] at a5;cases a5
   | some u=>
     rw [dd] at I
     have avs:es[p]? =some e:=by simpa using he
     have acG:((es.modify p fun e=>{ e with key:=K.enc k,val:=ev v }).toList.map (·.born))=es.toList.map (·.born):=by
      rw [Array.toList_modify]
      apply List.ext_getElem?
      intro i
      simp only [List.getElem?_map,List.getElem?_modify]
      cases hi:es.toList[i]? with
      | none=>simp
      | some e'=>by_cases ayc:p=i <;> simp [ayc]
     refine ⟨{ w with heap:=w.heap.setIfInBounds r (.map (es.modify p fun e=>{ e with key:=K.enc k,val:=ev v }) clock) },?_,lI _,es.modify p fun e=>{ e with key:=K.enc k,val:=ev v },clock,?_,?_,?_,?_⟩
     · have ayg:(Instr.keyThatStays e.key (K.enc k)).run P w= .ok (K.enc k) w:=by
        rw [avw];simp only [Instr.keyThatStays,K.bits,if_true];rfl
       rcases bm with bm | bm <;>
       · simp only [wK,execOp,bm,ai,hy,cU,Instr.mapUpdate,Sem.run_bind,run_underlying bO,Result.andThen_ok,MapKept.run_getObj_map aC,K.check P w false lO k bf,I,Option.bind_some,Option.map_some,avs,Option.getD_some,ayg,MapKept.run_setObj_map _ aC]
         rfl
     · simp [ea]
     · rw [Array.toList_modify];exact abZ aS b5
     · rw [acG];exact bV
     · intro bM avt
       have:bM.born ∈ es.toList.map (·.born):=by rw [<-acG];exact List.mem_map.2 ⟨bM,avt,rfl⟩
       obtain ⟨b7,avu,heq⟩:=List.mem_map.1 this
       rw [<-heq];exact er b7 avu
end
end aZ
namespace aZ
open Go Go.RowKit J
def ZD (E:List aq):Prop:=∀ (i:Nat) (x:aq),E[i]? =some x->x.fE.Nodup/\ ∀ (j:Nat) (y:aq),E[j]? =some y->i≠j-> ∀ k ∈ x.fE,k ∉ y.fE
theorem KN:∀ {E:List aq},(cL E).Nodup->ZD E
 | [],_=>fun i x h=>by simp at h
 | e::E,h=>by
   have dK:(e.fE++cL E).Nodup:=by simpa [cL] using h
   rw [List.nodup_append] at dK
   obtain ⟨aC,aS,bV⟩:=dK
   have cn:=KN aS
   intro i x ai
   cases i with
   | zero=>
     simp only [List.getElem?_cons_zero,Option.some.injEq] at ai
     subst ai
     refine ⟨aC,fun j y hy eZ k bf kb=>?_⟩
     cases j with
     | zero=>exact eZ rfl
     | succ j=>exact bV k bf k (List.mem_flatMap.2 ⟨y,List.mem_of_getElem? (by simpa using hy),kb⟩) rfl
   | succ i=>
     have ai:E[i]? =some x:=by simpa using ai
     refine ⟨(cn i x ai).1,fun j y hy eZ k bf kb=>?_⟩
     cases j with
     | zero=>
       simp only [List.getElem?_cons_zero,Option.some.injEq] at hy
       subst hy
       exact bV k kb k (List.mem_flatMap.2 ⟨x,List.mem_of_getElem? ai,bf⟩) rfl
     | succ j=>exact (cn i x ai).2 j y (by simpa using hy) (by omega) k bf kb
theorem aeX:∀ {E:List aq},ZD E->(cL E).Nodup
 | [],_=>by simp [cL]
 | e::E,h=>by
   have bM:cL (e::E)=e.fE++cL E:=by simp [cL]
   rw [bM,List.nodup_append]
   refine ⟨(h 0 e rfl).1,aeX fun i x ai=>⟨(h (i+ 1) x (by simpa using ai)).1,fun j y hy eZ k bf=>(h (i+ 1) x (by simpa using ai)).2 (j+ 1) y (by simpa using hy) (by omega) k bf⟩,fun a bx b a1 K2=>?_⟩
   subst K2
   obtain ⟨x,ai,bf⟩:=List.mem_flatMap.1 a1
   obtain ⟨i,hi,rfl⟩:=List.mem_iff_getElem.1 ai
   exact (h 0 e rfl).2 (i+ 1) E[i] (by simp [hi]) (by omega) a bx bf
def Dg (E:List aq):List Nat->Option (List aq)
 | []=>some []
 | i::r=>match nth E i,Dg E r with
   | some x,some xs=>some (x::xs)
   | _,_=>none
def Ly:List Nat->Nat->Bool
 | [],_=>false
 | i::r,j=>Nat.beq i j || Ly r j
def HM:List Nat->Bool
 | []=>true
 | i::r=>!Ly r i && HM r
theorem aEi {l:List Nat} {j:Nat} (h:Ly l j=false):j ∉ l:=by
 induction l with
 | nil=>simp
 | cons i r cn=>
   simp only [Ly,Bool.or_eq_false_iff] at h
   intro hm
   rcases List.mem_cons.1 hm with rfl | e
   · simp at h
   · exact cn h.2 e
theorem aeU:∀ {l:List Nat},HM l=true->l.Nodup
 | [],_=>by simp
 | i::r,h=>by
   simp only [HM,Bool.and_eq_true,Bool.not_eq_true'] at h
   exact List.nodup_cons.2 ⟨aEi h.1,aeU h.2⟩
theorem MQ {E:List aq}:∀ {is:List Nat} {lu:List aq},Dg E is=some lu-> ∀ (m:Nat) (x:aq),lu[m]? =some x-> ∃ i:Nat,is[m]? =some i/\E[i]? =some x
 | [],lu,h,m,x,ai=>by simp only [Dg,Option.some.injEq] at h;subst h;simp at ai
 | i::r,lu,h,m,x,ai=>by
   simp only [Dg] at h
   split at h
   · rename_i y ys aC aS
     simp only [Option.some.injEq] at h
     subst h
     cases m with
     | zero=>
       simp only [List.getElem?_cons_zero,Option.some.injEq] at ai
       subst ai
       exact ⟨i,rfl,by rw [<-sA];exact aC⟩
     | succ m=>obtain ⟨q,kI,kJ⟩:=MQ aS m x (by simpa using ai);exact ⟨q,by simpa using kI,kJ⟩
   · cases h
section
variable {W w aF:World} {M0 X:List Nat} {E:List aq} {D:List al}
theorem ar.kM (h:ar W M0 X w E D) (is:List Nat) {lu:List aq} (af:HM is=true) (a5:Dg E is=some lu):ar W M0 X w lu D:=by
 have tV:∀ x ∈ lu,x ∈ E:=fun x ai=>by
  obtain ⟨m,hm,rfl⟩:=List.mem_iff_getElem.1 ai
  obtain ⟨i,_,hi⟩:=MQ a5 m _ (List.getElem?_eq_getElem hm)
  exact List.mem_of_getElem? hi
 have I:∀ k ∈ cL lu,k ∈ cL E:=fun k bf=>by
  obtain ⟨x,ai,Ll⟩:=List.mem_flatMap.1 bf
  exact List.mem_flatMap.2 ⟨x,tV x ai,Ll⟩
 have bW:=KN h.dO
 have TU:=aeU af
 refine ⟨h.ev,h.lP,fun k bf=>h.lt k (I k bf),fun x ai=>h.ok x (tV x ai),aeX fun m x ai=>?_,fun y hy=>y.law _ _ w w (ba.refl _ _) (fun k bf=>.inl ?_) (h.rd y hy)⟩
 · obtain ⟨i,hi,adE⟩:=MQ a5 m x ai
   refine ⟨(bW i x adE).1,fun h0 y hy eZ k bf=>?_⟩
   obtain ⟨j,bc,aD6⟩:=MQ a5 h0 y hy
   refine (bW i x adE).2 j y aD6 (fun e=>?_) k bf
   subst e
   obtain ⟨l1,bM⟩:=List.getElem?_eq_some_iff.1 hi
   obtain ⟨f',b7⟩:=List.getElem?_eq_some_iff.1 bc
   rcases Nat.lt_or_gt_of_ne eZ with ea | ea
   · exact (List.pairwise_iff_getElem.1 TU m h0 l1 f' ea) (bM.trans b7.symm)
   · exact (List.pairwise_iff_getElem.1 TU h0 m f' l1 ea) (b7.trans bM.symm)
 · rcases List.mem_append.1 bf with e | e
   · exact List.mem_append.2 (.inl e)
   · exact List.mem_append.2 (.inr (I k e))
theorem Cd (A B:List aq):cL (A++B)=cL A++cL B:=by simp [cL]
theorem ar.into (h:ar W M0 X w E D) (m:Nat):ar w (cL (E.take m)) (X++cL (E.drop m)) w (E.take m) D:=by
 have gl:cL E=cL (E.take m)++cL (E.drop m):=by rw [<-Cd,List.take_append_drop]
 have bW:=h.dO
 rw [gl,List.nodup_append] at bW
 refine ⟨ba.refl _ _,fun k bf=>?_,fun k bf=>⟨(h.lt k (by rw [gl];simp [bf])).1,.inl bf⟩,fun x ai=>h.ok x (List.mem_of_mem_take ai),bW.1,fun y hy=>y.law _ _ w w (ba.refl _ _) (fun k bf=>.inl ?_) (h.rd y hy)⟩
 · rcases List.mem_append.1 bf with e | e
   · refine ⟨Nat.lt_of_lt_of_le (h.lP k e).1 h.ev.size,fun kb=>?_⟩
     have:=(h.lt k (by rw [gl];simp [kb])).2
     rcases this with b7 | b7
     · exact (h.lP k e).2 b7
     · have:=(h.lP k e).1;omega
   · exact ⟨(h.lt k (by rw [gl];simp [e])).1,fun kb=>bW.2.2 k kb k e rfl⟩
 · rw [gl]
   simp only [List.mem_append] at bf ⊢
   rcases bf with (e | e) | e <;> simp [e]
def Pr:List al->Prop
 | []=>True
 | y::r=>(∀ M io w aF,y.ok M w->y.ok io aF)/\Pr r
theorem ZE:∀ {D:List al},Pr D-> ∀ y ∈ D,∀ M io w aF,y.ok M w->y.ok io aF
 | [],_,y,hy=>by simp at hy
 | z::r,h,y,hy=>by
   rcases List.mem_cons.1 hy with rfl | e
   · exact h.1
   · exact ZE h.2 y e
theorem nR {α:Type} {T:fb α} (j':∀ F yY w aF cs d,T.rd F w cs d->T.rd yY aF cs d) {xs:List Value} {l:List α} (M io:List Nat) (w aF:World) (h:(al.rows T xs l).ok M w):(al.rows T xs l).ok io aF:=by
 have key:∀ {l:List α} {xs:List Value},fO T (h9 M w) w xs l->fO T (h9 io aF) aF xs l:=by
  intro l
  induction l with
  | nil=>intro xs h;exact h
  | cons d r cn=>intro xs h;obtain ⟨cs,ys,rfl,aC,aS⟩:=h;exact ⟨cs,ys,rfl,j' _ _ _ _ _ _ aC,cn aS⟩
 exact key h
theorem ar.ZR (h:ar W M0 X w E D) (m:Nat) {Px:List Nat} {rQ:List aq} {g7:List al} (k:ar w (cL (E.take m)) Px aF rQ g7) (ann:∀ y ∈ g7,y.ok (X++cL (rQ++E.drop m)) aF):ar W M0 X aF (rQ++E.drop m) (g7++D):=by
 have gl:cL E=cL (E.take m)++cL (E.drop m):=by rw [<-Cd,List.take_append_drop]
 have bW:=h.dO
 rw [gl,List.nodup_append] at bW
 have acB:∀ b ∈ cL (E.take m),b <w.heap.size/\(b ∈ M0\/W.heap.size<=b):=fun b a1=>h.lt b (by rw [gl];simp [a1])
 have g2:∀ b ∈ cL (E.drop m),b <w.heap.size/\(b ∈ M0\/W.heap.size<=b):=fun b a1=>h.lt b (by rw [gl];simp [a1])
 have ad:=k.ev
 have Q3:∀ b ∈ cL rQ,b ∉ cL (E.drop m):=fun b a1 iA=>by
  rcases (k.lt b a1).2 with e | e
  · exact bW.2.2 b e b iA rfl
  · have:=(g2 b iA).1;omega
 refine ⟨h.ev.trans ad (fun b a1=>(acB b a1).2),h.lP,fun b a1=>?_,fun x ai=>?_,?_,fun y hy=>?_⟩
 · rw [Cd] at a1
   rcases List.mem_append.1 a1 with e | e
   · refine ⟨(k.lt b e).1,?_⟩
     rcases (k.lt b e).2 with b7 | b7
     · exact (acB b b7).2
     · exact .inr (Nat.le_trans h.ev.size b7)
   · exact ⟨Nat.lt_of_lt_of_le (g2 b e).1 ad.size,(g2 b e).2⟩
 · rcases List.mem_append.1 ai with e | e
   · exact k.ok x e
   · refine x.law w aF (fun b a1=>?_) (h.ok x (List.mem_of_mem_drop e))
     have iA:b ∈ cL (E.drop m):=List.mem_flatMap.2 ⟨x,e,a1⟩
     exact ad.block b (g2 b iA).1 (fun bf=>bW.2.2 b bf b iA rfl)
 · rw [Cd,List.nodup_append]
   exact ⟨k.dO,bW.2.1,fun a bx b a1 e=>by subst e;exact Q3 a bx a1⟩
 · rcases List.mem_append.1 hy with e | e
   · exact ann y e
   · refine y.law _ _ w aF (ad.mono fun b a1=>?_) (fun b a1=>?_) (h.rd y e)
     · rw [gl];simp [a1]
     · rw [Cd] at a1
       rw [gl]
       simp only [List.mem_append] at a1 ⊢
       rcases a1 with bM | bM | bM
       · simp [bM]
       · rcases (k.lt b bM).2 with b7 | b7
         · simp [b7]
         · exact .inr b7
       · simp [bM]
theorem ar.back (h:ar W M0 X w E D) (m:Nat) {rQ:List aq} {g7:List al} (k:ar w (cL (E.take m)) (X++cL (E.drop m)) aF rQ g7):ar W M0 X aF (rQ++E.drop m) (g7++D):=
 h.ZR m k fun y hy=>y.law _ _ aF aF (ba.refl _ _) (fun b a1=>.inl (by
   rw [Cd] at a1
   simp only [List.mem_append] at a1 ⊢
   rcases a1 with e | e | e <;> simp [e])) (k.rd y hy)
theorem ar.fP (h:ar W M0 X w E D) (m:Nat) {Px:List Nat} {rQ:List aq} {g7:List al} (bT:Pr g7) (k:ar w (cL (E.take m)) Px aF rQ g7):ar W M0 X aF (rQ++E.drop m) (g7++D):=
 h.ZR m k fun y hy=>ZE bT y hy _ _ _ _ (k.rd y hy)
theorem ar.q_ {κ β:Type} [DecidableEq κ] {K:sX κ} {ev:β->Value} {r:Nat} {d:List (κ × β)} (h:ar W M0 X w E D) (i:Nat) (hi:E[i]? =some (aq.map K ev r d)):ar W M0 X w (E.eraseIdx i) (al.map K ev r d::D):=by
 have aC:=h.Fw i
 have hm:rP K ev w r d:=h.e i hi
 obtain ⟨es,c,a1,z7⟩:=hm
 refine aC.more ⟨?_,(Array.getElem?_eq_some_iff.1 a1).1,es,c,a1,z7⟩
 intro kb
 have bf:r ∈ (aq.map K ev r d).fE:=by simp [aq.map]
 rcases List.mem_append.1 kb with bM | bM
 · have ea:=h.lP r bM
   rcases (h.lt r (List.mem_flatMap.2 ⟨_,List.mem_of_getElem? hi,bf⟩)).2 with b7 | b7
   · exact ea.2 b7
   · omega
 · obtain ⟨ax,ai⟩:=List.getElem?_eq_some_iff.1 hi
   have gl:E=E.take i++E[i]::E.drop (i+ 1):=by simp
   have bW:=h.dO
   rw [gl,ai] at bW
   have b7:cL (E.take i++aq.map K ev r d::E.drop (i+ 1))=cL (E.take i)++((aq.map K ev r d).fE++cL (E.drop (i+ 1))):=by simp [cL]
   rw [b7,List.nodup_append,List.nodup_append] at bW
   rw [List.eraseIdx_eq_take_drop_succ] at bM
   rcases List.mem_append.1 (by simpa [cL] using bM:r ∈ cL (E.take i)++cL (E.drop (i+ 1))) with ez | ez
   · exact bW.2.2 r ez r (List.mem_append.2 (.inl bf)) rfl
   · exact bW.2.1.2.2 r bf r ez rfl
end
section
variable {P:Program} {ops:Array Oper} {Q:Exit->Act->World->Prop} {a:Act} {w:World} {rest:List Oper} {o:Oper} {n:g8} {d:Nat} {l:List (Nat × Value)}
 {W:World} {M0 X:List Nat} {E:List aq} {D:List al}
theorem ar.aE6 {κ β:Type} [DecidableEq κ] (K:sX κ) (ev:β->Value) (hm:ar W M0 X w E D):ar W M0 X (w.alloc (.map #[] 0)) (aq.map K ev w.heap.size ([]:List (κ × β))::E) D:=
 hm.push _ (ba.alloc _ _ _) (aEV w) (fun k bf=>by simp [aq.map] at bf;subst bf;exact ⟨Nat.le_refl _,by simp⟩) (by simp [aq.map])
theorem MZ {κ β:Type} [DecidableEq κ] {K:sX κ} {ev:β->Value} {t lO xg:TypeId} {x y z:Operand} {r:Nat} {m:List (κ × β)} {q:κ} {v:β} (i:Nat) (hm:ar W M0 X w E D) (hi:E[i]? =some (aq.map K ev r m)) (hw:Region.wanted o (yielded ops a.tmps)=true)
 (bO:P.underlying t=some (.map lO xg)) (bf:P.underlying lO=some K.desc) (bm:o.op= .mapUpdate t x y z\/o.op= .insert t x y z) (ai:a.eval x= .map (some r)) (hy:a.eval y=K.enc q) (cU:a.eval z=ev v) (bW:o.dst=none)
 (k:∀ aF,ar W M0 X aF (E.set i (aq.map K ev r (hD m q v))) D->wpList P ops Q rest a aF):wpList P ops Q (o::rest) a w:=by
 obtain ⟨aF,aC,aS,bV⟩:=aIg bO bf (hm.e i hi) bm ai hy cU
 exact M1 hw aC bW (k aF (hm.vf i hi aS bV (by simp [aq.map]) (fun k bf=>.inl bf)))
end
end aZ
namespace aZ
open Go Go.RowKit J
section
variable {P:Program} {ops:Array Oper} {Q:Exit->Act->World->Prop} {a:Act} {w:World} {rest:List Oper} {o:Oper} {n:g8} {d:Nat} {l:List (Nat × Value)}
 {W:World} {M0 X:List Nat} {E:List aq} {D:List al}
theorem ar.nI {α:Type} {e sz g m:Nat} {cs:List Value} (h:ar W M0 X w E D) (i:Nat) (li:List α) (hi:E[i]? =some (aq.br g e cs)) (ax:li.length=m) (hc:Nat.beq cs.length (m*sz)=true) (hm:Nat.ble m 1000000 =true):ar W M0 X w (E.set i (aq.row e sz (.slice (some ⟨g,0,none⟩) m m) li cs)) D:=by
 have a1:w.heap[g]? =some (.cells cs.toArray e (0,0)):=h.e i hi
 have hc:=Nat.eq_of_beq_eq_true hc
 have hm:=Nat.le_of_ble_eq_true hm
 refine h.vf i hi (ba.refl _ _) ?_ (by simp [aq.row,Value.ownBlock]) (fun k bf=>.inl (by simpa [aq.row,Value.ownBlock,aq.br] using bf))
 show w.ownsRow 0 e sz (.slice (some ⟨g,0,none⟩) m m) li.length cs
 refine ⟨by rw [ax];exact hc,.inr ⟨g,m,cs.toArray,by rw [ax],Nat.zero_le _,a1,by omega,by simp only [maxLen];omega,by simpa using hc,?_⟩⟩
 rw [ax,<-hc,List.take_length]
theorem ar.H6 (h:ar W M0 X w E D) {α:Type} {T:fb α} {xs:List Value} {li:List α} (bR:fO T (h9 (X++cL E) w) w xs li):ar W M0 X w E (al.rows T xs li::D):=h.more bR
theorem MP {α:Type} {T:fb α} {t e:TypeId} {x y:Operand} {z:Value} {bytes m c:Nat} {v:Value} {li ml l':List α} {xs cs:List Value} {ch:Addr} (i:Nat) (hm:ar W M0 X w E D) (hi:E[i]? =some (aq.row e T.size v li xs))
 (j':P.underlying t=some (.slice e)) (k1:(P.info? e).map (fun i=>(i.zero,i.size,i.bytes))=some (some z,T.size,bytes)) (cU:z.cells.size=T.size) (kz:0 <T.size)
 (bR:ep bytes li ml=some l') (xA:ml.length=m) (kx:0 <bytes)
 (hs:fO T (h9 (X++cL E) w) w xs li) (hcs:fO T (h9 (X++cL E) w) w cs ml) (oB:∀ j u,cs[j]? =some u->w.cell? (ch.add j)=some u)
 (hw:Region.wanted o (yielded ops a.tmps)=true)
 (bm:o.op= .call { callee:=.builtin .append,args:=#[x,y],argTypes:=#[t,t] }) (ai:a.eval x=v) (hy:a.eval y= .slice (some ch) m c) (I:Fr n l a) (bW:o.dst=some d) (af:Nat.blt d n=true)
 (k:∀ bL A dM aF,ba v.ownBlock.toList w aF->Fr n ((d,.slice A l'.length dM)::l) bL->ar W M0 X aF (E.set i (aq.row e T.size (.slice A l'.length dM) l' (xs++cs))) (al.rows T (xs++cs) l'::D)->wpList P ops Q rest bL aF):wpList P ops Q (o::rest) a w:=by
 obtain ⟨i0,RW,Lw,adA,acE⟩:=adX k1
 obtain ⟨Q4,rfl⟩:=ZO bR
 have q0:w.ownsRow 0 e T.size v li.length xs:=hm.e i hi
 subst xA
 have aqP:li.length+ml.length<=maxLen:=by
  have aS:=Nat.le_mul_of_pos_right (li.length+ml.length) kx
  simp only [maxLen]
  omega
 obtain ⟨rz,aF,sg,aS,bV,_,iP⟩:=run_append_own_at (P:=P) w 0 t o.type e i0 z T.size bytes j' RW Lw adA acE cU kz v li.length xs q0 ch ml.length c cs (XG T hcs)
  oB (afn T hcs) aqP Q4 (Nat.zero_le _)
 have lJ:(aq.row e T.size rz (li++ml) (xs++cs)).ok aF:=by
  show aF.ownsRow 0 e T.size rz (li++ml).length (xs++cs)
  rw [List.length_append];exact aS
 obtain ⟨A,dM,rfl,_⟩:=XN lJ
 have Hs:cf P o a w (.slice A (li++ml).length dM) aF:=by
  simp only [cf,execOp,bm,resolve,invoke,builtin,Sem.run_bind,Sem.run_pure,Result.andThen_ok,List.map_toArray,List.map_cons,List.map_nil,ai,hy,sg]
 have oD:=hm.H6 (afm T hcs hs)
 refine bQ hw Hs I bW af fun bL eY=>k bL A dM aF (ba.grown bV) eY (oD.vf i hi (ba.grown bV) lJ (WI _) fun q ec=>?_)
 have Hd:(Value.slice A (li++ml).length dM).ownBlock=some q:=by simpa [aq.row] using ec
 rcases iP with j5 | j5
 · left;simpa [aq.row,<-j5] using Hd
 · right
   rw [j5] at Hd
   injection Hd with Hd
   subst Hd
   refine ⟨Nat.le_refl _,?_⟩
   rcases aS.2 with ⟨ad,_⟩ | ⟨ako,cap,cur,ad,_,zN,_⟩
   · rw [ad] at j5;simp [Value.ownBlock] at j5
   · rw [ad] at j5
     have:ako=w.heap.size:=by simpa [Value.ownBlock] using j5
     subst this
     exact (Array.getElem?_eq_some_iff.1 zN).1
theorem iH {α:Type} {T:fb α} {t e:TypeId} {x y:Operand} {z:Value} {bytes g m c:Nat} {v:Value} {li ml l':List α} {xs cs:List Value} (i j q:Nat) (hm:ar W M0 X w E D) (hi:E[i]? =some (aq.row e T.size v li xs)) (bc:E[j]? =some (aq.br g e cs)) (ec:D[q]? =some (al.rows T xs li))
 (j':P.underlying t=some (.slice e)) (k1:(P.info? e).map (fun i=>(i.zero,i.size,i.bytes))=some (some z,T.size,bytes)) (cU:z.cells.size=T.size) (kz:Nat.blt 0 T.size=true)
 (bR:ep bytes li ml=some l') (xA:ml.length=m) (kx:Nat.blt 0 bytes=true) (hcs:fO T (h9 (X++cL E) w) w cs ml)
 (hw:Region.wanted o (yielded ops a.tmps)=true)
 (bm:o.op= .call { callee:=.builtin .append,args:=#[x,y],argTypes:=#[t,t] }) (ai:a.eval x=v) (hy:a.eval y= .slice (some ⟨g,0,none⟩) m c) (I:Fr n l a) (bW:o.dst=some d) (af:Nat.blt d n=true)
 (k:∀ bL A dM fD aF,Fr n ((d,.slice A l'.length dM)::l) bL->ar W M0 X aF ((E.set i (aq.row e T.size (.slice A l'.length dM) l' fD)).eraseIdx j) (al.rows T fD l'::D)->wpList P ops Q rest bL aF):wpList P ops Q (o::rest) a w:=by
 have a1:=hm.e j bc
 exact MP i hm hi j' k1 cU (Nat.le_of_ble_eq_true kz) bR xA (Nat.le_of_ble_eq_true kx) (hm.d q ec) hcs (fun j u hu=>by rw [qC];simpa using BG a1 hu) hw bm ai hy I bW af
  fun bL A dM aF _ eY gz=>k bL A dM _ aF eY (gz.Fw j)
theorem XQ {α:Type} {T:fb α} {t e:TypeId} {x y:Operand} {z:Value} {bytes g m c:Nat} {v:Value} {li ml l':List α} {xs cs:List Value} (i j q:Nat) (hm:ar W M0 X w E D) (hi:E[i]? =some (aq.row e T.size v li xs)) (bc:E[j]? =some (aq.br g e cs)) (ec:D[q]? =some (al.rows T xs li))
 (j':P.underlying t=some (.slice e)) (k1:(P.info? e).map (fun i=>(i.zero,i.size,i.bytes))=some (some z,T.size,bytes)) (cU:z.cells.size=T.size) (kz:Nat.blt 0 T.size=true)
 (bR:ep bytes li ml=some l') (xA:ml.length=m) (kx:Nat.blt 0 bytes=true) (hcs:fO T (h9 (X++cL E) w) w cs ml)
 (hw:Region.wanted o (yielded ops a.tmps)=true)
 (bm:o.op= .call { callee:=.builtin .append,args:=#[x,y],argTypes:=#[t,t] }) (ai:a.eval x=v) (hy:a.eval y= .slice (some ⟨g,0,none⟩) m c) (I:Fr n l a) (bW:o.dst=some d) (af:Nat.blt d n=true)
 (k:∀ bL A dM fD aF,ba v.ownBlock.toList w aF->Fr n ((d,.slice A l'.length dM)::l) bL->ar W M0 X aF ((E.set i (aq.row e T.size (.slice A l'.length dM) l' fD)).eraseIdx j) (al.rows T fD l'::D)->wpList P ops Q rest bL aF):wpList P ops Q (o::rest) a w:=by
 have a1:=hm.e j bc
 exact MP i hm hi j' k1 cU (Nat.le_of_ble_eq_true kz) bR xA (Nat.le_of_ble_eq_true kx) (hm.d q ec) hcs (fun j u hu=>by rw [qC];simpa using BG a1 hu) hw bm ai hy I bW af
  fun bL A dM aF ad eY gz=>k bL A dM _ aF ad eY (gz.Fw j)
theorem aHU {t e:TypeId} {x y:Operand} {v:Value} {sz k:Nat} {xs:List Value} {z:Value} {bytes:Nat} (j':P.underlying t=some (.slice e)) (k1:(P.info? e).map (fun i=>(i.zero,i.size,i.bytes))=some (some z,sz,bytes)) (q0:w.ownsRow 0 e sz v k xs)
 (bm:o.op= .call { callee:=.builtin .append,args:=#[x,y],argTypes:=#[t,t] }) (ai:a.eval x=v) (hy:a.eval y= .slice none 0 0):cf P o a w v w:=by
 obtain ⟨i0,RW,Lw,adA,acE⟩:=adX k1
 have sg:=run_append_owned_none (P:=P) (w:=w) 0 t o.type e i0 sz j' RW v k xs q0
 simp only [cf,execOp,bm,resolve,invoke,builtin,Sem.run_bind,Sem.run_pure,Result.andThen_ok,List.map_toArray,List.map_cons,List.map_nil,ai,hy,sg]
theorem aGq {α:Type} {T:fb α} {t e:TypeId} {x y:Operand} {z:Value} {bytes c:Nat} {v:Value} {li ml l':List α} {xs:List Value} {qk:Option Addr} (i q p:Nat) (hm:ar W M0 X w E D) (hi:E[i]? =some (aq.row e T.size v li xs)) (ec:D[q]? =some (al.rows T xs li)) (b5:D[p]? =some (al.of (aG T) [.slice qk ml.length c] ml))
 (j':P.underlying t=some (.slice e)) (k1:(P.info? e).map (fun i=>(i.zero,i.size,i.bytes))=some (some z,T.size,bytes)) (cU:z.cells.size=T.size) (kz:Nat.blt 0 T.size=true)
 (bR:ep bytes li ml=some l') (kx:Nat.blt 0 bytes=true)
 (hw:Region.wanted o (yielded ops a.tmps)=true)
 (bm:o.op= .call { callee:=.builtin .append,args:=#[x,y],argTypes:=#[t,t] }) (ai:a.eval x=v) (hy:a.eval y= .slice qk ml.length c) (I:Fr n l a) (bW:o.dst=some d) (af:Nat.blt d n=true)
 (k:∀ bL A dM fD aF,ba v.ownBlock.toList w aF->Fr n ((d,.slice A l'.length dM)::l) bL->ar W M0 X aF (E.set i (aq.row e T.size (.slice A l'.length dM) l' fD)) (al.rows T fD l'::D)->wpList P ops Q rest bL aF):wpList P ops Q (o::rest) a w:=by
 have hs:=hm.d q ec
 have avz:(aG T).rd (h9 (X++cL E) w) w [.slice qk ml.length c] ml:=hm.d p b5
 obtain ⟨gu,dV,bM,b7,ez,hl,j5⟩:=avz
 simp only [List.cons.injEq,Value.slice.injEq,and_true,true_and] at bM
 obtain ⟨rfl,rfl⟩:=bM
 by_cases xA:ml= []
 · subst xA
   cases qk with
   | none=>
     have Cm:=hl rfl
     subst Cm
     have q0:w.ownsRow 0 e T.size v li.length xs:=hm.e i hi
     have lJ:(aq.row e T.size v li xs).ok w:=hm.e i hi
     obtain ⟨A,dM,rfl,_⟩:=XN lJ
     obtain ⟨_,rfl⟩:=ZO bR
     refine bQ hw (aHU j' k1 q0 bm ai hy) I bW af fun bL eY=>?_
     have ax:li++[]=li:=List.append_nil li
     refine k bL A dM xs w (ba.refl _ w) (by rw [ax];exact eY) ?_
     rw [ax]
     have gl:E.set i (aq.row e T.size (.slice A li.length dM) li xs)=E:=by
      obtain ⟨ea,he⟩:=List.getElem?_eq_some_iff.1 hi
      rw [<-he,List.set_getElem_self]
     rw [gl]
     exact hm.more hs
   | some ch=>
     exact MP (cs:=[]) i hm hi j' k1 cU (Nat.le_of_ble_eq_true kz) bR rfl (Nat.le_of_ble_eq_true kx) hs rfl (fun j u hu=>by simp at hu) hw bm ai hy I bW af fun bL A dM aF ad eY gz=>k bL A dM _ aF ad eY gz
 · obtain ⟨j7,kV,cs,zo,zp⟩:=j5 xA
   rw [j7] at hy
   exact MP (cs:=cs) i hm hi j' k1 cU (Nat.le_of_ble_eq_true kz) bR rfl (Nat.le_of_ble_eq_true kx) hs zo (fun j u hu=>by rw [qC];exact zp j u hu) hw bm ai hy I bW af fun bL A dM aF ad eY gz=>k bL A dM _ aF ad eY gz
theorem rr {α:Type} {T:fb α} {t e:TypeId} {x y:Operand} {z:Value} {bytes c:Nat} {v:Value} {li ml l':List α} {xs:List Value} {qk:Option Addr} (i q p:Nat) (hm:ar W M0 X w E D) (hi:E[i]? =some (aq.row e T.size v li xs)) (ec:D[q]? =some (al.rows T xs li)) (b5:D[p]? =some (al.of (aG T) [.slice qk ml.length c] ml))
 (j':P.underlying t=some (.slice e)) (k1:(P.info? e).map (fun i=>(i.zero,i.size,i.bytes))=some (some z,T.size,bytes)) (cU:z.cells.size=T.size) (kz:Nat.blt 0 T.size=true)
 (bR:ep bytes li ml=some l') (kx:Nat.blt 0 bytes=true)
 (hw:Region.wanted o (yielded ops a.tmps)=true)
 (bm:o.op= .call { callee:=.builtin .append,args:=#[x,y],argTypes:=#[t,t] }) (ai:a.eval x=v) (hy:a.eval y= .slice qk ml.length c) (I:Fr n l a) (bW:o.dst=some d) (af:Nat.blt d n=true)
 (k:∀ bL A dM fD aF,Fr n ((d,.slice A l'.length dM)::l) bL->ar W M0 X aF (E.set i (aq.row e T.size (.slice A l'.length dM) l' fD)) (al.rows T fD l'::D)->wpList P ops Q rest bL aF):wpList P ops Q (o::rest) a w:=
 aGq i q p hm hi ec b5 j' k1 cU kz bR kx hw bm ai hy I bW af fun bL A dM fD aF _=>k bL A dM fD aF
theorem XO {x:Value} {y:Nat} {code:BoundsCode} {k:IntKind} {i:Int} (ai:x= .int k i) (h:0 <=i/\i<=y):(Instr.sliceBound x y code).run P w= .ok i.toNat w:=by
 subst ai
 simp [Instr.sliceBound,asIntOf,h]
end
end aZ
namespace aZ
open Go Go.RowKit J
section
variable {α:Type} {T:fb α}
theorem afo {F:Nat->Prop} {w:World} {d':α} {B_:List Value} (dK:T.rd F w B_ d'):∀ {li:List α} {xs:List Value} {i:Nat},fO T F w xs li->i <li.length->fO T F w (xs.take (i*T.size)++B_++xs.drop (i*T.size+T.size)) (li.set i d')
 | [],_,i,_,hi=>by simp at hi
 | d::r,xs,0,h,_=>by
   obtain ⟨cs,ys,rfl,aC,aS⟩:=h
   have ax:=T.len aC
   refine ⟨B_,ys,?_,dK,aS⟩
   simp [<-ax]
 | d::r,xs,i+ 1,h,hi=>by
   obtain ⟨cs,ys,rfl,aC,aS⟩:=h
   have ax:=T.len aC
   have cn:=afo dK aS (i:=i) (by simpa using hi)
   refine ⟨cs,_,?_,aC,cn⟩
   have bM:(i+ 1)*T.size=cs.length+i*T.size:=by rw [Nat.add_mul];omega
   rw [bM,List.take_append,List.take_of_length_le (by omega),show cs.length+i*T.size - cs.length=i*T.size by omega,List.drop_append,List.drop_of_length_le (l:=cs) (by omega),
    show cs.length+i*T.size+T.size - cs.length=i*T.size+T.size by omega]
   simp
end
theorem aGB {β:Type} {L vs:List β} {p N:Nat} (aC:p+vs.length<=N) (aS:N<=L.length):(L.take p++vs++L.drop (p+vs.length)).take N=(L.take N).take p++vs++(L.take N).drop (p+vs.length):=by
 have ax:(L.take p++vs).length=p+vs.length:=by rw [List.length_append,List.length_take];omega
 rw [List.take_append,List.take_of_length_le (by omega),ax,List.take_take,Nat.min_eq_left (by omega),List.drop_take]
section
variable {P:Program} {ops:Array Oper} {Q:Exit->Act->World->Prop} {a:Act} {w:World} {rest:List Oper} {o:Oper} {n:g8} {d:Nat} {l:List (Nat × Value)}
 {W:World} {M0 X:List Nat} {E:List aq} {D:List al}
theorem akg {xs cs:List Value} {p:Nat} (h:∀ j u,cs[j]? =some u->xs[p+j]? =some u):(xs.drop p).take cs.length=cs:=by
 apply List.ext_getElem?
 intro j
 rw [List.getElem?_take]
 by_cases bc:j <cs.length
 · rw [if_pos bc,List.getElem?_drop,List.getElem?_eq_getElem bc]
   exact h j _ (List.getElem?_eq_getElem bc)
 · rw [if_neg bc,List.getElem?_eq_none (by omega)]
theorem aGC {α:Type} {T:fb α} {t e:TypeId} {x y:Operand} {A:Option Addr} {c kk sz:Nat} {li:List α} {xs cs0 vs:List Value} {z:Int} {d0 d':α} {v:Value} (i q:Nat) (hm:ar W M0 X w E D) (hi:E[i]? =some (aq.row e T.size (.slice A li.length c) li xs)) (ec:D[q]? =some (al.rows T xs li))
 (cU:idx li z=some d0) (hcs:T.rd (h9 (X++cL E) w) w cs0 d0) (nz:iM w ⟨bG A,bH A+z.toNat*T.size,none⟩ cs0) (hw:Region.wanted o (yielded ops a.tmps)=true)
 (ad:v.cells=vs.toArray) (a5:∀ w,(Go.sizeOf t).run P w= .ok sz w) (ax:Nat.beq vs.length sz=true) (aC:vs.all (·.oneCell')=true) (hle:Nat.ble (kk+vs.length) cs0.length=true)
 (zX:T.rd (h9 (X++cL E) w) w (lay cs0 kk vs) d')
 (bm:o.op= .store t x y) (ai:a.eval x= .pointer (some ⟨bG A,bH A+z.toNat*T.size+kk,none⟩)) (hy:a.eval y=v) (bW:o.dst=none)
 (k:∀ fD aF,ba (Value.slice A li.length c).ownBlock.toList w aF->ar W M0 X aF (E.set i (aq.row e T.size (.slice A li.length c) (li.set z.toNat d') fD)) (al.rows T fD (li.set z.toNat d')::D)->wpList P ops Q rest a aF):wpList P ops Q (o::rest) a w:=by
 obtain ⟨z0,DN,O2⟩:=t' cU
 have hlen:vs.length=sz:=Nat.eq_of_beq_eq_true ax
 have Ln:kk+vs.length<=cs0.length:=Nat.le_of_ble_eq_true hle
 have Cm:=T.len hcs
 have q0:w.ownsRow 0 e T.size (.slice A li.length c) li.length xs:=hm.e i hi
 have aA':fO T (h9 (X++cL E) w) w xs li:=hm.d q ec
 rcases q0.2 with ⟨_,iw⟩ | ⟨g,cap,cur,bM,_,dd,Lp,mG,atZ,Un⟩
 · omega
 simp only [Value.slice.injEq,true_and] at bM
 obtain ⟨rfl,rfl⟩:=bM
 have ari:bG (some ⟨g,0,none⟩)=g:=rfl
 have azd:bH (some ⟨g,0,none⟩)= 0 :=rfl
 simp only [ari,azd,Nat.zero_add] at ai nz
 have hmul:(z.toNat+ 1)*T.size<=li.length*T.size:=Nat.mul_le_mul_right _ DN
 have aJL:li.length*T.size<=c*T.size:=Nat.mul_le_mul_right _ Lp
 have aJO:(z.toNat+ 1)*T.size=z.toNat*T.size+T.size:=by rw [Nat.add_mul,Nat.one_mul]
 have nB:xs.length=li.length*T.size:=q0.1
 have hold:(xs.drop (z.toNat*T.size)).take cs0.length=cs0:=akg fun j u bc=>by
  have:=nz j u bc
  have G4:j <cs0.length:=(List.getElem?_eq_some_iff.1 bc).1
  rw [World.ownsRow.cellAt q0 (z.toNat*T.size+j) (by omega)] at this
  exact this
 have Ls:=run_storeCells_at P g (z.toNat*T.size+kk) e vs 0 cur w dd (by omega) (fun u hu=>List.all_eq_true.1 aC u hu)
 simp only [Nat.add_zero] at Ls
 obtain ⟨p,b5⟩:∃ p,p=z.toNat*T.size+kk:=⟨_,rfl⟩
 rw [<-b5] at Ls ai
 have aJI:cur.toList.length=c*T.size:=by simpa using atZ
 obtain ⟨fD,UC⟩:∃ fD,fD=xs.take p++vs++xs.drop (p+vs.length):=⟨_,rfl⟩
 have ay':fD=xs.take (z.toNat*T.size)++lay cs0 kk vs++xs.drop (z.toNat*T.size+T.size):=by
  rw [UC,Wt _ _ _ Ln]
  have aBb:xs=xs.take (z.toNat*T.size)++(cs0++xs.drop (z.toNat*T.size+T.size)):=by
   conv=>lhs;rw [<-List.take_append_drop (z.toNat*T.size) xs]
   congr 1
   rw [<-List.take_append_drop cs0.length (xs.drop (z.toNat*T.size)),hold,List.drop_drop,Cm]
  have Lm:(xs.take (z.toNat*T.size)).length=z.toNat*T.size:=by rw [List.length_take];omega
  conv=>lhs;rw [aBb]
  rw [List.take_append,List.take_of_length_le (by rw [Lm];omega),Lm,List.drop_append,List.drop_of_length_le (l:=xs.take (z.toNat*T.size)) (by rw [Lm];omega),Lm,
   show p - z.toNat*T.size=kk by omega,show p+vs.length - z.toNat*T.size=kk+vs.length by omega,List.take_append_of_le_length (by omega),List.drop_append_of_le_length (by omega)]
  simp
 have aD4:fD.length=li.length*T.size:=by
  rw [UC];simp only [List.length_append,List.length_take,List.length_drop];omega
 have lJ:(aq.row e T.size (.slice (some ⟨g,0,none⟩) li.length c) (li.set z.toNat d') fD).ok (w.setRow g (cur.toList.take p++vs++cur.toList.drop (p+vs.length)).toArray):=by
  show World.ownsRow _ 0 e T.size _ (li.set z.toNat d').length fD
  rw [List.length_set]
  refine ⟨aD4,.inr ⟨g,c,(cur.toList.take p++vs++cur.toList.drop (p+vs.length)).toArray,rfl,Nat.zero_le _,?_,Lp,mG,?_,?_⟩⟩
  · simp only [World.setRow,Array.getElem?_modify,if_true,dd]
    rfl
  · simp only [List.size_toArray,List.length_append,List.length_take,List.length_drop];omega
  · rw [List.toList_toArray,UC,<-Un]
    exact aGB (by omega) (by omega)
 have aD':wK P o a w (w.setRow g (cur.toList.take p++vs++cur.toList.drop (p+vs.length)).toArray):=by
  simp only [wK,execOp,bm,ai,hy]
  simp only [List.append_assoc,hlen] at Ls ⊢
  have q2:=ad
  unfold Value.cells at q2
  simp [go_sem,Instr.storeAt,storeVar,a5,q2,hlen,Ls]
 have oD:=hm.H6 (T:=T) (xs:=fD) (li:=li.set z.toNat d') (by rw [ay'];exact afo zX aA' DN)
 have lI:ba (Value.slice (some ⟨g,0,none⟩) li.length c).ownBlock.toList w (w.setRow g (cur.toList.take p++vs++cur.toList.drop (p+vs.length)).toArray):=⟨rfl,rfl,rfl,by simp [World.setRow],fun b _ af=>by
  simp only [World.setRow,Array.getElem?_modify]
  rw [if_neg (by simpa [Value.ownBlock,eq_comm] using af)]⟩
 exact M1 hw aD' bW (k fD _ lI (oD.vf i hi lI lJ (by simp [aq.row,Value.ownBlock]) (fun b a1=>.inl (by simpa [aq.row] using a1))))
theorem rs {α:Type} {T:fb α} {t e:TypeId} {x y:Operand} {A:Option Addr} {c kk sz:Nat} {li f':List α} {xs cs0 vs:List Value} {z:Int} {d0 d':α} {v:Value} (i q:Nat) (ayx:some (li.set z.toNat d')=some f') (hm:ar W M0 X w E D) (hi:E[i]? =some (aq.row e T.size (.slice A li.length c) li xs)) (ec:D[q]? =some (al.rows T xs li))
 (cU:idx li z=some d0) (hcs:T.rd (h9 (X++cL E) w) w cs0 d0) (nz:iM w ⟨bG A,bH A+z.toNat*T.size,none⟩ cs0) (hw:Region.wanted o (yielded ops a.tmps)=true)
 (ad:v.cells=vs.toArray) (a5:∀ w,(Go.sizeOf t).run P w= .ok sz w) (ax:Nat.beq vs.length sz=true) (aC:vs.all (·.oneCell')=true) (hle:Nat.ble (kk+vs.length) cs0.length=true)
 (zX:T.rd (h9 (X++cL E) w) w (lay cs0 kk vs) d')
 (bm:o.op= .store t x y) (ai:a.eval x= .pointer (some ⟨bG A,bH A+z.toNat*T.size+kk,none⟩)) (hy:a.eval y=v) (bW:o.dst=none)
 (k:∀ fD aF,li.length=f'.length->ba (Value.slice A li.length c).ownBlock.toList w aF->ar W M0 X aF (E.set i (aq.row e T.size (.slice A li.length c) f' fD)) (al.rows T fD f'::D)->wpList P ops Q rest a aF):wpList P ops Q (o::rest) a w:=by
 obtain rfl:=Option.some.inj ayx
 exact aGC i q hm hi ec cU hcs nz hw ad a5 ax aC hle zX bm ai hy bW fun fD aF=>k fD aF (by rw [List.length_set])
theorem aGh {A:Option Addr} {m c sz:Nat} {t e:TypeId} {lo hi:Option Value} {i j:Int} (bO:P.underlying t=some (.slice e)) (a5:∀ w,(Go.sizeOf e).run P w= .ok sz w)
 (qZ:(lo=none/\i= 0)\/lo=some (.int .i64 i)) (qW:(hi=none/\j=m)\/hi=some (.int .i64 j)) (h:0 <=i/\i<=j/\j<=m) (CC:m<=c) :
 (Instr.slice t (.slice A m c) lo hi none).run P w= .ok (.slice (if c=i.toNat then A else A.map (·.add (i.toNat*sz))) (j.toNat - i.toNat) (c - i.toNat)) w:=by
 have a1:(Instr.sliceBounds true m c lo hi none).run P w= .ok (i.toNat,j.toNat,c) w:=by
  have JT:∀ code,(Instr.sliceBound (.int .i64 j) c code).run P w= .ok j.toNat w:=fun code=>XO rfl (by omega)
  have EF:∀ code,(Instr.sliceBound (.int .i64 i) j.toNat code).run P w= .ok i.toNat w:=fun code=>XO rfl (by omega)
  have EG:j=m-> ∀ code,(Instr.sliceBound (.int .i64 i) m code).run P w= .ok i.toNat w:=fun e code=>XO rfl (by omega)
  rcases qZ with ⟨rfl,rfl⟩ | rfl <;> rcases qW with ⟨rfl,bc⟩ | rfl
  · simp [Instr.sliceBounds,bc]
  · simp [Instr.sliceBounds,JT]
  · simp [Instr.sliceBounds,EG bc,bc]
  · simp [Instr.sliceBounds,JT,EF]
 simp [Instr.slice,run_underlying bO,a1,a5]
theorem O0 {A:Option Addr} {m c sz:Nat} {t e:TypeId} {x:Operand} {lo hi:Option Operand} {i j:Int} (bO:P.underlying t=some (.slice e)) (a5:∀ w,(Go.sizeOf e).run P w= .ok sz w) (bm:o.op= .slice t x lo hi none) (ai:a.eval x= .slice A m c)
 (qZ:(lo=none/\i= 0)\/ ∃ z,lo=some z/\a.eval z= .int .i64 i) (qW:(hi=none/\j=m)\/ ∃ z,hi=some z/\a.eval z= .int .i64 j) (h:0 <=i/\i<=j/\j<=m) (CC:m<=c) :
 cf P o a w (.slice (if c=i.toNat then A else A.map (·.add (i.toNat*sz))) (j.toNat - i.toNat) (c - i.toNat)) w:=by
 have bR:=aGh (P:=P) (w:=w) (A:=A) (m:=m) (c:=c) (lo:=lo.map a.eval) (hi:=hi.map a.eval) bO a5 (i:=i) (j:=j)
  (qZ.imp (fun h=>⟨by rw [h.1];rfl,h.2⟩) (fun ⟨z,aC,aS⟩=>by rw [aC,Option.map_some,aS])) (qW.imp (fun h=>⟨by rw [h.1];rfl,h.2⟩) (fun ⟨z,aC,aS⟩=>by rw [aC,Option.map_some,aS])) h CC
 simp only [cf,execOp,bm,ai,Instr.sliceAt,Sem.run_bind,run_underlying bO,Result.andThen_ok,Option.map_none,bR]
 rfl
theorem Qk {α:Type} {l r:List α} {i j:Int} (h:cut l i j=some r):(0 <=i/\i<=j/\j<=l.length)/\r=(l.take j.toNat).drop i.toNat:=by
 unfold cut at h
 split at h
 · rename_i bJ;exact ⟨bJ,by simpa using h.symm⟩
 · cases h
theorem XE {α:Type} {T:fb α} {F:Nat->Prop} {w:World}:∀ {l:List α} {xs:List Value} (i j:Nat),fO T F w xs l->fO T F w ((xs.take (j*T.size)).drop (i*T.size)) ((l.take j).drop i)
 | [],xs,i,j,h=>by
   have h:xs= []:=h
   subst h
   have e:(([]:List α).take j).drop i= []:=by simp
   rw [e]
   show List.drop _ (List.take _ _)= []
   simp
 | d::r,xs,i,0,h=>by
   have e:((d::r).take 0).drop i= []:=by simp
   rw [e]
   show List.drop _ (List.take _ _)= []
   simp
 | d::r,xs,0,j+ 1,h=>by
   obtain ⟨cs,ys,rfl,aC,aS⟩:=h
   have ax:=T.len aC
   have cn:=XE 0 j aS
   simp only [Nat.zero_mul,List.drop_zero] at cn ⊢
   rw [List.take_succ_cons,show (j+ 1)*T.size=cs.length+j*T.size by rw [Nat.add_mul];omega,List.take_append,List.take_of_length_le (by omega),show cs.length+j*T.size - cs.length=j*T.size by omega]
   exact ⟨cs,_,rfl,aC,cn⟩
 | d::r,xs,i+ 1,j+ 1,h=>by
   obtain ⟨cs,ys,rfl,aC,aS⟩:=h
   have ax:=T.len aC
   have cn:=XE i j aS
   rw [List.take_succ_cons,List.drop_succ_cons,show (j+ 1)*T.size=cs.length+j*T.size by rw [Nat.add_mul];omega,List.take_append,List.take_of_length_le (by omega),show cs.length+j*T.size - cs.length=j*T.size by omega,
    show (i+ 1)*T.size=cs.length+i*T.size by rw [Nat.add_mul];omega,List.drop_append,List.drop_of_length_le (l:=cs) (by omega),show cs.length+i*T.size - cs.length=i*T.size by omega,List.nil_append]
   exact cn
theorem abL {α:Type} {T:fb α} {M:List Nat} {A:Option Addr} {c:Nat} {li r:List α} {i j:Int} (h:(al.of (aG T) [.slice A li.length c] li).ok M w) (bR:cut li i j=some r) :
 (al.of (aG T) [.slice (if c=i.toNat then A else A.map (·.add (i.toNat*T.size))) (j.toNat - i.toNat) (c - i.toNat)] r).ok M w/\j.toNat - i.toNat=r.length:=by
 obtain ⟨⟨bJ,aC,aS⟩,rfl⟩:=Qk bR
 obtain ⟨gu,dV,bM,b7,ez,hl,j5⟩:=h
 simp only [List.cons.injEq,Value.slice.injEq,and_true,true_and] at bM
 obtain ⟨rfl,rfl⟩:=bM
 have hlen:((li.take j.toNat).drop i.toNat).length=j.toNat - i.toNat:=by rw [List.length_drop,List.length_take];omega
 refine ⟨?_,hlen.symm⟩
 show (aG T).rd (h9 M w) w _ _
 refine ⟨_,c - i.toNat,by rw [hlen],by rw [hlen];omega,by omega,fun gI=>?_,fun eZ=>?_⟩
 · split at gI
   · have:=hl gI;omega
   · cases A with
     | none=>have:=hl rfl;omega
     | some ch=>cases gI
 · have Lq:0 <((li.take j.toNat).drop i.toNat).length:=List.length_pos_iff.2 eZ
   have CB:li≠ []:=by intro e;subst e;simp at Lq
   obtain ⟨j7,kV,xs,zo,zp⟩:=j5 CB
   have ph:c≠i.toNat:=by omega
   rw [if_neg ph,j7]
   refine ⟨?_,?_⟩
   · simp only [Option.map_some,qC]
     rfl
   simp only [Option.map_some,qC]
   refine ⟨kV,_,XE i.toNat j.toNat zo,fun q u hu=>?_⟩
   have ec:(xs.take (j.toNat*T.size))[i.toNat*T.size+q]? =some u:=by rwa [List.getElem?_drop] at hu
   rw [List.getElem?_take] at ec
   split at ec
   · have:=zp (i.toNat*T.size+q) u ec
     simpa [bG,bH,Nat.add_assoc] using this
   · cases ec
theorem KF {α:Type} {T:fb α} {c:Nat} {A:Option Addr} {li r:List α} {i j:Int} {M:List Nat} {w:World} (b5:(al.of (aG T) [.slice A li.length c] li).ok M w) (bR:cut li i j=some r) :
 ∃ jx dM,(al.of (aG T) [.slice jx r.length dM] r).ok M w/\ ∀ {P:Program} {o:Oper} {a:Act} {t e:TypeId} {x:Operand} {lo hi:Option Operand},P.underlying t=some (.slice e)->(∀ w,(Go.sizeOf e).run P w= .ok T.size w)->o.op= .slice t x lo hi none->a.eval x= .slice A li.length c ->
   ((lo=none/\i= 0)\/ ∃ z,lo=some z/\a.eval z= .int .i64 i)->((hi=none/\j=(li.length:Int))\/ ∃ z,hi=some z/\a.eval z= .int .i64 j)-> ∀ w,cf P o a w (.slice jx r.length dM) w:=by
 obtain ⟨aC,aS⟩:=abL b5 bR
 have bJ:=(Qk bR).1
 have CC:li.length<=c:=by
  obtain ⟨gu,dV,bM,b7,_⟩:=(b5:(aG T).rd _ w [.slice A li.length c] li)
  simp only [List.cons.injEq,Value.slice.injEq,and_true,true_and] at bM
  omega
 rw [aS] at aC
 refine ⟨_,_,aC,fun bO a5 bm ai qZ qW w=>?_⟩
 have hy:=O0 (w:=w) (i:=i) (j:=j) bO a5 bm ai qZ qW bJ CC
 rw [aS] at hy
 exact hy
theorem afD {α:Type} {T:fb α} {t e c:Nat} {A:Option Addr} {li r:List α} {x:Operand} {lo hi:Option Operand} {i j:Int} (p:Nat) (hm:ar W M0 X w E D) (b5:D[p]? =some (al.of (aG T) [.slice A li.length c] li)) (bO:P.underlying t=some (.slice e)) (a5:∀ w,(Go.sizeOf e).run P w= .ok T.size w) (bR:cut li i j=some r)
 (hw:Region.wanted o (yielded ops a.tmps)=true) (bm:o.op= .slice t x lo hi none) (ai:a.eval x= .slice A li.length c) (qZ:(lo=none/\i= 0)\/ ∃ z,lo=some z/\a.eval z= .int .i64 i) (qW:(hi=none/\j=(li.length:Int))\/ ∃ z,hi=some z/\a.eval z= .int .i64 j)
 (I:Fr n l a) (bW:o.dst=some d) (af:Nat.blt d n=true)
 (k:∀ bL jx dM,Fr n ((d,.slice jx r.length dM)::l) bL->ar W M0 X w E (al.of (aG T) [.slice jx r.length dM] r::D)->wpList P ops Q rest bL w):wpList P ops Q (o::rest) a w:=by
 obtain ⟨aC,aS⟩:=abL (hm.d p b5) bR
 have bJ:=(Qk bR).1
 have CC:li.length<=c:=by
  obtain ⟨gu,dV,bM,b7,_⟩:=(hm.d p b5:(aG T).rd _ w [.slice A li.length c] li)
  simp only [List.cons.injEq,Value.slice.injEq,and_true,true_and] at bM
  omega
 have hy:=O0 (P:=P) (w:=w) (i:=i) (j:=j) bO a5 bm ai qZ qW bJ CC
 rw [aS] at hy aC
 exact bQ hw hy I bW af fun bL eY=>k bL _ _ eY (hm.more aC)
end
end aZ
namespace aZ
open Go Go.RowKit J
section
variable {P:Program} {ops:Array Oper} {Q:Exit->Act->World->Prop} {a:Act} {w:World} {rest:List Oper} {o:Oper} {n:g8} {d:Nat} {l:List (Nat × Value)}
 {W:World} {M0 X:List Nat} {E:List aq} {D:List al}
theorem Fr.b6 (I:Fr n l a) (t:Nat) {b c:Bool} (ax:fk l t=some (.bool b)) (a1:b=c):Fr n ((t,.bool c)::l) a:=
 ⟨I.size,I.defers,fun u v h=>by
  simp only [fk] at h
  cases Rm:Nat.beq t u with
  | true=>
    rw [Rm] at h
    simp only [Option.some.injEq] at h
    rw [<-Nat.eq_of_beq_eq_true Rm,<-h,<-a1]
    exact I.get t _ ax
  | false=>rw [Rm] at h;exact I.get u v h⟩
theorem KJ {κ β:Type} [DecidableEq κ] {K:sX κ} {ev:β->Value} {w aF:World} {r:Nat} {m:List (κ × β)} (h:ba [] w aF) (hm:rP K ev w r m):rP K ev aF r m:=by
 obtain ⟨es,c,aC,aS⟩:=hm
 exact ⟨es,c,(h.block r (Array.getElem?_eq_some_iff.1 aC).1 (by simp)).trans aC,aS⟩
theorem fo {w a6 qf:World} (h:ba [] w a6) (dK:ba [] a6 qf):ba [] w qf:=h.trans dK (by simp)
theorem cD {t:TypeId} {cs:List Value} (hw:Region.wanted o (yielded ops a.tmps)=true) (hy:cf P o a w (.pointer (some ⟨w.heap.size,0,none⟩)) (w.alloc (.cells cs.toArray t))) (I:Fr n l a) (hm:ar W M0 X w E D)
 (bW:o.dst=some d) (af:Nat.blt d n=true) (k:∀ bL g aF,ba [] w aF->Fr n ((d,.pointer (some ⟨g,0,none⟩))::l) bL->ar W M0 X aF (aq.br g t cs::E) D->wpList P ops Q rest bL aF):wpList P ops Q (o::rest) a w:=
 bQ hw hy I bW af fun bL eY=>k bL _ _ (ba.alloc _ _ _) eY (hm.new t cs)
theorem gq {t:TypeId} {cs:List Value} {m:Nat} (hw:Region.wanted o (yielded ops a.tmps)=true) (hy:cf P o a w (.slice (some ⟨w.heap.size,0,none⟩) m m) (w.alloc (.cells cs.toArray t))) (I:Fr n l a) (hm:ar W M0 X w E D)
 (bW:o.dst=some d) (af:Nat.blt d n=true) (k:∀ bL g aF,ba [] w aF->Fr n ((d,.slice (some ⟨g,0,none⟩) m m)::l) bL->ar W M0 X aF (aq.br g t cs::E) D->wpList P ops Q rest bL aF):wpList P ops Q (o::rest) a w:=
 bQ hw hy I bW af fun bL eY=>k bL _ _ (ba.alloc _ _ _) eY (hm.new t cs)
theorem Mg {κ β:Type} [DecidableEq κ] {t:TypeId} (K:sX κ) (ev:β->Value) (hw:Region.wanted o (yielded ops a.tmps)=true) (bm:o.op= .makeMap t none) (I:Fr n l a) (hm:ar W M0 X w E D)
 (bW:o.dst=some d) (af:Nat.blt d n=true) (k:∀ bL r aF,ba [] w aF->Fr n ((d,.map (some r))::l) bL->ar W M0 X aF (aq.map K ev r ([]:List (κ × β))::E) D->wpList P ops Q rest bL aF):wpList P ops Q (o::rest) a w:=
 bQ hw (aIf bm) I bW af fun bL eY=>k bL _ _ (ba.alloc _ _ _) eY (hm.aE6 K ev)
theorem DM {t e:TypeId} {sz:Nat} (hu:P.underlying t=some (.slice e)) (a5:∀ w,(Go.sizeOf e).run P w= .ok sz w) (bm:o.op= .buildSlice t 0 (List.toArray [])) :
 cf P o a w (.slice (some ⟨w.heap.size,0,none⟩) 0 0) (w.alloc (.cells (List.toArray []) e)):=by
 simp only [cf,execOp,bm,Instr.buildSlice,Sem.run_bind,Sem.run_pure,a5,Result.andThen_ok,run_underlying hu]
 simp [Instr.fill,newRow,go_sem]
theorem eM {S:World->Prop} {f p:Nat} {ds:List Nat} {v:Value} (i:Nat) (hi:ops[i]? =some o) (bO:(M2 ops ds i && !Nat.beq p i)=true) (hw:Region.wanted o (yielded ops a.tmps)=true) (hy:∀ aF,cf P o a aF v aF) (ox:S w)
 (I:Fr n l a) (bW:o.dst=some d) (af:Nat.blt d n=true) (k:∀ bL,Fr n ((d,v)::l) bL->eC P ops Q p S f (i::ds) bL w):eC P ops Q p S (f+ 1) ds a w:=by
 simp only [Bool.and_eq_true,Bool.not_eq_true'] at bO
 obtain ⟨pr,tY⟩:=bO
 have Ha:p≠i:=fun e=>by rw [e] at tY;simp at tY
 simp only [M2,Bool.and_eq_true] at pr
 refine ⟨fun _=>ox,?_⟩
 refine af9 (v:=v) hi (Region.noSelect_spec pr.1.1) Ha (fun c a w h=>h) f _ a w (Region.free_spec hi pr.1.2) (fun _=>ox) (by simpa using pr.2) (.inl ⟨hw,fun w _=>hy w⟩) ?_
 rw [bW]
 exact (k _ (I.put af)).2
theorem ar.swap {x y:aq} (h:ar W M0 X w (x::y::E) D):ar W M0 X w (y::x::E) D:=by
 have I:∀ k,k ∈ cL (y::x::E) ↔ k ∈ cL (x::y::E):=fun k=>by
  simp only [cL,List.flatMap_cons,List.mem_append]
  exact ⟨fun h=>by rcases h with h | h | h <;> simp [h],fun h=>by rcases h with h | h | h <;> simp [h]⟩
 refine ⟨h.ev,h.lP,fun k bf=>h.lt k ((I k).1 bf),fun z cU=>h.ok z (by simp only [List.mem_cons] at cU ⊢;rcases cU with h | h | h <;> simp [h]),?_,fun z cU=>z.law _ _ w w (ba.refl _ _) (fun k bf=>.inl (by
  rcases List.mem_append.1 bf with e | e
  · exact List.mem_append.2 (.inl e)
  · exact List.mem_append.2 (.inr ((I k).1 e)))) (h.rd z cU)⟩
 have bW:=h.dO
 have bM:cL (x::y::E)=x.fE++(y.fE++cL E):=by simp [cL]
 have b7:cL (y::x::E)=y.fE++(x.fE++cL E):=by simp [cL]
 rw [bM,List.nodup_append,List.nodup_append] at bW
 rw [b7,List.nodup_append,List.nodup_append]
 obtain ⟨abR,⟨ajU,ajR,ajV⟩,abT⟩:=bW
 exact ⟨ajU,⟨abR,ajR,fun a bx b a1=>abT a bx b (by simp [a1])⟩,fun a bx b a1=>by
  rcases List.mem_append.1 a1 with e | e
  · exact fun ez=>abT b e a (by simp [bx]) ez.symm
  · exact ajV a bx b e⟩
theorem Mf {K:Act->World->Prop} {i d t:Nat} {c:List Value} (hi:ops[i]? =some o) (hw:Region.wanted o (yielded ops a.tmps)=true) (hy:cf P o a w (.pointer (some ⟨w.heap.size,0,none⟩)) (w.alloc (.cells c.toArray t))) (bW:o.dst=some d)
 (h:K (a.put (some d) (.pointer (some ⟨w.heap.size,0,none⟩))) (w.alloc (.cells c.toArray t))):wpOp P ops Q i K a w:=by
 unfold wpOp
 simp only [hi]
 rw [if_pos hw]
 refine .inl ?_
 unfold Oper.wp
 rw [show (execOp a.eval o).run P w=_ from hy]
 show K (a.put o.dst _) _
 rw [bW]
 exact h
theorem ZJ {S:World->Prop} {f p i:Nat} {ds:List Nat} (bR:Region.ready .any ops (ht ops.size ds)= [i]) (iz:S w) (h:wpOp P ops (NoPanic Q) i (eC P ops Q p S f (i::ds)) a w):eC P ops Q p S (f+ 1) ds a w:=
 ⟨fun _=>iz,⟨fun bJ=>(by rw [bR] at bJ;cases bJ),fun j bc=>by
  rw [bR] at bc
  have:j=i:=by simpa using bc
  subst this
  exact h⟩⟩
theorem PB {S:World->Prop} {f p:Nat} {ds:List Nat} {ay jQ:Oper} {xb dO AH AI:Nat} {ci cj:List Value} (i j:Nat) (hi:ops[i]? =some ay) (bc:ops[j]? =some jQ) (hc:(Region.ready .any ops (ht ops.size ds) == [i,j])=true) (ph:(Region.ready .any ops (ht ops.size (i::ds)) == [j])=true) (atY:(Region.ready .any ops (ht ops.size (j::ds)) == [i])=true)
 (oD:(ht ops.size (i::j::ds) == ht ops.size (j::i::ds))=true)
 (K7:ay.guard=none) (ada:jQ.guard=none)
 (adP:∀ (b:Act) w,cf P ay b w (.pointer (some ⟨w.heap.size,0,none⟩)) (w.alloc (.cells ci.toArray AH))) (adQ:∀ (b:Act) w,cf P jQ b w (.pointer (some ⟨w.heap.size,0,none⟩)) (w.alloc (.cells cj.toArray AI)))
 (I:Fr n l a) (hm:ar W M0 X w E D) (ac4:ay.dst=some xb) (zK:jQ.dst=some dO) (adi:Nat.blt xb n=true) (xB:Nat.blt dO n=true) (eZ:Nat.beq xb dO=false) (iz:∀ aF,ba [] w aF->S aF)
 (k:∀ bL Cf Cg aF,ba [] w aF->w.heap.size<=Cf->w.heap.size<=Cg->Fr n ((xb,.pointer (some ⟨Cf,0,none⟩))::(dO,.pointer (some ⟨Cg,0,none⟩))::l) bL->ar W M0 X aF (aq.br Cf AH ci::aq.br Cg AI cj::E) D->eC P ops Q p S f (i::j::ds) bL aF):eC P ops Q p S (f+ 2) ds a w:=by
 have bR:=eq_of_beq hc
 have aA9:=eq_of_beq ph
 have aA_:=eq_of_beq atY
 have zV:=eq_of_beq oD
 have G9:xb≠dO:=fun e=>by rw [e] at eZ;simp at eZ
 have aBd:∀ {Cf Cg:Nat} {bL:Act},Fr n ((dO,.pointer (some ⟨Cg,0,none⟩))::(xb,.pointer (some ⟨Cf,0,none⟩))::l) bL->Fr n ((xb,.pointer (some ⟨Cf,0,none⟩))::(dO,.pointer (some ⟨Cg,0,none⟩))::l) bL:=fun h=>⟨h.size,h.defers,fun t v bO=>h.get t v (by
  simp only [fk] at bO ⊢
  cases bM:Nat.beq xb t <;> cases b7:Nat.beq dO t <;> simp only [bM,b7] at bO ⊢ <;> first | exact bO | exact absurd ((Nat.eq_of_beq_eq_true bM).trans (Nat.eq_of_beq_eq_true b7).symm) G9)⟩
 refine ⟨fun _=>iz w (ba.refl _ _),⟨fun bJ=>(by rw [bR] at bJ;cases bJ),fun m tV=>?_⟩⟩
 rw [bR] at tV
 have K9:m=i\/m=j:=by simpa using tV
 rcases K9 with rfl | rfl
 · have bM:ba [] w (w.alloc (.cells ci.toArray AH)):=ba.alloc _ _ _
   refine Mf hi (Dn K7) (adP a w) ac4 ?_
   have ez:=fo bM (ba.alloc [] (w.alloc (.cells ci.toArray AH)) (.cells cj.toArray AI))
   exact ⟨fun _=>iz _ bM,(ZJ (f:=f) aA9 (iz _ bM) (Mf bc (Dn ada) (adQ _ _) zK (by
    have:=k _ _ _ _ ez (Nat.le_refl _) (by simp) (aBd ((I.put adi).put xB)) ((hm.new AH ci).new AI cj).swap
    unfold eC at this ⊢
    rw [<-zV]
    exact this))).2⟩
 · have bM:ba [] w (w.alloc (.cells cj.toArray AI)):=ba.alloc _ _ _
   refine Mf bc (Dn ada) (adQ a w) zK ?_
   have ez:=fo bM (ba.alloc [] (w.alloc (.cells cj.toArray AI)) (.cells ci.toArray AH))
   exact ⟨fun _=>iz _ bM,(ZJ (f:=f) aA_ (iz _ bM) (Mf hi (Dn K7) (adP _ _) ac4 (k _ _ _ _ ez (by simp) (Nat.le_refl _) ((I.put xB).put adi) ((hm.new AI cj).new AH ci)))).2⟩
theorem aGg {f:FuncId} {qL:Operand} {xs:List Operand} {kT:Array TypeId} {vs cs us:List Value}
 (bm:o.op= .call { callee:=.value qL,args:=xs.toArray,argTypes:=kT }) (zH:∀ args w,(callFunc f args).run P w= .ok (.enter f args) w) (zM:a.eval qL= .func (.func f) us.toArray cs.toArray)
 (hs:xi a xs vs):(execOp a.eval o).run P w= .ok (.enter f (us++vs++cs).toArray) w:=by
 have aC:=KM hs
 simp only [execOp,bm,resolve,List.map_toArray,aC,zM]
 simp [Deferred.ofValue,invoke,zH]
theorem lj {f:FuncId} {qL:Operand} {xs:List Operand} {kT:Array TypeId} {vs cs us:List Value} {R:Ending->World->Prop} (hw:Region.wanted o (yielded ops a.tmps)=true)
 (bm:o.op= .call { callee:=.value qL,args:=xs.toArray,argTypes:=kT }) (zH:∀ args w,(callFunc f args).run P w= .ok (.enter f args) w) (zM:a.eval qL= .func (.func f) us.toArray cs.toArray)
 (hs:xi a xs vs) (hc:Calls P f (us++vs++cs).toArray w R) (I:Fr n l a) (bW:o.dst=some d) (af:Nat.blt d n=true)
 (k:∀ e aF,R e aF-> ∃ v,e= .returned v/\ ∀ bL,Fr n ((d,v)::l) bL->wpList P ops Q rest bL aF):wpList P ops Q (o::rest) a w:=by
 refine wpList_step fun K hn=>?_
 rw [if_pos hw]
 unfold Oper.wp
 rw [aGg bm zH zM hs]
 refine hc.mono fun e aF bR=>?_
 obtain ⟨v,rfl,bf⟩:=k e aF bR
 rw [bW]
 exact hn _ _ (bf _ (I.put af))
end
section
variable {P:Program} {o:Oper} {a:Act} {w:World} {xs ys:Array Value}
theorem aj1 {d sz:Nat} {f:Field} {l:List Field} {us vs:List Value} {e q:Prop} [Decidable e] [Decidable q] (af:(f.name != "_")=true) (dd:∀ w,(isAgg f.type).run P w= .ok true w) (a5:∀ w,(Go.sizeOf f.type).run P w= .ok sz w)
 (ai:xs.extract f.offset (f.offset+sz)=us.toArray) (hy:ys.extract f.offset (f.offset+sz)=vs.toArray) (ec:(Op.equalIn (d+ 1) f.type (.agg us.toArray) (.agg vs.toArray)).run P w= .ok (decide q) w)
 (h:(Op.eqFields (d+ 1) xs ys l).run P w= .ok (decide e) w):(Op.eqFields (d+ 1) xs ys (f::l)).run P w= .ok (decide (q/\e)) w:=by
 have zW:f.name≠ "_" :=by simpa using af
 simp only [Op.eqFields,zW,if_true,ne_eq,not_false_iff,part,Sem.run_bind,dd,a5,Result.andThen_ok,ai,hy,Sem.run_pure,ec]
 by_cases tW:q
 · simp [tW,h]
 · simp [tW]
theorem aj' {d:Nat} {t:TypeId} {gH:Array Field} {q:Prop} [Decidable q] (bO:P.underlying t=some (.struct gH)) (b5:P.stoodInHeld t=false) (h:(Op.eqFields d xs ys gH.toList).run P w= .ok (decide q) w):(Op.equalIn (d+ 1) t (.agg xs) (.agg ys)).run P w= .ok (decide q) w:=by
 have I:P.fieldsOf t=gH:=by simp [Program.fieldsOf,bO]
 have dK:=run_equalIn_struct (P:=P) w d t xs ys (by rw [I];exact bO) b5
 rw [I,h] at dK
 exact dK
theorem Fu {d:Nat} {f:Field} {l:List Field} {m n:List UInt8} {e:Prop} [Decidable e] (af:(f.name != "_")=true) (hu:P.underlying f.type=some .string) (dd:∀ w,(isAgg f.type).run P w= .ok false w)
 (ai:xs[f.offset]? =some (ao m)) (hy:ys[f.offset]? =some (ao n)) (h:(Op.eqFields (d+ 1) xs ys l).run P w= .ok (decide e) w):(Op.eqFields (d+ 1) xs ys (f::l)).run P w= .ok (decide (m=n/\e)) w:=by
 have zW:f.name≠ "_" :=by simpa using af
 have heq:(Op.equalIn (d+ 1) f.type (ao m) (ao n)).run P w= .ok (decide (m=n)) w:=by
  simp only [Op.equalIn,Sem.run_bind,run_underlying hu,Result.andThen_ok]
  rw [<-PE m n]
  rfl
 simp only [Op.eqFields,zW,if_true,ne_eq,not_false_iff,part,Sem.run_bind,dd,Result.andThen_ok,ai,hy,Bool.false_eq_true,if_false,Sem.run_pure,heq]
 by_cases tW:m=n
 · subst tW;simp [h]
 · simp [tW]
end
section
variable {P:Program} {ops:Array Oper} {Q:Exit->Act->World->Prop} {a:Act} {w:World} {rest:List Oper} {o:Oper} {n:g8} {d:Nat} {l:List (Nat × Value)}
 {W:World} {M0 X:List Nat} {E:List aq} {D:List al}
theorem afq {F:Nat->Prop} {w:World}:∀ s:List UInt8,fO M5 F w (s.map fun b=>Value.int .u8 (b.toNat:Int)) s
 | []=>rfl
 | b::r=>⟨[.int .u8 (b.toNat:Int)],_,rfl,rfl,afq r⟩
theorem aE5 {t ef e:TypeId} {x:Operand} {s r:List UInt8} (bR:bytesOf s=some r) (bO:P.underlying t=some .string) (oG:P.underlying ef=some (.slice e)) (he:P.underlying e=some (.int .u8)) (hw:Region.wanted o (yielded ops a.tmps)=true)
 (bm:o.op= .convert t ef x) (ai:a.eval x=ao s) (I:Fr n l a) (hm:ar W M0 X w E D) (bW:o.dst=some d) (af:Nat.blt d n=true)
 (k:∀ bL A c aF,ba [] w aF->Fr n ((d,.slice A r.length c)::l) bL->ar W M0 X aF E (al.of (aG M5) [.slice A r.length c] r::D)->wpList P ops Q rest bL aF):wpList P ops Q (o::rest) a w:=by
 unfold bytesOf at bR
 split at bR
 · rename_i hle
   simp only [Option.some.injEq] at bR
   subst bR
   have sg:=run_bytes_of_string (P:=P) w t ef e ⟨⟨s⟩⟩ bO oG he
   have kz:(⟨⟨s⟩⟩:ByteArray).size=s.length:=rfl
   have hc:=grownCap_ge w s.length 0 e
   have mG:=grownCap_le_maxLen w s.length 0 e (by simp only [maxLen];omega)
   obtain ⟨B,iQ⟩:∃ B,B=bytesRow ⟨⟨s⟩⟩ (grownCap w s.length 0 e):=⟨_,rfl⟩
   obtain ⟨y',Cm⟩:∃ y',y'=grownCap w s.length 0 e:=⟨_,rfl⟩
   rw [kz,<-iQ,<-Cm] at sg
   rw [<-Cm] at hc mG
   have hy:cf P o a w (.slice (some ⟨w.heap.size,0,none⟩) s.length y') (w.drew.alloc (.cells B e (B.size,B.size+ 1))):=by
    simp only [cf,execOp,bm,ai,Sem.run_bind,sg,Result.andThen_ok]
    rfl
   have lI:ba [] w (w.drew.alloc (.cells B e (B.size,B.size+ 1))):=(ba.drew [] w).trans (ba.alloc [] _ _) (by simp)
   have oD:=hm.dw lI
   refine bQ hw hy I bW af fun bL eY=>k bL _ _ _ lI eY (oD.more ⟨_,_,rfl,hc,mG,(fun h=>by cases h),fun _=>⟨rfl,⟨?_,by show w.heap.size <_;simp⟩,_,afq s,fun j u bc=>?_⟩⟩)
   · intro bf
     have:w.heap.size <w.heap.size:=by
      rcases List.mem_append.1 bf with bM | bM
      · exact Nat.lt_of_lt_of_le (hm.lP _ bM).1 hm.ev.size
      · exact (hm.lt _ bM).1
     omega
   · rw [List.getElem?_map,Option.map_eq_some_iff] at bc
     obtain ⟨b,a1,rfl⟩:=bc
     obtain ⟨G4,iA⟩:=List.getElem?_eq_some_iff.1 a1
     have:=bytesRow_at ⟨⟨s⟩⟩ (grownCap w s.length 0 e) j (by simpa using G4)
     rw [<-iQ] at this
     show World.cell? _ ⟨w.heap.size,0 +j,none⟩=_
     simp only [World.cell?,World.alloc]
     rw [show (w.drew.heap.push _)[w.heap.size]? =some _ from Array.getElem?_push_size (xs:=w.heap)]
     simp only [Nat.zero_add,this]
     simp [iA]
 · cases bR
end
end aZ
namespace aZ
open Go Go.RowKit J
section
variable {P:Program} {o:Oper} {a:Act} {w:World} {x y:Operand} {t ef e:TypeId}
theorem sN {A:Option Addr} {n c:Nat} (bO:P.underlying t=some (.slice e)) (bm:o.op= .binOp .eql t x y ef) (ai:a.eval x= .slice A n c) (hy:a.eval y= .slice none 0 0):cf P o a w (.bool A.isNone) w:=by
 have h:∀ d:Nat,(Op.equalIn (d+ 1) t (.slice A n c) (.slice none 0 0)).run P w= .ok A.isNone w:=fun d=>by
  cases A <;> simp [Op.equalIn,run_underlying bO]
 have aS:(binOp .eql t (.slice A n c) (.slice none 0 0)).run P w= .ok (.bool A.isNone) w:=by
  simp only [binOp]
  simp [Op.equal,Op.maxDepth,h 9999]
 simp only [cf,execOp,bm,ai,hy]
 simp [go_sem,aS]
theorem HN {α:Type} {T:fb α} {M:List Nat} {w:World} {n c:Nat} {l:List α} (h:(al.of (aG T) [.slice none n c] l).ok M w):l= []/\n= 0 /\c= 0 :=by
 obtain ⟨A,dM,bM,b7,ez,hl,j5⟩:=h
 simp only [List.cons.injEq,Value.slice.injEq,and_true] at bM
 obtain ⟨rfl,rfl,rfl⟩:=bM
 have hc:=hl rfl
 have ax:l.length= 0 :=by omega
 exact ⟨List.eq_nil_of_length_eq_zero ax,ax,hc⟩
theorem Fp {α:Type} {b:Nat} {r:List α} (h:((J.ep b [] []).bind fun l=>some l)=some r):r= []:=by
 simp [J.ep] at h
 exact h
end
section
variable {P:Program} {Q:Exit->Act->World->Prop} {a:Act} {w:World}
def EC (P:Program) (c:Code) (Q:Exit->Act->World->Prop):Nat->Act->World->Prop
 | 0,_,_=>False
 | n+ 1,a,w=>c.wp P (Exit.then (EC P c Q n) Q) a w
theorem bk {c:Operand} {x y:Code} {t:Bool} {ρ:Type} {p q:Option ρ} {r:ρ} (hc:a.eval c= .bool t) (h:cond t p q=some r) (bO:t=true->p=some r->x.wp P Q a w) (I:t=false->q=some r->y.wp P Q a w):(Code.cond c x y).wp P Q a w:=
 wp_cond_split hc (fun e=>bO e (dj e h)) (fun e=>I e (di e h))
theorem abx {c:Code} (n:Nat) (h:EC P c Q n a w):(Code.loop c).wp P Q a w:=by
 refine cw (fun k a w=>EC P c Q k a w) n h (fun a w h=>h) fun k a w Ch K hn=>?_
 exact wp_mono (h:=Ch) fun e a w h=>by
  cases e with
  | normal=>exact hn a w h
  | _=>exact h
theorem ry {c:Code} {n:Nat} (h:c.wp P (Exit.then (EC P c Q n) Q) a w):EC P c Q (n+ 1) a w:=h
end
end aZ
namespace aZ
open Go Go.RowKit J
section
variable {P:Program} {ops:Array Oper} {Q:Exit->Act->World->Prop} {a:Act} {w iI aF:World} {rest:List Oper} {o:Oper} {n:g8} {d:Nat} {l:List (Nat × Value)}
 {W:World} {M0 X:List Nat} {E:List aq} {D:List al}
theorem ar.C3 (h:ar W M0 X w E D) {g:Nat} {t:TypeId} {cs:List Value} {x:aq} (i j:Nat) (hi:E[i]? =some (aq.br g t cs)) (bc:E[j]? =some x) (eZ:i≠j):g ∉ x.fE:=fun bf=>
 (KN h.dO i _ hi).2 j x bc eZ g (by simp [aq.br]) bf
theorem zl {g:Nat} (h:ba [] iI w) (dK:ba [g] w aF) (dd:iI.heap.size<=g):ba [] iI aF:=h.trans dK (fun x ai=>.inr (by simp at ai;omega))
theorem Cb {M:List Nat} {p:Addr} {cs:List Value} (h:ba M w aF) (af:p.block ∉ M) (ea:p.block <w.heap.size) (hc:iM w p cs):iM aF p cs:=hc.law (h.block p.block ea af)
theorem aE7 {t:TypeId} {cs:List Value} (hw:Region.wanted o (yielded ops a.tmps)=true) (hy:cf P o a w (.pointer (some ⟨w.heap.size,0,none⟩)) (w.alloc (.cells cs.toArray t))) (I:Fr n l a) (hm:ar W M0 X w E D)
 (bW:o.dst=some d) (af:Nat.blt d n=true) (k:∀ bL g aF,ba [] w aF->w.heap.size<=g->Fr n ((d,.pointer (some ⟨g,0,none⟩))::l) bL->ar W M0 X aF (aq.br g t cs::E) D->wpList P ops Q rest bL aF):wpList P ops Q (o::rest) a w:=
 bQ hw hy I bW af fun bL eY=>k bL _ _ (ba.alloc _ _ _) (Nat.le_refl _) eY (hm.new t cs)
theorem x8 {t:TypeId} {cs:List Value} {m:Nat} (hw:Region.wanted o (yielded ops a.tmps)=true) (hy:cf P o a w (.slice (some ⟨w.heap.size,0,none⟩) m m) (w.alloc (.cells cs.toArray t))) (I:Fr n l a) (hm:ar W M0 X w E D)
 (bW:o.dst=some d) (af:Nat.blt d n=true) (k:∀ bL g aF,ba [] w aF->w.heap.size<=g->Fr n ((d,.slice (some ⟨g,0,none⟩) m m)::l) bL->ar W M0 X aF (aq.br g t cs::E) D->wpList P ops Q rest bL aF):wpList P ops Q (o::rest) a w:=
 bQ hw hy I bW af fun bL eY=>k bL _ _ (ba.alloc _ _ _) (Nat.le_refl _) eY (hm.new t cs)
theorem AE {g p sz:Nat} {t o4:TypeId} {x y:Operand} {cs vs:List Value} {v:Value} (i:Nat) (hm:ar W M0 X w E D) (hi:E[i]? =some (aq.br g o4 cs)) (hw:Region.wanted o (yielded ops a.tmps)=true)
 (ad:v.cells=vs.toArray) (a5:∀ w,(Go.sizeOf t).run P w= .ok sz w) (ax:Nat.beq vs.length sz=true) (aC:vs.all (·.oneCell')=true) (hle:Nat.ble (p+vs.length) cs.length=true)
 (bm:o.op= .store t x y) (ai:a.eval x= .pointer (some ⟨g,p,none⟩)) (hy:a.eval y=v) (bW:o.dst=none)
 (k:∀ aF,ba [g] w aF->ar W M0 X aF (E.set i (aq.br g o4 (lay cs p vs))) D->wpList P ops Q rest a aF):wpList P ops Q (o::rest) a w:=by
 obtain ⟨aF,aC,aS,bV⟩:=agU ad a5 ax aC hle (hm.e i hi) bm ai hy
 exact M1 hw aC bW (k aF aS (hm.vf i hi aS bV (by simp [aq.br]) (fun k bf=>.inl bf)))
end
end aZ
namespace aZ
open Go Go.RowKit J
def p_:List Oper->Bool
 | []=>true
 | o::r=>(match o.op with
   | .defer _=>false
   | _=>true) && p_ r
theorem Mh:∀ {l:List Oper},p_ l=true-> ∀ o ∈ l,∀ c,o.op≠ .defer c
 | [],_,o,bm,_=>by simp at bm
 | p::r,h,o,bm,c=>by
   simp only [p_,Bool.and_eq_true] at h
   rcases List.mem_cons.1 bm with rfl | e
   · intro b7
     rw [b7] at h
     exact absurd h.1 (by simp)
   · exact Mh h.2 o e c
def j1 (ro:Option Nat):Fence:={ Fence.wide with round:=ro }
theorem XH {ro:Option Nat} {q:Prop}:(j1 ro).depth.isSome=true->q:=fun h=>by simp [j1,Fence.wide] at h
section
variable {P:Program} {ops:Array Oper} {Q:Exit->Act->World->Prop} {K:Act->World->Prop} {a:Act} {w:World} {o:Oper} {ro:Option Nat} {n:Nat}
theorem WE (bW:∀ c,o.op≠ .defer c) (h:o.wp P a w K Q):o.wpIn (j1 ro) n P a w K Q:=by
 unfold Oper.wpIn
 refine ⟨fun _ _=>trivial,?_⟩
 rw [Oper.semAt_eq _ _ _ bW]
 unfold Oper.wp at h
 generalize (execOp a.eval o).run P w=r at *
 cases r with
 | ok x aF=>
   cases x <;> simp only [Oper.upon,Oper.uponIn] at h ⊢ <;> first
    | exact h
    | exact ⟨XH,(callsIn_wide (n:=n - 1)).2 h⟩
    | exact ⟨XH,fun c cs _=>let ⟨v,aF,r,s⟩:=h c cs;⟨v,aF,r,stepsIn_wide.2 s⟩⟩
 | halt x aF=>cases x <;> simp only [Oper.upon,Oper.uponIn] at h ⊢ <;> exact h
theorem L_ (gn:∀ a w,¬ Q .outgrown a w):∀ {os:List Oper} {a:Act} {w:World},p_ os=true->wpList P ops Q os a w->wpListIn (j1 ro) n P ops Q os a w
 | [],_,_,_,h=>h
 | o::r,a,w,bW,h=>by
   have zJ:=bW
   simp only [p_,Bool.and_eq_true] at zJ
   simp only [wpList] at h
   simp only [wpListIn]
   split
   · rename_i hw
     rw [if_pos hw] at h
     rcases h with h | ⟨_,bL,aF,h⟩
     · exact WE (Mh bW o (by simp)) (Oper.wp_mono (fun a w h=>L_ gn zJ.2 h) h)
     · exact absurd h (gn _ _)
   · rename_i hw
     rw [if_neg hw] at h
     exact ⟨fun _ _=>trivial,L_ gn zJ.2 h⟩
theorem aEO (k:Nat) {lo:List Oper} (bW:p_ (lo.take k)=true) (h:wpList P ops (Exit.then (wpListIn (j1 ro) n P ops Q (lo.drop k)) (fun _ _ _=>False)) (lo.take k) a w):wpListIn (j1 ro) n P ops Q lo a w:=by
 have key:∀ (os rest:List Oper) (a:Act) (w:World),p_ os=true->wpList P ops (Exit.then (wpListIn (j1 ro) n P ops Q rest) (fun _ _ _=>False)) os a w->wpListIn (j1 ro) n P ops Q (os++rest) a w:=by
  intro os
  induction os with
  | nil=>intro rest a w _ h;exact h
  | cons o r cn=>
    intro rest a w bW h
    have zJ:=bW
    simp only [p_,Bool.and_eq_true] at zJ
    simp only [wpList] at h
    simp only [List.cons_append,wpListIn]
    split
    · rename_i hw
      rw [if_pos hw] at h
      rcases h with h | ⟨_,bL,aF,h⟩
      · have aC:=WE (ro:=ro) (n:=n) (Mh bW o (by simp)) (Oper.wp_mono (fun a w h=>cn rest a w zJ.2 h) h)
        refine ⟨aC.1,?_⟩
        have aS:=aC.2
        revert aS
        generalize (o.semAt (j1 ro).round a.eval).run P w=Mn
        intro aS
        cases Mn with
        | ok x aF=>
          cases x <;> simp only [Oper.uponIn] at aS ⊢ <;> first
           | exact aS
           | exact ⟨aS.1,CallsIn.mono aS.2 (fun e af1 he=>by cases e <;> first | exact he | exact absurd he (by simp [Exit.then,LetsOut]))⟩
           | exact ⟨aS.1,RoundIn.mono aS.2 (fun e af1 he=>by cases e <;> first | exact he | exact absurd he (by simp [Exit.then,LetsOut]))⟩
        | halt x aF=>cases x <;> simp only [Oper.uponIn] at aS ⊢ <;> first | exact aS | exact absurd aS (by simp [Exit.then])
      · exact absurd h (by simp [Exit.then])
    · rename_i hw
      rw [if_neg hw] at h
      exact ⟨fun _ _=>trivial,cn rest _ _ zJ.2 h⟩
 have:=key (lo.take k) (lo.drop k) a w bW h
 rwa [List.take_append_drop] at this
theorem aFf (gn:∀ a w,¬ Q .outgrown a w) (bW:p_ ops.toList=true) {i:Nat} (h:wpOp P ops Q i K a w):wpOpIn (j1 ro) n P ops Q i K a w:=by
 unfold wpOp at h
 unfold wpOpIn
 split
 · rename_i bJ
   rw [bJ] at h
   exact h
 · rename_i o bm
   rw [bm] at h
   have hm:o ∈ ops.toList:=by
    have:=List.mem_of_getElem? (l:=ops.toList) (i:=i) (a:=o) (by rw [Array.getElem?_toList];exact bm)
    exact this
   simp only at h
   split
   · rename_i hw
     rw [if_pos hw] at h
     rcases h with h | ⟨_,bL,aF,h⟩
     · exact WE (Mh bW o hm) h
     · exact absurd h (gn _ _)
   · rename_i hw
     rw [if_neg hw] at h
     exact ⟨fun _ _=>trivial,h⟩
theorem ZL (gn:∀ a w,¬ Q .outgrown a w) (bW:p_ ops.toList=true):∀ {f:Nat} {gL:Array Bool} {a:Act} {w:World},wpAny P .any ops Q f gL a w->wpAnyIn (j1 ro) n P .any ops Q f gL a w
 | 0,_,_,_,h=>h
 | f+ 1,gL,a,w,h=>⟨h.1,fun i hi=>aFf gn bW (wpOp_mono (fun a w h=>ZL gn bW h) (h.2 i hi))⟩
end
def iN (ro:Option Nat) (n:Nat) (P:Program) (c:Code) (Q:Exit->Act->World->Prop) (a:Act) (w:World):Prop:=(∀ a w,¬ Q .outgrown a w)->c.wpIn (j1 ro) n P Q a w
section
variable {P:Program} {Q:Exit->Act->World->Prop} {a:Act} {w:World} {ro:Option Nat} {n:Nat}
theorem M' (h:Q .normal a w):iN ro n P .skip Q a w:=fun _=>wpIn_skip h
theorem X' {id:Nat} (h:Q (.exit id) a w):iN ro n P (.exit id) Q a w:=fun _=>wpIn_exit h
theorem m9 {x y:Code} (h:∀ K:Act->World->Prop,(∀ a w,iN ro n P y Q a w->K a w)->iN ro n P x (Exit.then K Q) a w):iN ro n P (.seq x y) Q a w:=
 fun gn=>wpIn_seq (h _ (fun _ _ h=>h gn) gn)
theorem X_ {c:Operand} {x y:Code} {t:Bool} (hc:a.eval c= .bool t) (bO:t=true->iN ro n P x Q a w) (I:t=false->iN ro n P y Q a w):iN ro n P (.cond c x y) Q a w:=
 fun gn=>wpIn_cond_split hc (fun e=>bO e gn) (fun e=>I e gn)
theorem aG_ {c:Operand} {x y:Code} {b:Bool} (hc:a.eval c= .bool b) (a1:b=false) (h:iN ro n P y Q a w):iN ro n P (.cond c x y) Q a w:=fun gn=>wpIn_cond_false (by rw [hc,a1]) (h gn)
theorem X8 {id:Nat} {c:Code} (h:iN ro n P c (Exit.inBlock id Q) a w):iN ro n P (.block id c) Q a w:=fun gn=>wpIn_block (h gn)
theorem X9 {id:Nat} {c:Code} (lv:Act->World->Prop) (ai:∀ K:Act->World->Prop,(∀ a w,lv a w->K a w)->iN ro n P c (Exit.inBlock id (Exit.then K Q)) a w) (hy:∀ a w,lv a w->Q .normal a w):iN ro n P (.block id c) Q a w:=by
 intro gn
 refine wpIn_block (wpIn_mono (ai _ hy gn) ?_)
 intro e a w h
 cases e with
 | exit i=>
   by_cases hi:i=id
   · simpa [Exit.inBlock,Exit.then,hi] using h
   · simpa [Exit.inBlock,Exit.then,hi] using h
 | _=>exact h
theorem agb {c:Code} (n5:Nat->Act->World->Prop) (k:Nat) (h:n5 k a w) (bJ:∀ a w,¬ n5 0 a w)
 (round:∀ k a w,n5 (k+ 1) a w-> ∀ K:Act->World->Prop,(∀ a w,n5 k a w->K a w)->iN ro n P c (Exit.then K Q) a w):iN ro n P (.loop c) Q a w:=by
 intro gn
 refine wpIn_loop (fun a w=>∃ n,n5 n a w) (fun a w=>leastOf (fun n=>n5 n a w)) ⟨k,h⟩ ?_
 intro a w Ch
 have aC:=(leastOf_spec Ch).1
 cases bf:leastOf (fun n=>n5 n a w) with
 | zero=>rw [bf] at aC;exact absurd aC (bJ a w)
 | succ m=>
   rw [bf] at aC
   exact round m a w aC _ (fun bL aF dK=>⟨⟨m,dK⟩,Nat.lt_succ_of_le ((leastOf_spec ⟨m,dK⟩).2 m dK)⟩) gn
theorem o6 {id:Nat} {l:List Oper} (bW:p_ l=true) (h:wpList P l.toArray Q l a w):iN ro n P (.region id l.toArray false) Q a w:=fun gn=>wpIn_region_lit (L_ gn bW h)
theorem aga {id m:Nat} {lo:List Oper} (p:Nat) (S:World->World->Prop) (hm:P.follows .mixedOrders=true) (ax:Nat.beq lo.length m=true) (bW:p_ lo=true) (h:∀ aF,ba [] w aF->eC P lo.toArray Q p (S aF) m [] a aF):iN ro n P (.region id lo.toArray true) Q a w:=by
 have ax:=Nat.eq_of_beq_eq_true ax
 subst ax
 intro gn
 exact wpIn_mono (Q:=NoPanic Q) (wpIn_region_any hm (ZL (Q:=NoPanic Q) (fun a w=>gn a w) bW (h _ (ba.drew [] w)).wpAny)) NoPanic.imp
theorem aG' {id:Nat} {l:List Oper} (h:(∀ a w,¬ Q .outgrown a w)->wpListIn (j1 ro) n P l.toArray Q l a w):iN ro n P (.region id l.toArray false) Q a w:=fun gn=>wpIn_region_lit (h gn)
end
def aq.obj (g:Nat) (o:Obj):aq where
 fE:=[g]
 ok w:=w.heap[g]? =some o
 law w aF h bf:=(h g (by simp)).trans bf
section
variable {W w:World} {M0 X:List Nat} {E:List aq} {D:List al}
theorem ake (w:World) (g:Nat) (o:Obj):ba [g] w (w.putObj g o):=
 ⟨rfl,rfl,rfl,by simp,fun k _ af=>World.putObj_heap_other (by simpa using af)⟩
theorem ar.putObj {g:Nat} {o:Obj} (hm:ar W M0 X w E D) (i:Nat) (hi:E[i]? =some (aq.obj g o)) (lg:Obj):ar W M0 X (w.putObj g lg) (E.set i (aq.obj g lg)) D:=
 hm.vf i hi (ake w g lg) (by
   have h:w.heap[g]? =some o:=hm.e i hi
   exact World.putObj_heap_same (Array.getElem?_eq_some_iff.1 h).1) (by simp [aq.obj]) (fun k bf=>.inl bf)
theorem ar.newObj (hm:ar W M0 X w E D) (o:Obj):ar W M0 X (w.alloc o) (aq.obj w.heap.size o::E) D:=
 hm.push _ (ba.alloc _ _ _) (World.alloc_heap_new w o) (fun k bf=>by simp [aq.obj] at bf;subst bf;exact ⟨Nat.le_refl _,by simp⟩) (by simp [aq.obj])
end
def mark (r:Nat):Deferred:={ target:=.collected r,args:=#[] }
theorem abW {P:Program} {f:FuncId} {fn:Func} {c:Code} {vs:List Value} {w:World} {R:Ending->World->Prop} {n:Nat}
 (I:P.funcs[f]? =some fn) (a1:fn.body=some c) (af:fn.ntmps=n) (ax:Nat.ble vs.length n=true)
 (h:∀ a,Fr ⟨n,[]⟩ (xc 0 vs) a->c.wp P (bodyPostM Fence.wide 0 P fn R) a w):Calls P f vs.toArray w R:=by
 refine (callsIn_wide (n:=0)).1 (callsIn_of_wp_marks I a1 trivial (wpIn_wide.2 ?_))
 rw [af]
 exact h _ (Fr.init vs n ax)
section
variable {P:Program} {a:Act} {w:World} {W:World} {M0 X:List Nat} {E:List aq} {D:List al} {fn:Func} {R:Ending->World->Prop} {l:List (Nat × Value)} {n g t u:Nat} {v rz:Value}
theorem aeM (i:Nat) (I:Fr ⟨n,[mark g]⟩ l a) (hm:ar W M0 X w E D) (hi:E[i]? =some (aq.obj g (.deferred (some [])))) (h:∀ aF,ar W M0 X aF (E.set i (aq.obj g (.deferred none))) D-> ∃ v,(results fn a.tmps).run P aF= .ok v aF/\R (.returned v) aF) :
 bodyPostM Fence.wide 0 P fn R .ret a w:=by
 show LeavesInM Fence.wide 0 P fn a.tmps R a.defers .returning w
 rw [I.defers]
 exact ⟨by simp,.inl ⟨g,_,rfl,run_takeDeferred (hm.e i hi),h _ (hm.putObj i hi _)⟩⟩
theorem aET (i:Nat) (bR:fn.results= #[.tmp t]) (I:Fr ⟨n,[mark g]⟩ l a) (hm:ar W M0 X w E D) (hi:E[i]? =some (aq.obj g (.deferred (some [])))) (ax:fk l t=some v)
 (h:∀ aF,ar W M0 X aF (E.set i (aq.obj g (.deferred none))) D->R (.returned v) aF):bodyPostM Fence.wide 0 P fn R .ret a w:=
 aeM i I hm hi fun aF gz=>⟨_,results_tmp bR _ _ _,by rw [I.get _ _ ax];exact h aF gz⟩
theorem aEU (i:Nat) (bR:fn.results= #[.tmp t,.tmp u]) (I:Fr ⟨n,[mark g]⟩ l a) (hm:ar W M0 X w E D) (hi:E[i]? =some (aq.obj g (.deferred (some [])))) (ax:fk l t=some v) (pq:fk l u=some rz)
 (h:∀ aF,ar W M0 X aF (E.set i (aq.obj g (.deferred none))) D->R (.returned (.tuple #[v,rz])) aF):bodyPostM Fence.wide 0 P fn R .ret a w:=
 aeM i I hm hi fun aF gz=>⟨_,results_tmp2 bR _ _ _,by rw [I.get _ _ ax,I.get _ _ pq];exact h aF gz⟩
end
theorem ajZ {P:Program} {f:FuncId} {fn:Func} {c:Code} {vs:List Value} {w:World} {R:Ending->World->Prop} {n:Nat}
 (I:P.funcs[f]? =some fn) (a1:fn.body=some c) (af:fn.ntmps=n) (ax:Nat.ble vs.length n=true) (g2:∀ w,¬ R .outgrown w)
 (h:∀ a,Fr ⟨n,[]⟩ (xc 0 vs) a->iN none 1 P c (bodyPost P fn R) a w):CallsIn (j1 none) 1 P f vs.toArray w R:=by
 refine callsIn_of_wp I a1 trivial ?_
 rw [af]
 exact h _ (Fr.init vs n ax) (fun a w h=>g2 w h)
theorem y9 {P:Program} {fn:Func} {R:Ending->World->Prop} {a:Act} {w:World} (h:bodyPost P fn R .ret a w):bodyPost P fn R .normal a w:=h
theorem af2 {n:Nat} (h:n<=maxLen):J.ap ((n:Int) - 1)=(n:Int) - 1 :=by
 unfold J.ap
 simp only [maxLen] at h
 omega
theorem aEe {jJ pre rem:List Int} {x:Int} (h:jJ=(x::rem).reverse++pre):J.idx jJ (rem.length:Int)=some x:=by
 subst h
 unfold J.idx
 rw [if_pos (by omega)]
 simp
def ZF (P:Program) (f:FuncId):Prop:=∀ (lv:List Int->World->Prop) (jJ:List Int) (A:Option Addr) (c j8 L:Nat) (iI:World),
 (∀ rem w,lv rem w-> ∃ W M0 X E,ar W M0 X w E [al.cM j8 [.slice A jJ.length c],al.of (aG (ak .i64)) [.slice A jJ.length c] jJ]) ->
 (∀ x rem w,lv (x::rem) w->YieldAt (j1 none) 0 P L #[.int .i64 (rem.length:Int),.int .i64 x] w (fun e aF=>e= .returned (.bool true)/\lv rem aF)) ->
 lv jJ.reverse iI->CallsIn (j1 none) 1 P f #[.func (.yield L) #[] #[],.pointer (some ⟨j8,0,none⟩)] iI (fun e aF=>(∃ v,e= .returned v)/\lv [] aF)
section
variable {P:Program} {ops:Array Oper} {Q:Exit->Act->World->Prop} {a:Act} {w:World} {rest:List Oper} {o:Oper} {n:g8} {d L:Nat} {l:List (Nat × Value)}
theorem aGl {qL:Operand} {xs:List Operand} {kT:Array TypeId} {vs:List Value} (bm:o.op= .call { callee:=.value qL,args:=xs.toArray,argTypes:=kT }) (zM:a.eval qL= .func (.yield L) #[] #[]) (hs:xi a xs vs) :
 (execOp a.eval o).run P w=(Instr.yield L vs.toArray).run P w:=by
 have aC:=KM hs
 simp only [execOp,bm,resolve,List.map_toArray,aC,zM]
 simp [Deferred.ofValue,invoke]
theorem aIw {qL:Operand} {xs:List Operand} {kT:Array TypeId} {vs:List Value} {R:Ending->World->Prop} (hw:Region.wanted o (yielded ops a.tmps)=true) (bm:o.op= .call { callee:=.value qL,args:=xs.toArray,argTypes:=kT })
 (zM:a.eval qL= .func (.yield L) #[] #[]) (hs:xi a xs vs) (hy:YieldAt (j1 none) 0 P L vs.toArray w R) (I:Fr n l a) (bW:o.dst=some d) (af:Nat.blt d n=true)
 (k:∀ e aF,R e aF-> ∃ v,e= .returned v/\ ∀ bL,Fr n ((d,v)::l) bL->wpListIn (j1 none) 1 P ops Q rest bL aF):wpListIn (j1 none) 1 P ops Q (o::rest) a w:=by
 refine wpListIn_step fun K hn=>?_
 rw [if_pos hw]
 refine ⟨fun _ _=>trivial,?_⟩
 obtain ⟨fn,tmps,assign,body,aC,aS⟩:=hy
 rw [Oper.semAt_eq _ _ _ (by rw [bm];simp),aGl bm zM hs,aC]
 refine ⟨XH,RoundIn.mono aS ?_⟩
 intro e aF bR
 obtain ⟨v,rfl,bf⟩:=k e aF bR
 rw [bW]
 exact hn _ _ (bf _ (I.put af))
end
section
variable {P:Program} {Q:Exit->Act->World->Prop} {a:Act} {w:World} {W:World} {M0 X:List Nat} {E:List aq} {D:List al}
theorem abe {β:Type} {CI afR h5 hd n j8 c:Nat} {A:Option Addr} {l:List (Nat × Value)} {l1:Int->Int->List (Nat × Value)} {assign body:Code} (Bt:β->List aq) (vO:β->List al) (rel:List Int->β->Prop) (jJ:List Int) (wM:β) (kI kJ:Nat)
 (ayd:ZF P CI) (abV:∀ args w,(callFunc CI args).run P w= .ok (.enter CI args) w)
 (I:Fr ⟨n,[]⟩ l a) (dd:fk l afR=some (.func (.func CI) #[] #[.pointer (some ⟨j8,0,none⟩)])) (azg:Nat.blt h5 n=true) (azh:Nat.blt hd n=true)
 (hm:ar W M0 X w (Bt wM) (vO wM)) (bJ:rel jJ.reverse wM)
 (azk:∀ b,(vO b)[kI]? =some (al.cM j8 [.slice A jJ.length c])) (azl:∀ b,(vO b)[kJ]? =some (al.of (aG (ak .i64)) [.slice A jJ.length c] jJ))
 (bx:∀ L i x w bL (K:Act->World->Prop),Fr ⟨n,[]⟩ ((hd,.int .i64 x)::(h5,.int .i64 i)::l) bL->(∀ BD,Fr ⟨n,[]⟩ (l1 i x) BD->K BD w)->iN (some L) 0 P assign (Exit.then K (fun _ _ _=>False)) bL w)
 (a1:∀ L g p' kV qa b i x rem w bL (K:Exit->Act->World->Prop),rel (x::rem) b->Fr ⟨n,[]⟩ (l1 i x) bL->ar W M0 X w (aq.obj g p'::aq.obj kV qa::Bt b) (vO b) ->
  (∀ td BD aF,rel rem td->ar W M0 X aF (aq.obj g p'::aq.obj kV qa::Bt td) (vO td)->K .normal BD aF)->iN (some L) 0 P body K bL w)
 (avr:∀ g b bL aF,rel [] b->Fr ⟨n,[mark g]⟩ l bL->ar W M0 X aF (aq.obj g (.deferred (some []))::Bt b) (vO b)->Q .normal bL aF) :
 (Code.rangeFunc (.tmp afR) #[h5,hd] assign body).wp P Q a w:=by
 refine (wpIn_wide (n:=2)).1 (wpIn_rangeFunc fun fn _=>?_)
 obtain ⟨rec,xE⟩:∃ rec:LoopState->Loop,rec=fun st=>{ state:=st,pending:=none,fn,tmps:=a.tmps,params:=#[h5,hd],assign,body,defers:=w.heap.size }:=⟨_,rfl⟩
 obtain ⟨y7,acD⟩:∃ y7,(w.alloc (.deferred (some []))).alloc (.loop (rec .ready))=y7:=⟨_,rfl⟩
 have ay6:ar W M0 X y7 (aq.obj (w.heap.size+ 1) (.loop (rec .ready))::aq.obj w.heap.size (.deferred (some []))::Bt wM) (vO wM):=by
  have:=(hm.newObj (.deferred (some []))).newObj (.loop (rec .ready))
  rw [acD] at this
  simpa using this
 refine ⟨w.heap.size+ 1,[mark w.heap.size],y7,{ target:=.fn (.func CI) #[.pointer (some ⟨j8,0,none⟩)],args:=#[.func (.yield (w.heap.size+ 1)) #[] #[]] },y7,CI,
  #[.func (.yield (w.heap.size+ 1)) #[] #[],.pointer (some ⟨j8,0,none⟩)],y7,?_,?_,fun _ _=>trivial,?_,fun _=>by decide,?_⟩
 · rw [<-acD,xE];exact run_enterLoop_outer _ _ _ _ _
 · have RU:=I.g dd
   simp only [resolve,RU]
   simp [go_sem]
 · simp [invoke,go_sem,abV]
 · refine CallsIn.mono (ayd (fun rem aF=>∃ b,rel rem b/\ar W M0 X aF (aq.obj (w.heap.size+ 1) (.loop (rec .ready))::aq.obj w.heap.size (.deferred (some []))::Bt b) (vO b)) jJ A c j8 (w.heap.size+ 1) y7 ?_ ?_ ⟨wM,bJ,ay6⟩) ?_
   · rintro rem aF ⟨b,_,gz⟩
     exact ⟨_,_,_,_,gz.less fun y hy=>by
      simp only [List.mem_cons,List.not_mem_nil,or_false] at hy
      rcases hy with rfl | rfl
      · exact List.mem_of_getElem? (azk b)
      · exact List.mem_of_getElem? (azl b)⟩
   · rintro x rem aF ⟨b,bR,gz⟩
     have ax:aF.heap[w.heap.size+ 1]? =some (.loop (rec .ready)):=gz.e 0 rfl
     have hy:=run_yield (P:=P) (args:=#[.int .i64 (rem.length:Int),.int .i64 x]) ax (by rw [xE];rfl)
     rw [xE] at hy
     refine ⟨fn,_,assign,body,hy,roundIn_of_wpIn trivial ?_⟩
     have avy:Fr ⟨n,[]⟩ ((hd,.int .i64 x)::(h5,.int .i64 (rem.length:Int))::l) ⟨((#[h5,hd]:Array Tmp).zip #[Value.int .i64 (rem.length:Int),.int .i64 x]).foldl (fun tmps (x:Tmp × Value)=>tmps.setIfInBounds x.1 x.2) a.tmps,[]⟩:=by
      have aC:=(I.put (v:=.int .i64 (rem.length:Int)) azg).put (v:=.int .i64 x) azh
      have e:((#[h5,hd]:Array Tmp).zip #[Value.int .i64 (rem.length:Int),.int .i64 x]).foldl (fun tmps (x:Tmp × Value)=>tmps.setIfInBounds x.1 x.2) a.tmps=((a.put (some h5) (.int .i64 (rem.length:Int))).put (some hd) (.int .i64 x)).tmps:=by simp [Act.put]
      refine ⟨?_,rfl,?_⟩
      · simp only [e];exact aC.size
      · simp only [e];exact aC.get
     refine bx (w.heap.size+ 1) _ _ aF _ _ avy ?_ (fun a w h=>h)
     intro BD avx
     have oD:=gz.putObj 0 rfl (.loop { rec .ready with state:=.busy })
     refine ⟨_,run_beginRound ax (by rw [xE]),?_⟩
     refine a1 (w.heap.size+ 1) _ _ _ _ b _ x rem _ BD _ bR avx oD ?_ (fun a w h=>h)
     intro td a3 o5 Hf G7
     have TQ:o5.heap[w.heap.size+ 1]? =some (.loop { rec .ready with state:=.busy }):=G7.e 0 rfl
     refine ⟨_,_,run_endRound none TQ,rfl,td,Hf,?_⟩
     have G8:=G7.putObj 0 rfl (.loop (rec .ready))
     rw [xE] at G8 ⊢
     exact G8
   · rintro e o5 ⟨⟨v,rfl⟩,b,bR,G7⟩
     have TQ:o5.heap[w.heap.size+ 1]? =some (.loop (rec .ready)):=G7.e 0 rfl
     have he:=run_endLoop (P:=P) TQ (by rw [xE];simp)
     rw [xE] at he
     refine ⟨none,_,he,?_⟩
     have G8:=G7.putObj 0 rfl (.loop { rec .ready with state:=.exhausted })
     rw [xE] at G8
     refine avr w.heap.size b _ _ bR ⟨I.size,?_,I.get⟩ (G8.drop (List.sublist_cons_self _ _))
     show [mark w.heap.size]++a.defers= [mark w.heap.size]
     rw [I.defers];rfl
end
end aZ
namespace aZ
open Go Go.RowKit J
def al.AJ:al:=⟨fun _ _=>True,fun _ _ _ _ _ _ _=>trivial⟩
def al.ed {α:Type} (o:Option α) (f:α->al):al:=match o with
 | none=>al.AJ
 | some x=>f x
def iG {α:Type} (o:Option α) (g:Nat):Option Addr:=match o with
 | none=>none
 | some _=>some ⟨g,0,none⟩
section
variable {P:Program} {ops:Array Oper} {Q:Exit->Act->World->Prop} {a:Act} {w:World} {rest:List Oper} {o:Oper} {n:g8} {d:Nat} {l:List (Nat × Value)}
 {W:World} {M0 X:List Nat} {E:List aq} {D:List al}
theorem ar.none (h:ar W M0 X w E D) {α:Type} (f:α->al):ar W M0 X w E (al.ed (Option.none:Option α) f::D):=h.more (y:=al.ed (Option.none:Option α) f) trivial
theorem aGA {α:Type} {T:fb α} {t e:TypeId} {x y:Operand} {z:Value} {bytes:Nat} {k:Int} {z0:α} {r:List α}
 (hm:ar W M0 X w E D) (j':P.underlying t=some (.slice e)) (k1:(P.info? e).map (fun i=>(i.zero,i.size,i.bytes))=some (some z,1,bytes)) (CE:z.cells= #[z]) (zA:T.size= 1)
 (CD:∀ F w,T.rd F w [z] z0) (kx:Nat.ble 1 bytes=true) (bR:Mc z0 bytes k=some r) (hw:Region.wanted o (yielded ops a.tmps)=true) (bm:o.op= .makeSlice t x y) (ai:a.eval x= .int .i64 k) (hy:a.eval y= .int .i64 k)
 (I:Fr n l a) (bW:o.dst=some d) (af:Nat.blt d n=true)
 (next:∀ bL A c xs aF,ba [] w aF->Fr n ((d,.slice A r.length c)::l) bL->ar W M0 X aF (aq.row e T.size (.slice A r.length c) r xs::E) (al.rows T xs r::D)->wpList P ops Q rest bL aF):wpList P ops Q (o::rest) a w:=by
 obtain ⟨bJ,aC,rfl⟩:=aE2 bR
 obtain ⟨m,rfl⟩:=Int.eq_ofNat_of_zero_le bJ
 simp only [Int.toNat_natCast] at *
 have kx:=Nat.le_of_ble_eq_true kx
 have hle:m<=bytes*m:=Nat.le_mul_of_pos_left m kx
 have sg:=run_make_row' (P:=P) t e z bytes j' k1 CE .i64 .i64 m (by omega) (by omega) w
 have Hs:cf P o a w (.slice (some ⟨w.heap.size,0,none⟩) m m) (w.alloc (.cells (madeCells #[z] m) e)):=by
  simp only [cf,execOp,bm,ai,hy,Sem.run_bind,sg,Result.andThen_ok,Sem.run_pure]
 have lJ:(aq.row e T.size (.slice (some ⟨w.heap.size,0,none⟩) m m) (List.replicate m z0) (List.replicate m z)).ok (w.alloc (.cells (madeCells #[z] m) e)):=by
  refine ⟨by simp [zA],.inr ⟨w.heap.size,m,madeCells #[z] m,by simp,Nat.zero_le _,heap_alloc_new w _,by simp,by simp only [maxLen];omega,by simp [size_madeCells,zA],?_⟩⟩
  rw [toList_madeCells_one]
  simp [zA]
 have aA7:∀ (F:Nat->Prop) (w:World) (q:Nat),fO T F w (List.replicate q z) (List.replicate q z0):=by
  intro F w q
  induction q with
  | zero=>rfl
  | succ q cn=>exact ⟨[z],List.replicate q z,rfl,CD F w,cn⟩
 have oD:=hm.push (aq.row e T.size (.slice (some ⟨w.heap.size,0,none⟩) m m) (List.replicate m z0) (List.replicate m z)) (ba.alloc [] w _) lJ (fun q ec=>by
  have:q=w.heap.size:=by simpa [aq.row,Value.ownBlock,eq_comm] using ec
  subst this;simp) (by simp [aq.row,Value.ownBlock])
 refine bQ hw Hs I bW af fun bL eY=>next bL (some ⟨w.heap.size,0,none⟩) m (List.replicate m z) _ (ba.alloc [] w _) ?_ ?_
 · simpa using eY
 · have:=oD.H6 (T:=T) (xs:=List.replicate m z) (li:=List.replicate m z0) (aA7 _ _ m)
   simpa using this
theorem aft {α:Type} {T:fb α} {z:Value} {z0:α} (CD:∀ F w,T.rd F w [z] z0) (F:Nat->Prop) (w:World):∀ q:Nat,fO T F w (List.replicate q z) (List.replicate q z0)
 | 0 =>rfl
 | q+ 1 =>⟨[z],List.replicate q z,rfl,CD F w,aft CD F w q⟩
theorem aGr {α:Type} {T:fb α} {t XX e:TypeId} {x y:Operand} {z:Value} {bytes:Nat} {k:Int} {z0:α} {r:List α}
 (hm:ar W M0 X w E D) (j':P.underlying t=some (.slice e)) (aoe:P.underlying XX=some (.int .i64)) (k1:(P.info? e).map (fun i=>(i.zero,i.size,i.bytes))=some (some z,1,bytes)) (CE:z.cells= #[z]) (zA:T.size= 1)
 (CD:∀ F w,T.rd F w [z] z0) (kx:Nat.ble 1 bytes=true) (bR:EE z0 bytes k=some r) (hw:Region.wanted o (yielded ops a.tmps)=true) (bm:o.op= .call { callee:=.builtin .append,args:=#[x,y],argTypes:=#[t,XX] })
 (ai:a.eval x= .slice none 0 0) (hy:a.eval y= .int .i64 k) (I:Fr n l a) (bW:o.dst=some d) (af:Nat.blt d n=true)
 (next:∀ bL A c xs aF,ba [] w aF->Fr n ((d,.slice A r.length c)::l) bL->ar W M0 X aF (aq.row e T.size (.slice A r.length c) r xs::E) (al.rows T xs r::D)->wpList P ops Q rest bL aF):wpList P ops Q (o::rest) a w:=by
 obtain ⟨bJ,aC,rfl⟩:=ahx bR
 obtain ⟨m,rfl⟩:=Int.eq_ofNat_of_zero_le (Int.le_of_lt bJ)
 simp only [Int.toNat_natCast] at *
 have kx:=Nat.le_of_ble_eq_true kx
 have hle:m<=bytes*m:=Nat.le_mul_of_pos_left m kx
 obtain ⟨i0,hi,adS⟩:=Option.map_eq_some_iff.1 k1
 simp only [Prod.mk.injEq] at adS
 obtain ⟨cU,a5,a1⟩:=adS
 have sg:=Lib.run_append_nil_zeros (P:=P) w t XX o.type e i0 z .i64 .i64 j' aoe hi cU m (by omega) (by omega) (by omega) (by rw [a1,Nat.mul_comm];omega)
 let cap:=grownCap w m 0 e
 have acH:m<=cap:=grownCap_ge w m 0 e
 have GF:cap<=maxLen:=grownCap_le_maxLen w m 0 e (by simp only [maxLen];omega)
 have aEa:∀ q,(Builtin.zeroCells z.cells q).toList=List.replicate q z:=by
  intro q
  rw [CE]
  apply List.ext_getElem
  · simp [Builtin.zeroCells]
  · intro j aC aS
    simp [Builtin.zeroCells,Nat.mod_one]
 let cur:=Builtin.zeroCells z.cells m++Builtin.zeroCells z.cells (cap - m)
 have hcs:cur.size=cap:=by simp only [cur,Array.size_append,size_zeroCells,CE];simp;omega
 have Hs:cf P o a w (.slice (some ⟨w.heap.size,0,none⟩) m cap) (w.drew.alloc (.cells cur e)):=by
  simp only [cf,execOp,bm,resolve,invoke,builtin,Sem.run_bind,Sem.run_pure,Result.andThen_ok,List.map_toArray,List.map_cons,List.map_nil,ai,hy,sg,cap,cur]
 have lI:ba [] w (w.drew.alloc (.cells cur e)):=(ba.drew [] w).trans (ba.alloc [] w.drew (.cells cur e)) (by simp)
 have K8:w.drew.heap.size=w.heap.size:=rfl
 have lJ:(aq.row e T.size (.slice (some ⟨w.heap.size,0,none⟩) m cap) (List.replicate m z0) (List.replicate m z)).ok (w.drew.alloc (.cells cur e)):=by
  refine ⟨by simp [zA],.inr ⟨w.heap.size,cap,cur,by simp,Nat.zero_le _,?_,by simpa using acH,GF,by simp [hcs,zA],?_⟩⟩
  · rw [<-K8];exact heap_alloc_new w.drew _
  · simp only [cur,Array.toList_append,aEa,zA,List.length_replicate,Nat.mul_one]
    rw [List.take_append_of_le_length (by simp),List.take_of_length_le (by simp)]
 have oD:=hm.push (aq.row e T.size (.slice (some ⟨w.heap.size,0,none⟩) m cap) (List.replicate m z0) (List.replicate m z)) lI lJ (fun q ec=>by
  have:q=w.heap.size:=by simpa [aq.row,Value.ownBlock,eq_comm] using ec
  subst this;simp) (by simp [aq.row,Value.ownBlock])
 refine bQ hw Hs I bW af fun bL eY=>next bL (some ⟨w.heap.size,0,none⟩) cap (List.replicate m z) _ lI ?_ ?_
 · simpa using eY
 · have:=oD.H6 (T:=T) (xs:=List.replicate m z) (li:=List.replicate m z0) (aft CD _ _ m)
   simpa using this
theorem aGs {α:Type} {T:fb α} {t e c:Nat} {A:Option Addr} {li:List α} {xs:List Value} {x:Operand} {lo hi:Option Operand} (i:Nat) (hm:ar W M0 X w E D) (xw:E[i]? =some (aq.row e T.size (.slice A li.length c) li xs))
 (bO:P.underlying t=some (.slice e)) (a5:∀ w,(Go.sizeOf e).run P w= .ok T.size w) (hw:Region.wanted o (yielded ops a.tmps)=true) (bm:o.op= .slice t x lo hi none) (ai:a.eval x= .slice A li.length c)
 (qZ:(lo=none/\(0 :Int)= 0)\/ ∃ z,lo=some z/\a.eval z= .int .i64 0) (qW:∃ z,hi=some z/\a.eval z= .int .i64 0) (I:Fr n l a) (bW:o.dst=some d) (af:Nat.blt d n=true)
 (next:∀ bL,Fr n ((d,.slice A ([]:List α).length c)::l) bL->ar W M0 X w (E.set i (aq.row e T.size (.slice A ([]:List α).length c) ([]:List α) [])) (al.rows T [] ([]:List α)::D)->wpList P ops Q rest bL w):wpList P ops Q (o::rest) a w:=by
 have TX:w.ownsRow 0 e T.size (.slice A li.length c) li.length xs:=hm.e i xw
 obtain ⟨jx,dM,ad,hle,_,Lp,gI⟩:=XN (hm.e i xw)
 simp only [Value.slice.injEq,true_and] at ad
 obtain ⟨rfl,rfl⟩:=ad
 have hy:=O0 (P:=P) (w:=w) (a:=a) (o:=o) bO a5 bm ai qZ (.inr qW) (i:=0) (j:=0) ⟨Int.le_refl _,Int.le_refl _,by omega⟩ hle
 have hAdd:(if c=(0 :Int).toNat then A else A.map (·.add ((0 :Int).toNat*T.size)))=A:=by
  split
  · rfl
  · cases acu:A with
    | none=>rfl
    | some ch=>
      have:=gI (by rw [acu];simp)
      rw [acu] at this
      simp only [Option.some.injEq] at this
      rw [this,Option.map_some,qC]
      simp
 rw [hAdd] at hy
 have hy:cf P o a w (.slice A ([]:List α).length c) w:=by simpa using hy
 have lJ:(aq.row e T.size (.slice A ([]:List α).length c) ([]:List α) []).ok w:=by
  refine ⟨by simp,?_⟩
  rcases TX.2 with ⟨bM,b7⟩ | ⟨g,cap,cur,bM,b7,ez,hl,j5,zk,_⟩
  · left
    simp only [Value.slice.injEq] at bM
    obtain ⟨rfl,_,rfl⟩:=bM
    exact ⟨rfl,rfl⟩
  · right
    simp only [Value.slice.injEq] at bM
    obtain ⟨rfl,_,rfl⟩:=bM
    exact ⟨g,c,cur,rfl,b7,ez,Nat.zero_le _,j5,zk,by simp⟩
 refine bQ hw hy I bW af fun bL eY=>next bL eY ?_
 refine (hm.more (y:=al.rows T [] ([]:List α)) rfl).vf i xw (ba.refl _ _) lJ (WI _) (fun q ec=>.inl (by
  cases A with
  | none=>simp [aq.row,Value.ownBlock] at ec
  | some ch=>simpa [aq.row,Value.ownBlock] using ec))
theorem aH0 {t e:TypeId} {sz:Nat} {x:Operand} {lo hi:Option Operand} (bO:P.underlying t=some (.slice e)) (a5:∀ w,(Go.sizeOf e).run P w= .ok sz w) (bm:o.op= .slice t x lo hi none) (ai:a.eval x= .slice none 0 0)
 (qZ:(lo=none/\(0 :Int)= 0)\/ ∃ z,lo=some z/\a.eval z= .int .i64 0) (qW:(hi=none/\(0 :Int)=(0 :Nat))\/ ∃ z,hi=some z/\a.eval z= .int .i64 0):cf P o a w (.slice none 0 0) w:=by
 have h:=O0 (P:=P) (w:=w) bO a5 bm ai qZ qW (i:=0) (j:=0) ⟨Int.le_refl _,Int.le_refl _,by omega⟩ (Nat.le_refl 0)
 simpa using h
theorem agR {t e:TypeId} {A:Option Addr} {m c:Nat} {x:Operand} (bO:P.underlying t=some (.slice e)) (bm:o.op= .call { callee:=.builtin .cap,args:=#[x],argTypes:=#[t] }) (ai:a.eval x= .slice A m c):cf P o a w (.int .i64 c) w:=by
 simp [cf,execOp,bm,resolve,invoke,builtin,Builtin.cap_,ai,run_underlying bO,goInt]
theorem aHY {t ef:TypeId} {x:Operand} {m:Int} (bO:P.underlying t=some (.int .i64)) (oG:P.underlying ef=some (.int .u64)) (bm:o.op= .convert t ef x) (ai:a.eval x= .int .i64 m):cf P o a w (.int .u64 (nX m)) w:=by
 have h:=OZ (P:=P) (w:=w) bO oG bm ai
 rwa [show IntKind.u64.wrap m=nX m by rw [IntKind.wrap_u64];rfl] at h
theorem aHW {t ef:TypeId} {x:Operand} {m:Int} (bO:P.underlying t=some (.int .u64)) (oG:P.underlying ef=some (.int .i64)) (bm:o.op= .convert t ef x) (ai:a.eval x= .int .u64 m):cf P o a w (.int .i64 (ap m)) w:=by
 have h:=OZ (P:=P) (w:=w) bO oG bm ai
 rwa [yx] at h
theorem aIt {t ef:TypeId} {x y:Operand} {k:IntKind} {m:Int} {n:Nat} (af:Nat.ble n 64 =true) (bm:o.op= .binOp .shr t x y ef) (ai:a.eval x= .int .u64 m) (hy:a.eval y= .int k (n:Int)):cf P o a w (.int .u64 (nT m n)) w:=by
 have hle:=Nat.le_of_ble_eq_true af
 unfold nT
 simp only [cf,execOp,bm,ai,hy]
 simp [go_sem,hle]
end
end aZ
namespace aZ
open Go Go.RowKit J Go.Shelf Go.Proofs
theorem Cc (b:Nat):∀ (vs:List Value) (o:Nat) (w:World),ba [b] w (w.setCells b o vs)
 | [],_,w=>ba.refl _ w
 | v::r,o,w=>(ba.set w ⟨b,o,none⟩ v).trans (Cc b r (o+ 1) _) (fun x ai=>.inl ai)
theorem Dh (b:Nat) (e:TypeId) (KP:Nat × Nat):∀ (vs:List Value) (o:Nat) (w:World) (cur:List Value),w.heap[b]? =some (.cells cur.toArray e KP)->o+vs.length<=cur.length ->
 (w.setCells b o vs).heap[b]? =some (.cells (cur.take o++vs++cur.drop (o+vs.length)).toArray e KP)
 | [],o,w,cur,h,_=>by simpa [World.setCells] using h
 | v::r,o,w,cur,h,ax=>by
   simp only [List.length_cons] at ax
   have a1:b <w.heap.size:=by
    rcases Nat.lt_or_ge b w.heap.size with dK | dK
    · exact dK
    · rw [Array.getElem?_eq_none dK] at h;cases h
   have aC:(w.setCell ⟨b,o,none⟩ v).heap[b]? =some (.cells (cur.set o v).toArray e KP):=by
    simp only [World.setCell,Array.getElem?_modify,if_pos,h,Option.map_some]
    simp
   have:=Dh b e KP r (o+ 1) _ (cur.set o v) aC (by simp;omega)
   show ((w.setCell ⟨b,o,none⟩ v).setCells b (o+ 1) r).heap[b]? =_
   rw [this]
   have Ho:cur.set o v=cur.take o++v::cur.drop (o+ 1):=by rw [List.set_eq_take_append_cons_drop,if_pos (by omega)]
   have bO:(cur.take o).length=o:=by rw [List.length_take];omega
   have bM:(cur.set o v).take (o+ 1)=cur.take o++[v]:=by
    rw [Ho,List.take_append,bO,List.take_of_length_le (by rw [bO];omega)]
    simp
   have b7:(cur.set o v).drop (o+ 1 +r.length)=cur.drop (o+(v::r).length):=by
    rw [List.drop_set_of_lt (by omega)]
    congr 1
    simp;omega
   rw [bM,b7]
   simp
theorem aGx {cur xs:List Value} {x:Value} {n m:Nat} (bO:cur.take n=xs) (af:xs.length=n) (hm:m<=n) (hc:n+ 1 <=cur.length) :
 ((cur.take (m+ 1)++xs.drop m++cur.drop (m+ 1 +(xs.drop m).length)).take m++[x]++(cur.take (m+ 1)++xs.drop m++cur.drop (m+ 1 +(xs.drop m).length)).drop (m+ 1)).take (n+ 1)=xs.take m++[x]++xs.drop m:=by
 have aC:(cur.take (m+ 1)).length=m+ 1 :=by rw [List.length_take];omega
 have aS:(cur.take (m+ 1)++xs.drop m++cur.drop (m+ 1 +(xs.drop m).length)).take m=xs.take m:=by
  rw [List.append_assoc,List.take_append_of_le_length (by omega),List.take_take,Nat.min_eq_left (by omega),<-bO,List.take_take,Nat.min_eq_left hm]
 have bV:(cur.take (m+ 1)++xs.drop m++cur.drop (m+ 1 +(xs.drop m).length)).drop (m+ 1)=xs.drop m++cur.drop (m+ 1 +(xs.drop m).length):=by
  rw [List.append_assoc,List.drop_append,aC,List.drop_eq_nil_of_le (by omega)]
  simp
 rw [aS,bV,<-List.append_assoc,List.take_append_of_le_length (by simp;omega),List.take_of_length_le (by simp;omega)]
theorem akH {z0 xs:List Value} {x:Value} {n m:Nat} (af:xs.length=n) (hm:m<=n) (cU:z0.take m=xs.take m) (ax:n+ 1 <=z0.length) :
 ((z0.take m++[x]++z0.drop (m+ 1)).take (m+ 1)++xs.drop m++(z0.take m++[x]++z0.drop (m+ 1)).drop (m+ 1 +(xs.drop m).length)).take (n+ 1)=xs.take m++[x]++xs.drop m:=by
 have aC:(z0.take m++[x]).length=m+ 1 :=by simp;omega
 rw [List.take_append_of_le_length (l₁:=z0.take m++[x]) (by omega),List.take_of_length_le (l:=z0.take m++[x]) (by omega),cU,List.take_append_of_le_length (by simp;omega),List.take_of_length_le (by simp;omega)]
section
variable {P:Program} {ρ:Ren} {w:World} {W:World} {M0 X:List Nat} {E:List aq} {D:List al}
theorem afr {F:Nat->Prop}:∀ {li:List Int} {xs:List Value},fO (ak .i64) F w xs li->xs=li.map (Value.int .i64)
 | [],_,h=>h
 | b::r,_,⟨cs,ys,e,aC,aS⟩=>by
   have aC:cs= [.int .i64 b]:=aC
   rw [e,aC,afr aS]
   rfl
theorem afs {F:Nat->Prop}:∀ li:List Int,fO (ak .i64) F w (li.map (Value.int .i64)) li
 | []=>rfl
 | b::r=>⟨[.int .i64 b],r.map (Value.int .i64),rfl,rfl,afs r⟩
theorem aiX (L:Lays2.n21 P ρ) {A:Option Addr} {c g:Nat} {li r:List Int} {xs:List Value} {n x:Int} (i j q:Nat) (K9:Nat.beq i j=false) (hm:ar W M0 X w E D) (hi:E[i]? =some (aq.row (ρ.t 3) 1 (.slice A li.length c) li xs))
 (bc:E[j]? =some (aq.br g (ρ.t 3) [.int .i64 x])) (ec:D[q]? =some (al.rows (ak .i64) xs li)) (bR:LB li n x=some r) :
 Calls P (ρ.f 21) [.slice A li.length c,.int .i64 n,.slice (some ⟨g,0,none⟩) 1 1].toArray w (fun e aF=>∃ jx dM fD,e= .returned (.slice jx r.length dM)/\ar W M0 X aF (E.set i (aq.row (ρ.t 3) 1 (.slice jx r.length dM) r fD)) (al.rows (ak .i64) fD r::D)):=by
 obtain ⟨bJ,aC,r8,rfl⟩:=aEo bR
 obtain ⟨m,rfl⟩:=Int.eq_ofNat_of_zero_le bJ
 have gz:m<=li.length:=by omega
 simp only [Int.toNat_natCast]
 have hs:xs=li.map (Value.int .i64):=afr (hm.d q ec)
 have lJ:w.ownsRow 0 (ρ.t 3) 1 (.slice A li.length c) li.length xs:=hm.e i hi
 have arj:w.heap[g]? =some (.cells [Value.int .i64 x].toArray (ρ.t 3) (0,0)):=hm.e j bc
 have xH:∀ q v,[Value.int .i64 x][q]? =some v->w.cell? ⟨g,0 +q,none⟩=some v:=fun q v ec=>by
  have:=BG (hm.e j bc) ec
  simpa using this
 have FE:∀ v ∈ [Value.int .i64 x],v.oneCell'=true:=fun v ad=>by simp at ad;subst ad;rfl
 have acs:∀ v ∈ xs,v.oneCell'=true:=fun v ad=>by rw [hs] at ad;simp at ad;obtain ⟨_,_,rfl⟩:=ad;rfl
 have nB:xs.length=li.length:=by rw [hs];simp
 have hlen:(li.take m++x::li.drop m).length=li.length+ 1 :=by simp;omega
 have zX:(li.take m++x::li.drop m).map (Value.int .i64)=xs.take m++[Value.int .i64 x]++xs.drop m:=by rw [hs];simp [List.map_take,List.map_drop]
 have go:∀ (jx:Option Addr) (dM:Nat) (aF:World),ba (Value.slice A li.length c).ownBlock.toList w aF->aF.ownsRow 0 (ρ.t 3) 1 (.slice jx (li.length+ 1) dM) (li.length+ 1) (xs.take m++[Value.int .i64 x]++xs.drop m) ->
  (∀ k,(Value.slice jx (li.length+ 1) dM).ownBlock=some k->(Value.slice A li.length c).ownBlock=some k\/(w.heap.size<=k/\k <aF.heap.size)) ->
  ∃ Yv ZX fD,Ending.returned (.slice jx (li.length+ 1) dM)= .returned (.slice Yv (li.take m++x::li.drop m).length ZX)/\ar W M0 X aF (E.set i (aq.row (ρ.t 3) 1 (.slice Yv (li.take m++x::li.drop m).length ZX) (li.take m++x::li.drop m) fD)) (al.rows (ak .i64) fD (li.take m++x::li.drop m)::D):=by
  intro jx dM aF ad q0 I
  have TX:(aq.row (ρ.t 3) 1 (.slice jx (li.take m++x::li.drop m).length dM) (li.take m++x::li.drop m) ((li.take m++x::li.drop m).map (Value.int .i64))).ok aF:=by
   show aF.ownsRow 0 (ρ.t 3) 1 _ (li.take m++x::li.drop m).length _
   rw [hlen,zX]
   exact q0
  refine ⟨jx,dM,(li.take m++x::li.drop m).map (Value.int .i64),by rw [hlen],?_⟩
  refine (hm.H6 (T:=ak .i64) (afs (li.take m++x::li.drop m))).vf i hi ad TX (WI _) (fun k bf=>?_)
  have kb:(Value.slice jx (li.length+ 1) dM).ownBlock=some k:=by
   have:(Value.slice jx (li.take m++x::li.drop m).length dM).ownBlock=some k:=by simpa [aq.row] using bf
   rwa [hlen] at this
  rcases I k kb with e | e
  · exact .inl (by simpa [aq.row] using e)
  · exact .inr e
 have RV:grownCap w (li.length+ 1) c (ρ.t 3)<=maxLen:=grownCap_le_maxLen _ _ _ _ (by simp only [maxLen];omega)
 have zP:li.length+ 1 <=grownCap w (li.length+ 1) c (ρ.t 3):=grownCap_ge _ _ _ _
 rcases lJ.2 with ⟨ad,ay9⟩ | ⟨b,cap,cur,ad,_,a1,Lp,mG,hcs,Un⟩
 ·
   simp only [Value.slice.injEq] at ad
   obtain ⟨rfl,_,rfl⟩:=ad
   have CB:li= []:=List.eq_nil_of_length_eq_zero ay9
   subst CB
   have bh:m= 0 :=by simpa using gz
   subst bh
   have aD5:xs= []:=by simpa using hs
   subst aD5
   have hc:=Any2.slices_Insert_int_end_grow L none 0 0 g 0 1 1 [] [Value.int .i64 x] w (by decide) (by decide) (by decide) (by decide) rfl rfl (fun _=>rfl) (fun a bx=>by cases bx) xH FE
   refine Calls.mono hc ?_
   rintro e aF ⟨rfl,rfl⟩
   refine go (some ⟨w.heap.size,0,none⟩) (grownCap w 1 0 (ρ.t 3)) _ ((ba.drew [] w).trans (ba.alloc [] w.drew _) (by simp) |>.mono (by simp)) ?_ (fun k bf=>.inr ?_)
   · refine ⟨by simp,.inr ⟨w.heap.size,_,_,rfl,Nat.zero_le _,heap_alloc_new w.drew _,zP,RV,?_,?_⟩⟩
     · simp only [Array.size_append,List.size_toArray,size_zeroCells];simp at zP ⊢;simp [Value.cells];omega
     · simp
   · have:w.heap.size=k:=by simpa [Value.ownBlock] using bf
     subst this;simp
 · simp only [Value.slice.injEq,true_and] at ad
   obtain ⟨rfl,rfl⟩:=ad
   have RA:cur.size=c:=by simpa using hcs
   have nz:cur.toList.length=c:=by simpa using RA
   have bO:cur.toList.take li.length=xs:=by simpa using Un
   have iA:w.heap[b]? =some (.cells cur.toList.toArray (ρ.t 3) (0,0)):=by simpa using a1
   have oB:∀ j v,xs[j]? =some v->w.cell? ⟨b,0 +j,none⟩=some v:=fun j v bc=>by
    have:=(lJ.cells (g:=b) rfl) j v bc
    rw [Nat.zero_add]
    have e:(⟨b,j,none⟩:Addr)=if j= 0 then ⟨b,0,none⟩ else ⟨b,j,none⟩:=by split <;> simp_all
    rw [e]
    simpa [Addr.add] using this
   have eZ:g≠b:=by
    intro e
    have bW:=KN hm.dO
    have G9:i≠j:=by intro h;subst h;simp at K9
    exact (bW i _ hi).2 j _ bc G9 b (by simp [aq.row,Value.ownBlock]) (by simp [aq.br,e])
   have sh:∀ j,j <c->(w.cell? ⟨b,0 +j,none⟩).isSome=true:=fun j bc=>by
    simp [World.cell?,a1,RA,bc]
   have RM:∀ j,w.frozen? ⟨b,0 +j,none⟩=false:=fun j=>by simp [World.frozen?,a1]
   by_cases Lr:li.length+ 1 <=c
   · by_cases tS:m=li.length
     · subst tS
       have hc:=Any2.slices_Insert_int_end_room L b 0 li.length c g 0 1 1 [Value.int .i64 x] w (by decide) Lr (by simp only [maxLen] at mG;omega) rfl (fun j bc=>by rw [Nat.add_assoc];exact sh _ (by omega)) (fun j bc=>by rw [Nat.add_assoc];exact RM _) xH FE
       refine Calls.mono hc ?_
       rintro e aF ⟨rfl,rfl⟩
       refine go (some ⟨b,0,none⟩) c _ ((Cc b _ _ w).mono (by simp [Value.ownBlock])) ?_ (fun k bf=>.inl (by simpa [Value.ownBlock] using bf))
       have hM:=Dh b (ρ.t 3) (0,0) [Value.int .i64 x] (0 +li.length) w cur.toList iA (by simp;omega)
       refine ⟨by simp;omega,.inr ⟨b,c,_,rfl,Nat.zero_le _,hM,Lr,mG,?_,?_⟩⟩
       · simp;omega
       · simp only [Nat.zero_add,Nat.mul_one,bO]
         rw [List.take_append_of_le_length (by simp;omega),List.take_of_length_le (by simp;omega),List.take_of_length_le (by omega),List.drop_eq_nil_of_le (by omega)]
         simp
     · have hc:=Any2.slices_Insert_int_shift L b 0 li.length c m g 0 1 1 xs [Value.int .i64 x] w (by omega) (by decide) Lr (by simp only [maxLen] at mG;omega) eZ nB rfl oB (fun j bc=>sh j (by omega)) (fun j _=>RM j) xH acs FE
        (ρ.t 3) (ρ.t 3) 1 c (by simp [World.shape?,arj]) (by simp [World.shape?,a1,RA]) (by omega) (ZW (hm.e j bc) 0) (ZW (hm.e j bc) 1)
       refine Calls.mono hc ?_
       rintro e aF ⟨rfl,rfl⟩
       have nr:=Cc b (xs.drop m) (0 +(m+ 1)) w.drew
       have KI:=Cc b [Value.int .i64 x] (0 +m) (w.drew.setCells b (0 +(m+ 1)) (xs.drop m))
       refine go (some ⟨b,0,none⟩) c _ ((((ba.drew [b] w).trans nr (fun x ai=>.inl ai)).trans KI (fun x ai=>.inl ai)).mono (by simp [Value.ownBlock])) ?_ (fun k bf=>.inl (by simpa [Value.ownBlock] using bf))
       have avC:=Dh b (ρ.t 3) (0,0) (xs.drop m) (0 +(m+ 1)) w.drew cur.toList iA (by simp;omega)
       have hM:=Dh b (ρ.t 3) (0,0) [Value.int .i64 x] (0 +m) _ _ avC (by simp;omega)
       refine ⟨by simp;omega,.inr ⟨b,c,_,rfl,Nat.zero_le _,hM,Lr,mG,?_,?_⟩⟩
       · simp;omega
       · have:=aGx (x:=Value.int .i64 x) bO nB gz (by omega)
         simpa using this
   · have acH:li.length=c:=by omega
     by_cases tS:m=li.length
     · subst tS
       have hc:=Any2.slices_Insert_int_end_grow L (some ⟨b,0,none⟩) li.length c g 0 1 1 xs [Value.int .i64 x] w (by decide) (by omega) (by omega) (by omega) nB rfl (fun h=>by cases h) (fun a bx j v bc=>by
        cases bx
        have:=(lJ.cells (g:=b) rfl) j v bc
        simpa [Addr.add] using this) xH FE
       refine Calls.mono hc ?_
       rintro e aF ⟨rfl,rfl⟩
       refine go (some ⟨w.heap.size,0,none⟩) (grownCap w (li.length+ 1) c (ρ.t 3)) _ (((ba.drew [] w).trans (ba.alloc [] w.drew _) (by simp)).mono (by simp)) ?_ (fun k bf=>.inr ?_)
       · refine ⟨by simp;omega,.inr ⟨w.heap.size,_,_,rfl,Nat.zero_le _,heap_alloc_new w.drew _,zP,RV,?_,?_⟩⟩
         · simp only [Array.size_append,List.size_toArray,size_zeroCells,List.length_append,nB];simp [Value.cells];omega
         · simp only [Nat.mul_one,List.drop_zero,Array.toList_append]
           rw [List.take_append_of_le_length (by simp [nB]),List.take_of_length_le (by simp [nB]),List.take_of_length_le (l:=xs) (by omega),List.drop_eq_nil_of_le (by omega)]
           simp
       · have:w.heap.size=k:=by simpa [Value.ownBlock] using bf
         subst this;simp
     · have hc:=Any2.slices_Insert_int_grow L b 0 li.length c m g 0 1 1 xs [Value.int .i64 x] w (by omega) (by decide) (by omega) (by omega) (by omega) nB rfl oB xH acs FE
       refine Calls.mono hc ?_
       rintro e aF ⟨rfl,rfl⟩
       have aom:=heap_alloc_new w (.cells ((xs.take m).toArray++Builtin.zeroCells (Value.int .i64 0).cells (li.length+ 1 - m)++Builtin.zeroCells (Value.int .i64 0).cells (grownCap w (li.length+ 1) c (ρ.t 3) - (li.length+ 1))) (ρ.t 3))
       have CE:∀ q,(Builtin.zeroCells (Value.int .i64 0).cells q).toList.length=q:=fun q=>by rw [Array.length_toList,size_zeroCells];simp [Value.cells]
       have ayh:((xs.take m)++(Builtin.zeroCells (Value.int .i64 0).cells (li.length+ 1 - m)).toList++(Builtin.zeroCells (Value.int .i64 0).cells (grownCap w (li.length+ 1) c (ρ.t 3) - (li.length+ 1))).toList).length=grownCap w (li.length+ 1) c (ρ.t 3):=by
        simp only [List.length_append,CE,List.length_take,nB];omega
       have Q6:(w.alloc (.cells ((xs.take m).toArray++Builtin.zeroCells (Value.int .i64 0).cells (li.length+ 1 - m)++Builtin.zeroCells (Value.int .i64 0).cells (grownCap w (li.length+ 1) c (ρ.t 3) - (li.length+ 1))) (ρ.t 3))).drew.heap[w.heap.size]? =some (.cells ((xs.take m)++(Builtin.zeroCells (Value.int .i64 0).cells (li.length+ 1 - m)).toList++(Builtin.zeroCells (Value.int .i64 0).cells (grownCap w (li.length+ 1) c (ρ.t 3) - (li.length+ 1))).toList).toArray (ρ.t 3) (0,0)):=by
        refine aom.trans ?_
        congr 2
        apply Array.toList_inj.mp
        simp
       generalize Lw:(xs.take m)++(Builtin.zeroCells (Value.int .i64 0).cells (li.length+ 1 - m)).toList++(Builtin.zeroCells (Value.int .i64 0).cells (grownCap w (li.length+ 1) c (ρ.t 3) - (li.length+ 1))).toList=z0 at ayh Q6
       have aEb:z0.take m=xs.take m:=by
        rw [<-Lw,List.append_assoc,List.take_append_of_le_length (by simp;omega),List.take_of_length_le (by simp;omega)]
       have lI:ba [] w (w.alloc (.cells ((xs.take m).toArray++Builtin.zeroCells (Value.int .i64 0).cells (li.length+ 1 - m)++Builtin.zeroCells (Value.int .i64 0).cells (grownCap w (li.length+ 1) c (ρ.t 3) - (li.length+ 1))) (ρ.t 3))).drew:=(ba.alloc [] w _).trans (ba.drew [] _) (by simp)
       generalize aBx:(w.alloc (.cells ((xs.take m).toArray++Builtin.zeroCells (Value.int .i64 0).cells (li.length+ 1 - m)++Builtin.zeroCells (Value.int .i64 0).cells (grownCap w (li.length+ 1) c (ρ.t 3) - (li.length+ 1))) (ρ.t 3))).drew=a6 at Q6 lI
       have xF:w.heap.size <a6.heap.size:=by rw [<-aBx];simp
       have nr:=Cc w.heap.size [Value.int .i64 x] m a6
       have KI:=ba.drew [] (a6.setCells w.heap.size m [Value.int .i64 x])
       have ab3:=Cc w.heap.size (xs.drop m) (m+ 1) (a6.setCells w.heap.size m [Value.int .i64 x]).drew
       have akc:=((lI.trans nr (fun x ai=>.inr (by simp at ai;omega))).trans KI (by simp)).trans ab3 (fun x ai=>.inr (by simp at ai;omega))
       have aS:=Dh w.heap.size (ρ.t 3) (0,0) [Value.int .i64 x] m a6 z0 Q6 (by simp;omega)
       have bV:=Dh w.heap.size (ρ.t 3) (0,0) (xs.drop m) (m+ 1) (a6.setCells w.heap.size m [Value.int .i64 x]).drew _ aS (by simp;omega)
       refine go (some ⟨w.heap.size,0,none⟩) (grownCap w (li.length+ 1) c (ρ.t 3)) _ (akc.mono (by simp)) ?_ (fun k bf=>.inr ?_)
       · refine ⟨by simp;omega,.inr ⟨w.heap.size,_,_,rfl,Nat.zero_le _,bV,zP,RV,?_,?_⟩⟩
         · simp;omega
         · have:=akH (x:=Value.int .i64 x) nB gz aEb (by omega)
           simpa using this
       · have:w.heap.size=k:=by simpa [Value.ownBlock] using bf
         subst this
         exact ⟨Nat.le_refl _,Nat.lt_of_lt_of_le xF (Nat.le_trans nr.size (Nat.le_trans KI.size ab3.size))⟩
end
end aZ
namespace Go.Proofs.YtpkhpagplommoaaGreat
open Go Go.Shelf
def aEq:Ren:=⟨fun f=>match f with | 21 =>116 | 27 =>141 | 28 =>142 | 35 =>150 | 39 =>151 | f=>f,fun t=>t,fun g=>g⟩
theorem aEp:Lays2.n21 Tryz.prog aEq:={
 mixed:=by kernel_rfl,f21:=by kernel_rfl,f27:=by kernel_rfl,f28:=by kernel_rfl,f35:=by kernel_rfl,f39:=by kernel_rfl
 t0:=by kernel_rfl,a0:=fun w=>by kernel_rfl,z0:=fun w=>by kernel_rfl,v0:=fun w=>by kernel_rfl
 t3:=by kernel_rfl,a3:=fun w=>by kernel_rfl,z3:=fun w=>by kernel_rfl,v3:=fun w=>by kernel_rfl
 t4:=by kernel_rfl,a4:=fun w=>by kernel_rfl,z4:=fun w=>by kernel_rfl,v4:=fun w=>by kernel_rfl
 t22:=by kernel_rfl,a22:=fun w=>by kernel_rfl,z22:=fun w=>by kernel_rfl,v22:=fun w=>by kernel_rfl
 i3:=by kernel_rfl }
end Go.Proofs.YtpkhpagplommoaaGreat
namespace Go.Value
abbrev q {α:Type} (A:Option Addr) (c:Nat) (l:List α):Value:=.slice A l.length c
end Go.Value
namespace aZ
open Go Go.RowKit J
abbrev aP:=Option Addr
abbrev dy:=List Value
abbrev fq:=List Int
theorem wn {ops:Array Oper} {a:Act} {o:Oper} (dd:o.guard=none:=by rfl):Region.wanted o (yielded ops a.tmps)=true:=Dn dd
section
variable {W w:World} {M0 X:List Nat} {E lu:List aq} {D g7:List al} {n:g8} {l l' new b1 jj:List (Nat × Value)} {a:Act}
theorem Fr.cut (I:Fr n l a) (h:B' l (l'.map (·.1))=some l':=by kernel_rfl):Fr n l' a:=I.sub (Qj h)
def Df (D:List al):List Nat->Option (List al)
 | []=>some []
 | i::r=>match nth D i,Df D r with
   | some y,some ys=>some (y::ys)
   | _,_=>none
theorem afE:∀ {is:List Nat} {g7:List al},Df D is=some g7->Mk D g7
 | [],g7,h=>by simp only [Df,Option.some.injEq] at h;subst h;trivial
 | i::r,g7,h=>by
   simp only [Df] at h
   split at h
   · rename_i y ys aC aS
     simp only [Option.some.injEq] at h
     subst h
     exact ⟨⟨i,by rw [<-sA];exact aC⟩,afE aS⟩
   · cases h
theorem ar.eA (h:ar W M0 X w E D) (is:List Nat) (e:Df D is=some g7:=by kernel_rfl):ar W M0 X w E g7:=h.pick (afE e)
theorem ar.aX (h:ar W M0 X w E D) (Wb is:List Nat) (bM:HM Wb=true:=by kernel_rfl) (b7:Dg E Wb=some lu:=by kernel_rfl) (e:Df D is=some g7:=by kernel_rfl):ar W M0 X w lu g7:=(h.kM Wb bM b7).eA is e
theorem ay {α:Type} {a b:α} (h:some a=some b):a=b:=Option.some.inj h
theorem os {α:Type} {a b:α} (h:some a=some b):b=a:=(Option.some.inj h).symm
def oa:List (Nat × Value)->List (Nat × Value)->List (Nat × Value)
 | [],r=>r
 | x::l,r=>x::oa l r
def tI:List (Nat × Value)->Nat->Bool
 | [],_=>false
 | p::r,j=>Nat.beq p.1 j || tI r j
def HQ:List (Nat × Value)->List (Nat × Value)->List (Nat × Value)
 | _,[]=>[]
 | new,p::r=>match tI new p.1 with
   | true=>HQ new r
   | false=>p::HQ (p::new) r
def lA (new b1:List (Nat × Value)):List (Nat × Value):=oa new (HQ new b1)
theorem aeL {t:Nat} {r:List (Nat × Value)}:∀ {l:List (Nat × Value)},fk (oa l r) t=cond (tI l t) (fk l t) (fk r t)
 | []=>by simp [oa,tI]
 | p::l=>by
   simp only [oa,fk,tI]
   cases Nat.beq p.1 t with
   | true=>simp
   | false=>simp only [Bool.false_or];exact aeL
theorem Ww {t:Nat}:∀ {r new:List (Nat × Value)},tI new t=false->fk (HQ new r) t=fk r t
 | [],_,_=>rfl
 | p::r,new,h=>by
   simp only [HQ,fk]
   cases a1:Nat.beq p.1 t with
   | true=>
     have:p.1 =t:=Nat.eq_of_beq_eq_true a1
     rw [this,h]
     simp only [fk,this,Nat.beq_refl]
   | false=>
     cases tI new p.1 with
     | true=>simp only;exact Ww h
     | false=>simp only [fk,a1];exact Ww (by simp only [tI,a1,Bool.false_or];exact h)
theorem Fr.Fs (I:Fr n (lA new b1) a):Fr n (oa new b1) a:=⟨I.size,I.defers,fun t v bO=>I.get t v (by
 unfold lA
 rw [aeL] at bO ⊢
 cases hM:tI new t with
 | true=>rw [hM] at bO;exact bO
 | false=>rw [hM] at bO;rw [Ww hM];exact bO)⟩
def KL (G:mb) (ops:Array Oper) (n:Nat) (M:List (Nat × Nat × List Value)) (is a5:List Nat) (b1:List (Nat × Value)) (dw:List Nat):Option (List (Nat × Value) × List (Nat × Nat)):=
 match At ops.toList is with
 | some os=>j6 G ops n M os a5 b1 dw
 | none=>none
theorem akf {G:mb} {ops:Array Oper} {n:Nat} {M:List (Nat × Nat × List Value)} {is a5:List Nat} {b1:List (Nat × Value)} {dw:List Nat} {r:List (Nat × Value) × List (Nat × Nat)} (h:KL G ops n M is a5 b1 dw=some r):∃ os,At ops.toList is=some os/\j6 G ops n M os a5 b1 dw=some r:=by
 unfold KL at h
 split at h
 · rename_i os aC;exact ⟨os,aC,h⟩
 · cases h
end
end aZ
