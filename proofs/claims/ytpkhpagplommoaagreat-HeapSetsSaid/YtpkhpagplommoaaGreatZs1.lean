/- Part 1 of the proof that is ended in the last text: small logic, what the functions compute, walks, plain laws. -/
import Derived.WalkKit
import Derived.Deep.LoopGhost
import Derived.Deep.Quiet
import Derived.Maps.AppendAt
import Derived.KernelRfl
import Derived.Deep.RegionHeld3
import Derived.Laws.StructEq
import Derived.Carry
import Derived.ChangeSame
import Derived.OpenShut
import Derived.Deep.Slices
import Derived.Deep.Fields
import Derived.ChangeMaps5
import Derived.Lib.LaidTab
import Derived.OrdersHeld
import Derived.MapKept
import Derived.Laws.OwnMore
import Derived.Laws.IdiomStrings
import Derived.RangeFuncRecord
import Derived.RangeFuncSeq
import Derived.RangeFuncIn
import Derived.RangeFuncLeaves
import Derived.OrdersIn
import Derived.TacticsIn
import Derived.Deep.OwnRows
import Derived.Lib.AppendZeros
import Derived.Shelf.Spec.SlicesInsert
import Derived.Shelf.Spec.SlicesInsertGrow
import Derived.Test.YtpkhpagplommoaaGreatProg
namespace J
def av (n:Int):Int:=(n+ 9223372036854775808) % 18446744073709551616 - 9223372036854775808
def n9 (n:Int):Int:=n % 18446744073709551616
def XA (a b:Int):Int:=av ((BitVec.ofInt 64 a ||| BitVec.ofInt 64 b).toNat:Int)
def Qz (a b:Int):Int:=av ((BitVec.ofInt 64 a &&& BitVec.ofInt 64 b).toNat:Int)
def n5 (a:Int) (n:Nat):Int:=a / 2 ^ n
def Fv (n:Int):UInt8:=UInt8.ofNat (n % 256).toNat
def idx {α:Type} (l:List α) (i:Int):Option α:=if 0 <=i then l[i.toNat]? else none
def M5 (b:Bool):Option Unit:=if b then some () else none
def dU {α:Type} (bytes:Nat) (l m:List α):Option (List α):=if (l.length+m.length)*bytes<= 140737488355328 then some (l++m) else none
def bytesOf (s:List UInt8):Option (List UInt8):=if s.length<= 140737488355328 then some s else none
def M3 {α:Type} (z:α) (bytes:Nat) (n:Int):Option (List α):=if 0 <=n/\bytes*n.toNat<= 140737488355328 then some (List.replicate n.toNat z) else none
def Fu {α:Type} (z:α) (bytes:Nat) (n:Int):Option (List α):=if 0 <n/\bytes*n.toNat<= 140737488355328 then some (List.replicate n.toNat z) else none
def Im (l:List Int) (n x:Int):Option (List Int):=if 0 <=n/\n<=l.length/\(l.length+ 1)* 8 <= 140737488355328 then some (l.take n.toNat++x::l.drop n.toNat) else none
def cut {α:Type} (l:List α) (i j:Int):Option (List α):=if 0 <=i/\i<=j/\j<=l.length then some ((l.take j.toNat).drop i.toNat) else none
theorem c5 {α:Type} {b:Bool} {x y:Option α} {r:α} (aY:b=true) (h:cond b x y=some r):x=some r:=by subst aY;exact h
theorem c4 {α:Type} {b:Bool} {x y:Option α} {r:α} (aY:b=false) (h:cond b x y=some r):y=some r:=by subst aY;exact h
theorem aI {α β:Type} {o:Option α} {f:α->Option β} {r:β} (h:o.bind f=some r):∃ x,o=some x/\f x=some r:=by
 cases o with
 | none=>cases h
 | some x=>exact ⟨x,rfl,h⟩
theorem uM {α:Type} {l:List α} {i:Int} {d:α} (h:idx l i=some d):0 <=i/\i.toNat <l.length/\l[i.toNat]? =some d:=by
 unfold idx at h
 split at h
 · rename_i bJ
   exact ⟨bJ,(List.getElem?_eq_some_iff.1 h).1,h⟩
 · cases h
theorem QA {α:Type} {bytes:Nat} {l m r:List α} (h:dU bytes l m=some r):(l.length+m.length)*bytes<= 140737488355328 /\r=l++m:=by
 unfold dU at h
 split at h
 · rename_i bJ;exact ⟨bJ,by simpa using h.symm⟩
 · cases h
theorem aGo {α:Type} {z:α} {bytes:Nat} {n:Int} {r:List α} (h:M3 z bytes n=some r):0 <=n/\bytes*n.toNat<= 140737488355328 /\r=List.replicate n.toNat z:=by
 unfold M3 at h
 split at h
 · rename_i bJ;exact ⟨bJ.1,bJ.2,by simpa using h.symm⟩
 · cases h
theorem aiD {α:Type} {z:α} {bytes:Nat} {n:Int} {r:List α} (h:Fu z bytes n=some r):0 <n/\bytes*n.toNat<= 140737488355328 /\r=List.replicate n.toNat z:=by
 unfold Fu at h
 split at h
 · rename_i bJ;exact ⟨bJ.1,bJ.2,by simpa using h.symm⟩
 · cases h
theorem aFM {l r:List Int} {n x:Int} (h:Im l n x=some r):0 <=n/\n<=l.length/\(l.length+ 1)* 8 <= 140737488355328 /\r=l.take n.toNat++x::l.drop n.toNat:=by
 unfold Im at h
 split at h
 · rename_i bJ;exact ⟨bJ.1,bJ.2.1,bJ.2.2,by simpa using h.symm⟩
 · cases h
theorem aGt {b:Bool} {u:Unit} (h:M5 b=some u):b=true:=by
 unfold M5 at h
 split at h
 · assumption
 · cases h
theorem aiF (n:Int):((Fv n).toNat:Int)=n % 256 :=by
 unfold Fv
 have bJ:0 <=n % 256 :=Int.emod_nonneg _ (by omega)
 have aB:n % 256 < 256 :=Int.emod_lt_of_pos _ (by omega)
 simp only [UInt8.toNat_ofNat']
 omega
end J
namespace J
end J
namespace J
section
variable {κ β:Type} [DecidableEq κ]
def du:List (κ × β)->κ->Option β
 | [],_=>none
 | p::r,k=>if p.1 =k then some p.2 else du r k
def hO:List (κ × β)->κ->β->List (κ × β)
 | [],k,v=>[(k,v)]
 | p::r,k,v=>if p.1 =k then (k,v)::r else p::hO r k v
def kR:List (κ × β)->κ->Option Nat
 | [],_=>none
 | p::r,k=>if p.1 =k then some 0 else (kR r k).map (· + 1)
end
end J
namespace J
inductive Way (ρ α:Type)
 | go (a:α)
 | out (r:ρ)
def dv {ρ α:Type} (x:Option (Way ρ α)) (k:α->Option ρ):Option ρ:=match x with
 | none=>none
 | some (.go a)=>k a
 | some (.out r)=>some r
def eh {ρ α β:Type} (x:Option (Way ρ α)) (k:α->Option (Way ρ β)):Option (Way ρ β):=match x with
 | none=>none
 | some (.go a)=>k a
 | some (.out r)=>some (.out r)
def ec {ρ α:Type} (k:α->Option ρ):Way ρ α->Option ρ
 | .go a=>k a
 | .out r=>some r
def eV {ρ α β:Type} (k:α->Option (Way ρ β)):Way ρ α->Option (Way ρ β)
 | .go a=>k a
 | .out r=>some (.out r)
theorem ei {ρ α:Type} {x:Option (Way ρ α)} {k:α->Option ρ} {r:ρ} (h:dv x k=some r):∃ y,x=some y/\ec k y=some r:=by
 cases x with
 | none=>cases h
 | some y=>cases y <;> exact ⟨_,rfl,h⟩
theorem e3 {ρ α β:Type} {x:Option (Way ρ α)} {k:α->Option (Way ρ β)} {r:Way ρ β} (h:eh x k=some r):∃ y,x=some y/\eV k y=some r:=by
 cases x with
 | none=>cases h
 | some y=>cases y <;> exact ⟨_,rfl,h⟩
@[simp] theorem qw {ρ α:Type} (a:α) (k:α->Option ρ):dv (some (.go a)) k=k a:=rfl
@[simp] theorem agJ {ρ α:Type} (r:ρ) (k:α->Option ρ):dv (some (.out r)) k=some r:=rfl
@[simp] theorem n4 {ρ α β:Type} (a:α) (k:α->Option (Way ρ β)):eh (some (.go a)) k=k a:=rfl
@[simp] theorem aLs {ρ α β:Type} (r:ρ) (k:α->Option (Way ρ β)):eh (some (.out r)) k=some (.out r):=rfl
end J
namespace J
end J
namespace a2
open Go Go.RowKit
def fr:List (Nat × Value)->Nat->Option Value
 | [],_=>none
 | p::r,t=>match Nat.beq p.1 t with
   | true=>some p.2
   | false=>fr r t
structure ha where
 n:Nat
 ds:List Deferred
instance:Coe ha Nat:=⟨ha.n⟩
structure Fr (n:ha) (l:List (Nat × Value)) (a:Act):Prop where
 size:a.tmps.size=n.n
 defers:a.defers=n.ds
 get:∀ t v,fr l t=some v->a.tmps.getD t undef=v
theorem Fr.g {n:ha} {l:List (Nat × Value)} {a:Act} {t:Nat} {v:Value} (I:Fr n l a) (h:fr l t=some v):a.eval (.tmp t)=v:=I.get t v h
theorem Fr.put {n:ha} {d:Nat} {l:List (Nat × Value)} {a:Act} {v:Value} (I:Fr n l a) (bZ:Nat.blt d n=true):Fr n ((d,v)::l) (a.put (some d) v):=by
 have dP:d <n:=Nat.le_of_ble_eq_true bZ
 refine ⟨by simpa [Act.put] using I.size,I.defers,fun t u h=>?_⟩
 have a6:=I.size
 simp only [fr] at h
 cases aY:Nat.beq d t with
 | true=>
   rw [aY] at h
   simp only [Option.some.injEq] at h
   have e:d=t:=Nat.eq_of_beq_eq_true aY
   subst e;subst h
   simp [Act.put,a6,dP]
 | false=>
   rw [aY] at h
   have e:d≠t:=by intro e;subst e;simp at aY
   have:=I.get t u h
   simp only [Act.put,Array.getD_eq_getD_getElem?] at this ⊢
   rw [Array.getElem?_setIfInBounds,if_neg e]
   exact this
def Jf (l:List (Nat × Value)):List (Nat × Value)->Prop
 | []=>True
 | p::r=>fr l p.1 =some p.2 /\Jf l r
theorem aGc {l l':List (Nat × Value)} (h:Jf l l'):∀ t v,fr l' t=some v->fr l t=some v:=by
 induction l' with
 | nil=>intro t v bP;simp [fr] at bP
 | cons p r ct=>
   intro t v bP
   simp only [fr] at bP
   cases aY:Nat.beq p.1 t with
   | true=>
     rw [aY] at bP
     have e:p.1 =t:=Nat.eq_of_beq_eq_true aY
     simp only [Option.some.injEq] at bP
     rw [<-e,<-bP];exact h.1
   | false=>rw [aY] at bP;exact ct h.2 t v bP
theorem Fr.sub {n:ha} {l l':List (Nat × Value)} {a:Act} (I:Fr n l a) (h:Jf l l'):Fr n l' a:=
 ⟨I.size,I.defers,fun t v bP=>I.get t v (aGc h t v bP)⟩
def xI:Nat->List Value->List (Nat × Value)
 | _,[]=>[]
 | k,v::r=>(k,v)::xI (k+ 1) r
theorem aGb (vs:List Value):∀ k t v,fr (xI k vs) t=some v->k<=t/\vs[t - k]? =some v:=by
 induction vs with
 | nil=>intro k t v h;simp [xI,fr] at h
 | cons u r ct=>
   intro k t v h
   simp only [xI,fr] at h
   cases aY:Nat.beq k t with
   | true=>
     rw [aY] at h
     have e:k=t:=Nat.eq_of_beq_eq_true aY
     subst e
     simpa using h
   | false=>
     rw [aY] at h
     have e:k≠t:=by intro e;subst e;simp at aY
     obtain ⟨aB,aR⟩:=ct (k+ 1) t v h
     refine ⟨by omega,?_⟩
     have:t - k=(t - (k+ 1))+ 1 :=by omega
     rw [this];simpa using aR
theorem Fr.init (vs:List Value) (n:Nat) (h:Nat.ble vs.length n=true):Fr ⟨n,[]⟩ (xI 0 vs) { tmps:=vs.toArray++Array.replicate (n - vs.toArray.size) undef,defers:=[] }:=by
 have hle:vs.length<=n:=by simpa using h
 refine ⟨by simp;omega,rfl,fun t v bP=>?_⟩
 obtain ⟨_,aR⟩:=aGb vs 0 t v bP
 have dP:t <vs.length:=by
  rcases Nat.lt_or_ge t vs.length with h | h
  · exact h
  · rw [List.getElem?_eq_none (by simpa using h)] at aR;cases aR
 have bT:vs[t]? =some v:=by simpa using aR
 rw [Array.getD_eq_getD_getElem?]
 rw [List.getElem?_eq_getElem dP,Option.some.injEq] at bT
 simp [Array.getElem?_append,dP,bT]
theorem enter {P:Program} {f:FuncId} {fn:Func} {c:Code} {vs:List Value} {w:World} {R:Ending->World->Prop} {n:Nat}
 (I:P.funcs[f]? =some fn) (aY:fn.body=some c) (af:fn.ntmps=n) (az:Nat.ble vs.length n=true)
 (h:∀ a,Fr ⟨n,[]⟩ (xI 0 vs) a->c.wp P (bodyPost P fn R) a w):Calls P f vs.toArray w R:=by
 refine calls_of_wp I aY ?_
 rw [af]
 exact h _ (Fr.init vs n az)
structure a7 (M:List Nat) (w aF:World):Prop where
 os:aF.os=w.os
 tape:aF.tape=w.tape
 output:aF.output=w.output
 size:w.heap.size<=aF.heap.size
 block:∀ k,k <w.heap.size->k ∉ M->aF.heap[k]? =w.heap[k]?
theorem a7.refl (M:List Nat) (w:World):a7 M w w:=⟨rfl,rfl,rfl,Nat.le_refl _,fun _ _ _=>rfl⟩
theorem a7.trans {M iB:List Nat} {a b c:World} (h:a7 M a b) (k:a7 iB b c) (hm:∀ x ∈ iB,x ∈ M\/a.heap.size<=x):a7 M a c:=
 ⟨k.os.trans h.os,k.tape.trans h.tape,k.output.trans h.output,Nat.le_trans h.size k.size,fun i hi af=>
   (k.block i (Nat.lt_of_lt_of_le hi h.size) (fun aj=>by rcases hm i aj with e | e;exact af e;omega)).trans (h.block i hi af)⟩
theorem a7.drew (M:List Nat) (w:World):a7 M w w.drew:=⟨rfl,rfl,rfl,Nat.le_refl _,fun _ _ _=>rfl⟩
theorem a7.alloc (M:List Nat) (w:World) (o:Obj):a7 M w (w.alloc o):=⟨rfl,rfl,rfl,by simp,fun k bh _=>Below.heap_alloc _ _ _ bh⟩
theorem a7.set (w:World) (a:Addr) (u:Value):a7 [a.block] w (w.setCell a u):=
 ⟨rfl,rfl,rfl,by simp [World.setCell],fun k _ af=>Below.heap_setCell _ _ _ _ (by simpa using af)⟩
theorem a7.mono {M iB:List Nat} {a b:World} (h:a7 M a b) (hm:∀ x ∈ M,x ∈ iB):a7 iB a b:=⟨h.os,h.tape,h.output,h.size,fun k bh af=>h.block k bh (fun aj=>af (hm k aj))⟩
theorem a7.grown {w aF:World} {row:Option Nat} (h:w.grownBy aF row):a7 row.toList w aF:=
 ⟨h.os,h.tape,h.output,h.size,fun k bh af=>h.block k bh (fun e=>af (by rw [<-e];simp))⟩
theorem a7.below {w aF:World} (h:a7 [] w aF):Below w.heap.size w aF:=⟨h.os,h.tape,h.output,h.size,fun k bh=>h.block k bh (by simp)⟩
structure ap where
 fH:List Nat
 ok:World->Prop
 law:∀ w aF,(∀ k ∈ fH,aF.heap[k]? =w.heap[k]?)->ok w->ok aF
structure ak where
 ok:List Nat->World->Prop
 law:∀ M iB w aF,a7 M w aF->(∀ k ∈ iB,k ∈ M\/w.heap.size<=k)->ok M w->ok iB aF
def cQ (E:List ap):List Nat:=E.flatMap ap.fH
structure aw (W:World) (M0 X:List Nat) (w:World) (E:List ap) (D:List ak):Prop where
 ev:a7 M0 W w
 l4:∀ k ∈ X,k <W.heap.size/\k ∉ M0
 lt:∀ k ∈ cQ E,k <w.heap.size/\(k ∈ M0\/W.heap.size<=k)
 ok:∀ x ∈ E,x.ok w
 dW:(cQ E).Nodup
 rd:∀ y ∈ D,y.ok (X++cQ E) w
section
variable {W w aF:World} {M0 X:List Nat} {E:List ap} {D:List ak}
theorem aw.dz (h:aw W M0 X w E D) (ad:a7 [] w aF):aw W M0 X aF E D:=
 ⟨h.ev.trans ad (by simp),h.l4,fun k bh=>⟨Nat.lt_of_lt_of_le (h.lt k bh).1 ad.size,(h.lt k bh).2⟩,
  fun x aj=>x.law w aF (fun k bh=>ad.block k (h.lt k (List.mem_flatMap.2 ⟨x,aj,bh⟩)).1 (by simp)) (h.ok x aj),h.dW,
  fun y hy=>y.law (X++cQ E) _ w aF (ad.mono (by simp)) (fun k bh=>.inl bh) (h.rd y hy)⟩
theorem aw.drew (h:aw W M0 X w E D):aw W M0 X w.drew E D:=h.dz (a7.drew _ _)
theorem aw.push (h:aw W M0 X w E D) (x:ap) (ad:a7 [] w aF) (aj:x.ok aF) (I:∀ k ∈ x.fH,w.heap.size<=k/\k <aF.heap.size) (af:x.fH.Nodup):aw W M0 X aF (x::E) D:=by
 have aB:=h.dz ad
 refine ⟨aB.ev,h.l4,fun k bh=>?_,fun y hy=>?_,?_,fun y hy=>?_⟩
 · rcases List.mem_append.1 (by simpa [cQ] using bh:k ∈ x.fH++cQ E) with e | e
   · exact ⟨(I k e).2,.inr (Nat.le_trans h.ev.size (I k e).1)⟩
   · exact aB.lt k e
 · rcases List.mem_cons.1 hy with rfl | e
   · exact aj
   · exact aB.ok y e
 · have:cQ (x::E)=x.fH++cQ E:=by simp [cQ]
   rw [this,List.nodup_append]
   refine ⟨af,h.dW,fun a bB b aY e=>?_⟩
   subst e
   have:=(I a bB).1
   have:=(h.lt a aY).1
   omega
 · refine y.law (X++cQ E) _ w aF (ad.mono (by simp)) (fun k bh=>?_) (h.rd y hy)
   have ks:k ∈ X++(x.fH++cQ E):=by simpa [cQ] using bh
   simp only [List.mem_append] at ks
   rcases ks with e | e | e
   · exact .inl (by simp [e])
   · exact .inr (I k e).1
   · exact .inl (by simp [e])
theorem aw.drop (h:aw W M0 X w E D) {lL:List ap} (a6:List.Sublist lL E):aw W M0 X w lL D:=by
 have I:List.Sublist (cQ lL) (cQ E):=by
  unfold cQ
  clear h
  induction a6 with
  | slnil=>simp
  | cons a _ ct=>simpa using ct.trans (List.sublist_append_right _ _)
  | cons_cons a _ ct=>simpa using List.Sublist.append_left ct a.fH
 exact ⟨h.ev,h.l4,fun k bh=>h.lt k (I.subset bh),fun x aj=>h.ok x (a6.subset aj),h.dW.sublist I,
  fun y hy=>y.law (X++cQ E) _ w w (a7.refl _ _) (fun k bh=>.inl (by rcases List.mem_append.1 bh with e | e;exact List.mem_append.2 (.inl e);exact List.mem_append.2 (.inr (I.subset e)))) (h.rd y hy)⟩
theorem aw.aIi (h:aw W M0 X w E D) {A B:List ap} {x qA:ap} (gr:E=A++x::B) (ad:a7 x.fH w aF) (aj:qA.ok aF) (af:qA.fH.Nodup)
 (I:∀ k ∈ qA.fH,k ∈ x.fH\/(w.heap.size<=k/\k <aF.heap.size)):aw W M0 X aF (A++qA::B) D:=by
 subst gr
 have bL:cQ (A++x::B)=cQ A++(x.fH++cQ B):=by simp [cQ]
 have b8:cQ (A++qA::B)=cQ A++(qA.fH++cQ B):=by simp [cQ]
 have Am:=h.dW
 rw [bL,List.nodup_append,List.nodup_append] at Am
 obtain ⟨akW,⟨acV,akX,acW⟩,Ri⟩:=Am
 have nO:∀ k ∈ x.fH,k <w.heap.size/\(k ∈ M0\/W.heap.size<=k):=fun k bh=>h.lt k (by rw [bL];simp [bh])
 refine ⟨h.ev.trans ad (fun k bh=>(nO k bh).2),h.l4,fun k bh=>?_,fun y hy=>?_,?_,fun y hy=>?_⟩
 · rw [b8] at bh
   simp only [List.mem_append] at bh
   rcases bh with bh | bh | bh
   · have:=h.lt k (by rw [bL];simp [bh]);exact ⟨Nat.lt_of_lt_of_le this.1 ad.size,this.2⟩
   · rcases I k bh with e | e
     · exact ⟨Nat.lt_of_lt_of_le (nO k e).1 ad.size,(nO k e).2⟩
     · exact ⟨e.2,.inr (Nat.le_trans h.ev.size e.1)⟩
   · have:=h.lt k (by rw [bL];simp [bh]);exact ⟨Nat.lt_of_lt_of_le this.1 ad.size,this.2⟩
 · have afT:∀ z,z ∈ A\/z ∈ B->z.ok aF:=fun z cV=>by
    have aeT:z ∈ A++x::B:=by rcases cV with e | e <;> simp [e]
    refine z.law w aF (fun k bh=>ad.block k (h.lt k (List.mem_flatMap.2 ⟨z,aeT,bh⟩)).1 (fun Mg=>?_)) (h.ok z aeT)
    rcases cV with e | e
    · exact Ri k (List.mem_flatMap.2 ⟨z,e,bh⟩) k (by simp [Mg]) rfl
    · exact acW k Mg k (List.mem_flatMap.2 ⟨z,e,bh⟩) rfl
   simp only [List.mem_append,List.mem_cons] at hy
   rcases hy with hy | rfl | hy
   · exact afT y (.inl hy)
   · exact aj
   · exact afT y (.inr hy)
 · rw [b8,List.nodup_append,List.nodup_append]
   have eN:∀ k ∈ qA.fH,∀ b,(b ∈ cQ A\/b ∈ cQ B)->k≠b:=fun k bh b aY e=>by
    subst e
    rcases I k bh with e | e
    · rcases aY with aY | aY
      · exact Ri k aY k (by simp [e]) rfl
      · exact acW k e k aY rfl
    · have:=(h.lt k (by rw [bL];rcases aY with aY | aY <;> simp [aY])).1
      omega
   exact ⟨akW,⟨af,akX,fun a bB b aY=>eN a bB b (.inr aY)⟩,fun a bB b aY=>by
    rcases List.mem_append.1 aY with aY | aY
    · exact fun e=>eN b aY a (.inl bB) e.symm
    · exact Ri a bB b (by simp [aY])⟩
 · refine y.law (X++cQ (A++x::B)) _ w aF (ad.mono (fun k bh=>by rw [bL];simp [bh])) (fun k bh=>?_) (h.rd y hy)
   rw [b8] at bh
   simp only [List.mem_append] at bh
   rcases bh with bh | bh | bh | bh
   · exact .inl (by simp [bh])
   · exact .inl (by rw [bL];simp [bh])
   · rcases I k bh with e | e
     · exact .inl (by rw [bL];simp [e])
     · exact .inr e.1
   · exact .inl (by rw [bL];simp [bh])
theorem aw.more (h:aw W M0 X w E D) {y:ak} (hy:y.ok (X++cQ E) w):aw W M0 X w E (y::D):=
 ⟨h.ev,h.l4,h.lt,h.ok,h.dW,fun z cV=>by rcases List.mem_cons.1 cV with rfl | e;exact hy;exact h.rd z e⟩
theorem aw.less (h:aw W M0 X w E D) {hj:List ak} (a6:∀ y ∈ hj,y ∈ D):aw W M0 X w E hj:=⟨h.ev,h.l4,h.lt,h.ok,h.dW,fun y hy=>h.rd y (a6 y hy)⟩
theorem aw.e (h:aw W M0 X w E D) (i:Nat) {x:ap} (hi:E[i]? =some x):x.ok w:=h.ok x (List.mem_of_getElem? hi)
theorem aw.d (h:aw W M0 X w E D) (i:Nat) {y:ak} (hi:D[i]? =some y):y.ok (X++cQ E) w:=h.rd y (List.mem_of_getElem? hi)
theorem ak.less {y:ak} {M iB:List Nat} (h:y.ok M w) (hm:∀ k ∈ iB,k ∈ M):y.ok iB w:=y.law M iB w w (a7.refl _ _) (fun k bh=>.inl (hm k bh)) h
theorem aw.vP (h:aw W M0 X w E D) (i:Nat) {x qA:ap} (hi:E[i]? =some x) (ad:a7 x.fH w aF) (aj:qA.ok aF) (af:qA.fH.Nodup)
 (I:∀ k ∈ qA.fH,k ∈ x.fH\/(w.heap.size<=k/\k <aF.heap.size)):aw W M0 X aF (E.set i qA) D:=by
 obtain ⟨az,rfl⟩:=List.getElem?_eq_some_iff.1 hi
 have gr:E=E.take i++E[i]::E.drop (i+ 1):=by simp
 have:=h.aIi gr ad aj af I
 rwa [List.set_eq_take_append_cons_drop,if_pos az]
end
end a2
namespace a2
open Go Go.RowKit J
abbrev ao (l:List UInt8):Value:=.string ⟨⟨l⟩⟩
structure fc (α:Type) where
 size:Nat
 rd:(Nat->Prop)->World->List Value->α->Prop
 len:∀ {F w cs d},rd F w cs d->cs.length=size
 one:∀ {F w cs d},rd F w cs d-> ∀ v ∈ cs,v.oneCell'=true
 law:∀ {F zv w aF cs d},(∀ k,F k->zv k/\aF.heap[k]? =w.heap[k]?)->rd F w cs d->rd zv aF cs d
def hK (M:List Nat) (w:World):Nat->Prop:=fun k=>k ∉ M/\k <w.heap.size
def ak.of {α:Type} (T:fc α) (cs:List Value) (d:α):ak where
 ok M w:=T.rd (hK M w) w cs d
 law M iB w aF ad hm h:=T.law (fun k bh=>⟨⟨fun aj=>by rcases hm k aj with e | e;exact bh.1 e;exact absurd bh.2 (by omega),Nat.lt_of_lt_of_le bh.2 ad.size⟩,ad.block k bh.2 bh.1⟩) h
def ai (k:IntKind):fc Int where
 size:=1
 rd _ _ cs d:=cs= [.int k d]
 len h:=by subst h;rfl
 one h v ad:=by subst h;simp at ad;subst ad;rfl
 law _ h:=h
def N3:fc UInt8 where
 size:=1
 rd _ _ cs d:=cs= [.int .u8 (d.toNat:Int)]
 len h:=by subst h;rfl
 one h v ad:=by subst h;simp at ad;subst ad;rfl
 law _ h:=h
def aIj:fc Bool where
 size:=1
 rd _ _ cs d:=cs= [.bool d]
 len h:=by subst h;rfl
 one h v ad:=by subst h;simp at ad;subst ad;rfl
 law _ h:=h
def bF:fc (List UInt8) where
 size:=1
 rd _ _ cs d:=cs= [ao d]
 len h:=by subst h;rfl
 one h v ad:=by subst h;simp at ad;subst ad;rfl
 law _ h:=h
section
variable {α:Type} (T:fc α)
def fP (F:Nat->Prop) (w:World):List Value->List α->Prop
 | xs,[]=>xs= []
 | xs,d::r=>∃ cs ys,xs=cs++ys/\T.rd F w cs d/\fP F w ys r
theorem A9 {F:Nat->Prop} {w:World}:∀ {l:List α} {xs:List Value},fP T F w xs l->xs.length=l.length*T.size
 | [],xs,h=>by simp only [fP] at h;subst h;simp
 | d::r,xs,h=>by
   obtain ⟨cs,ys,rfl,aB,aR⟩:=h
   rw [List.length_append,T.len aB,A9 aR,List.length_cons,Nat.add_mul];omega
theorem YB {F:Nat->Prop} {w:World}:∀ {l:List α} {xs:List Value},fP T F w xs l-> ∀ v ∈ xs,v.oneCell'=true
 | [],xs,h=>by simp only [fP] at h;subst h;simp
 | d::r,xs,h=>by
   obtain ⟨cs,ys,rfl,aB,aR⟩:=h
   intro v ad
   rcases List.mem_append.1 ad with e | e
   · exact T.one aB v e
   · exact YB aR v e
theorem YA {F zv:Nat->Prop} {w aF:World} (bW:∀ k,F k->zv k/\aF.heap[k]? =w.heap[k]?):∀ {l:List α} {xs:List Value},fP T F w xs l->fP T zv aF xs l
 | [],xs,h=>h
 | d::r,xs,h=>by
   obtain ⟨cs,ys,rfl,aB,aR⟩:=h
   exact ⟨cs,ys,rfl,T.law bW aB,YA bW aR⟩
theorem agt {F:Nat->Prop} {w:World} {d:α} {cs:List Value} (bZ:T.rd F w cs d):∀ {l:List α} {xs:List Value},fP T F w xs l->fP T F w (xs++cs) (l++[d])
 | [],xs,h=>by simp only [fP] at h;subst h;exact ⟨cs,[],by simp,bZ,rfl⟩
 | e::r,xs,h=>by
   obtain ⟨c,ys,rfl,aB,aR⟩:=h
   exact ⟨c,ys++cs,by simp,aB,agt bZ aR⟩
theorem Yx {F:Nat->Prop} {w:World} {l':List α} {ft:List Value} (dN:fP T F w ft l'):∀ {l:List α} {xs:List Value},fP T F w xs l->fP T F w (xs++ft) (l++l')
 | [],xs,h=>by simp only [fP] at h;subst h;simpa using dN
 | e::r,xs,h=>by
   obtain ⟨c,ys,rfl,aB,aR⟩:=h
   exact ⟨c,ys++ft,by simp,aB,Yx dN aR⟩
theorem Yy {F:Nat->Prop} {w:World}:∀ {l:List α} {xs:List Value} {i:Nat} {d:α},fP T F w xs l->l[i]? =some d ->
 ∃ cs,T.rd F w cs d/\ ∀ j u,cs[j]? =some u->xs[i*T.size+j]? =some u
 | [],_,i,d,_,hi=>by simp at hi
 | e::r,xs,0,d,h,hi=>by
   obtain ⟨cs,ys,rfl,aB,_⟩:=h
   simp only [List.getElem?_cons_zero,Option.some.injEq] at hi
   subst hi
   refine ⟨cs,aB,fun j u bb=>?_⟩
   have az:j <cs.length:=by
    rcases Nat.lt_or_ge j cs.length with h | h
    · exact h
    · rw [List.getElem?_eq_none h] at bb;cases bb
   simpa [List.getElem?_append,az] using bb
 | e::r,xs,i+ 1,d,h,hi=>by
   obtain ⟨cs,ys,rfl,aB,aR⟩:=h
   obtain ⟨c,hc,bb⟩:=Yy (i:=i) aR (by simpa using hi)
   refine ⟨c,hc,fun j u UG=>?_⟩
   have hlen:=T.len aB
   have bL:(i+ 1)*T.size+j=cs.length+(i*T.size+j):=by rw [Nat.add_mul];omega
   rw [bL,List.getElem?_append_right (by omega)]
   simpa using bb j u UG
def iW (w:World) (a:Addr) (xs:List Value):Prop:=∀ j u,xs[j]? =some u->w.cell? ⟨a.block,a.off+j,none⟩=some u
theorem iW.law {w aF:World} {a:Addr} {xs:List Value} (h:iW w a xs) (aY:aF.heap[a.block]? =w.heap[a.block]?):iW aF a xs:=
 fun j u bb=>(World.cell?_of_block (a:=⟨a.block,a.off+j,none⟩) aY).trans (h j u bb)
def bG (A:Option Addr):Nat:=(A.getD ⟨0,0,none⟩).block
def bH (A:Option Addr):Nat:=(A.getD ⟨0,0,none⟩).off
def aH:fc (List α) where
 size:=1
 rd F w cs l:=∃ A c,cs= [.slice A l.length c]/\l.length<=c/\c<=maxLen/\(A=none->c= 0) /\
  (l≠ []->A=some ⟨bG A,bH A,none⟩/\F (bG A)/\ ∃ xs,fP T F w xs l/\iW w ⟨bG A,bH A,none⟩ xs)
 len h:=by obtain ⟨A,c,rfl,_⟩:=h;rfl
 one h v ad:=by obtain ⟨A,c,rfl,_⟩:=h;simp at ad;subst ad;rfl
 law bW h:=by
  obtain ⟨A,c,aB,bT,eo,hL,ud⟩:=h
  refine ⟨A,c,aB,bT,eo,hL,fun az=>?_⟩
  obtain ⟨bL,b8,xs,dR,fT⟩:=ud az
  exact ⟨bL,(bW _ b8).1,xs,YA T bW dR,fT.law (bW _ b8).2⟩
theorem b3 {F:Nat->Prop} {w:World} {A:Option Addr} {n c:Nat} {l:List α} {i:Int} {d:α} (h:(aH T).rd F w [.slice A n c] l) (hi:idx l i=some d) :
 A=some ⟨bG A,bH A,none⟩/\(0 <=i/\i <n)/\ ∃ cs,T.rd F w cs d/\iW w ⟨bG A,bH A+i.toNat*T.size,none⟩ cs:=by
 obtain ⟨bJ,aB,aR⟩:=uM hi
 obtain ⟨g',dF,bL,dR,fT,jw,zR⟩:=h
 simp only [List.cons.injEq,Value.slice.injEq,and_true] at bL
 obtain ⟨rfl,rfl,rfl⟩:=bL
 obtain ⟨iH,jL,xs,mD,uc⟩:=zR (fun aAo=>by rw [aAo] at aB;simp at aB)
 obtain ⟨cs,hc,xV⟩:=Yy T mD aR
 refine ⟨iH,⟨bJ,by omega⟩,cs,hc,fun j u bb=>?_⟩
 have:=uc (i.toNat*T.size+j) u (xV j u bb)
 simpa [Nat.add_assoc] using this
end
def ap.bm (g:Nat) (t:TypeId) (cs:List Value):ap where
 fH:=[g]
 ok w:=w.heap[g]? =some (.cells cs.toArray t (0,0))
 law w aF h bh:=(h g (by simp)).trans bh
def ap.row {α:Type} (e:TypeId) (size:Nat) (v:Value) (l:List α) (xs:List Value):ap where
 fH:=v.ownBlock.toList
 ok w:=w.ownsRow 0 e size v l.length xs
 law w aF h bh:=by
  refine ⟨bh.1,?_⟩
  rcases bh.2 with af | ⟨g,cap,cur,rfl,aY,SN,rest⟩
  · exact .inl af
  · exact .inr ⟨g,cap,cur,rfl,aY,(h g (by simp [Value.ownBlock])).trans SN,rest⟩
def ak.rows {α:Type} (T:fc α) (xs:List Value) (l:List α):ak where
 ok M w:=fP T (hK M w) w xs l
 law M iB w aF ad hm h:=YA T (fun k bh=>⟨⟨fun aj=>by rcases hm k aj with e | e;exact bh.1 e;exact absurd bh.2 (by omega),Nat.lt_of_lt_of_le bh.2 ad.size⟩,ad.block k bh.2 bh.1⟩) h
theorem NL {α:Type} {w:World} {e:TypeId} {size:Nat} {v:Value} {l:List α} {xs:List Value} (h:(ap.row e size v l xs).ok w):∃ A c,v= .slice A l.length c/\l.length<=c/\c<=maxLen/\(A=none->c= 0)/\(A≠none->A=some ⟨bG A,0,none⟩):=by
 have dN:w.ownsRow 0 e size v l.length xs:=h
 rcases dN.2 with ⟨rfl,bJ⟩ | ⟨g,cap,cur,rfl,_,_,aB,aR,_⟩
 · exact ⟨none,0,by rw [bJ],by omega,Nat.zero_le _,fun _=>rfl,fun h=>absurd rfl h⟩
 · exact ⟨some ⟨g,0,none⟩,cap,rfl,aB,aR,(fun h=>by cases h),fun _=>rfl⟩
theorem aHx {α:Type} {T:fc α} {M:List Nat} {w:World} {e:TypeId} {A:Option Addr} {n c:Nat} {l:List α} {xs:List Value} (h:(ap.row e T.size (.slice A n c) l xs).ok w) (bQ:(ak.rows T xs l).ok M w)
 (fp:∀ k ∈ (Value.slice A n c).ownBlock.toList,k ∉ M):(ak.of (aH T) [.slice A n c] l).ok M w:=by
 have dN:w.ownsRow 0 e T.size (.slice A n c) l.length xs:=h
 have H7:fP T (hK M w) w xs l:=bQ
 show (aH T).rd (hK M w) w _ l
 rcases dN.2 with ⟨aB,bJ⟩ | ⟨g,cap,cur,aB,_,di,hle,hm,a6,aj⟩
 · have az:l= []:=List.eq_nil_of_length_eq_zero bJ
   simp only [Value.slice.injEq] at aB
   obtain ⟨rfl,rfl,rfl⟩:=aB
   subst az
   exact ⟨none,0,rfl,by simp,Nat.zero_le _,fun _=>rfl,fun h=>absurd rfl h⟩
 · simp only [Value.slice.injEq] at aB
   obtain ⟨rfl,rfl,rfl⟩:=aB
   refine ⟨_,_,rfl,hle,hm,(fun h=>by cases h),fun _=>⟨rfl,⟨fp g (by simp [Value.ownBlock]),(Array.getElem?_eq_some_iff.1 di).1⟩,xs,H7,fun j u bb=>?_⟩⟩
   have lk:=dN.cells (g:=g) rfl j u bb
   simpa [Addr.add,bG,bH] using (by
    have e:(⟨g,0,none⟩:Addr).add j=⟨g,0 +j,none⟩:=by unfold Addr.add;split <;> simp_all
    rw [e] at lk;exact lk:w.cell? ⟨g,0 +j,none⟩=some u)
theorem Ci {w:World} {g:Nat} {t:TypeId} {cs:List Value} (h:(ap.bm g t cs).ok w) {j:Nat} {v:Value} (bb:cs[j]? =some v):w.cell? ⟨g,j,none⟩=some v:=by
 have dN:w.heap[g]? =some (.cells cs.toArray t (0,0)):=h
 simp [World.cell?,dN,bb]
theorem aaS {w:World} {g:Nat} {t:TypeId} {cs:List Value} (h:(ap.bm g t cs).ok w) (j:Nat):w.frozen? ⟨g,j,none⟩=false:=by
 have dN:w.heap[g]? =some (.cells cs.toArray t (0,0)):=h
 simp [World.frozen?,dN]
theorem zG {w:World} {g:Nat} {t:TypeId} {cs:List Value} (h:(ap.bm g t cs).ok w):g <w.heap.size:=by
 have dN:w.heap[g]? =some (.cells cs.toArray t (0,0)):=h
 exact (Array.getElem?_eq_some_iff.1 dN).1
theorem aiH (w:World) (t:TypeId) (cs:List Value):(ap.bm w.heap.size t cs).ok (w.alloc (.cells cs.toArray t)):=heap_alloc_new w _
def ak.cZ (g:Nat) (cs:List Value):ak where
 ok M w:=g ∉ M/\g <w.heap.size/\iW w ⟨g,0,none⟩ cs
 law M iB w aF ad hm h:=⟨fun aj=>by rcases hm g aj with e | e;exact h.1 e;exact absurd h.2.1 (by omega),Nat.lt_of_lt_of_le h.2.1 ad.size,h.2.2.law (ad.block g h.2.1 h.1)⟩
theorem j1 {α:Type} (T:fc α) (M:List Nat) (w:World):(ak.of (aH T) [.slice none 0 0] ([]:List α)).ok M w:=
 ⟨none,0,rfl,by simp,Nat.zero_le _,fun _=>rfl,fun h=>absurd rfl h⟩
def YP (cs:List Value):Nat->List Value->Prop
 | _,[]=>True
 | k,v::r=>cs[k]? =some v/\YP cs (k+ 1) r
theorem agQ {cs:List Value}:∀ {k:Nat} {l:List Value},YP cs k l-> ∀ j u,l[j]? =some u->cs[k+j]? =some u
 | _,[],_,j,u,bb=>by simp at bb
 | k,v::r,h,0,u,bb=>by
   simp only [List.getElem?_cons_zero,Option.some.injEq] at bb
   subst bb;exact h.1
 | k,v::r,h,j+ 1,u,bb=>by
   have:=agQ h.2 j u (by simpa using bb)
   rwa [Nat.add_assoc,Nat.add_comm 1 j] at this
theorem gD {w:World} {g:Nat} {t:TypeId} {cs l:List Value} (h:(ap.bm g t cs).ok w) (k:Nat) (a6:YP cs k l):iW w ⟨g,k,none⟩ l:=fun j u bb=>Ci h (agQ a6 j u bb)
theorem fY {α:Type} {T:fc α} {F:Nat->Prop} {w:World} {cs:List Value} {l:List α} (h:(aH T).rd F w cs l):∃ A c,cs= [.slice A l.length c]:=by
 obtain ⟨A,c,aB,_⟩:=h
 exact ⟨A,c,aB⟩
theorem gk {α:Type} {T:fc α} {M:List Nat} {w:World} {e:TypeId} {A:Option Addr} {n c:Nat} {l:List α} {xs:List Value} {i:Int} {d:α} (h:(ap.row e T.size (.slice A n c) l xs).ok w) (bQ:(ak.rows T xs l).ok M w) (hi:idx l i=some d) :
 A=some ⟨bG A,bH A,none⟩/\(0 <=i/\i <n)/\ ∃ cs,T.rd (hK M w) w cs d/\iW w ⟨bG A,bH A+i.toNat*T.size,none⟩ cs:=by
 obtain ⟨bJ,aB,aR⟩:=uM hi
 have dN:w.ownsRow 0 e T.size (.slice A n c) l.length xs:=h
 have H7:fP T (hK M w) w xs l:=bQ
 rcases dN.2 with ⟨bL,iE⟩ | ⟨g,cap,cur,bL,_,di,_⟩
 · omega
 · simp only [Value.slice.injEq] at bL
   obtain ⟨rfl,rfl,rfl⟩:=bL
   obtain ⟨cs,hc,xV⟩:=Yy T H7 aR
   refine ⟨rfl,⟨bJ,by omega⟩,cs,hc,fun j u bb=>?_⟩
   have lk:=dN.cells (g:=g) rfl _ u (xV j u bb)
   have b8:(⟨g,0,none⟩:Addr).add (i.toNat*T.size+j)=⟨g,0 +(i.toNat*T.size+j),none⟩:=by unfold Addr.add;split <;> simp_all
   rw [b8] at lk
   show w.cell? ⟨g,0 +i.toNat*T.size+j,none⟩=some u
   rw [Nat.add_assoc];exact lk
end a2
namespace a2
open Go Go.RowKit J
theorem afX (p q:List UInt8):(p == q)=decide (p=q):=by
 rw [Bool.eq_iff_iff];simp
section
variable {P:Program} {o:Oper} {a:Act} {w:World}
abbrev cf (P:Program) (o:Oper) (a:Act) (w:World) (v:Value) (aF:World):Prop:=(execOp a.eval o).run P w= .ok (.value v) aF
abbrev xg (P:Program) (o:Oper) (a:Act) (w:World) (aF:World):Prop:=(execOp a.eval o).run P w= .ok .skip aF
theorem aJJ {x:Operand} {v:Value} (br:o.op= .move x) (aj:a.eval x=v):cf P o a w v w:=by
 simp only [cf,execOp,br,aj];rfl
theorem aJl {x:Operand} {v:Value} (br:o.op= .assign x) (aj:a.eval x=v):cf P o a w v w:=by
 simp only [cf,execOp,br,aj];rfl
theorem ahW {c x y:Operand} {v:Value} (br:o.op= .pick c x y) (hc:a.eval c= .bool true) (aj:a.eval x=v):cf P o a w v w:=by
 simp only [cf,execOp,br,hc,aj];rfl
theorem ahV {c x y:Operand} {v:Value} (br:o.op= .pick c x y) (hc:a.eval c= .bool false) (hy:a.eval y=v):cf P o a w v w:=by
 simp only [cf,execOp,br,hc,hy];rfl
section
variable {x y:Operand} {t ep:TypeId} {k:IntKind} {m n:Int}
theorem aJh (br:o.op= .binOp .add t x y ep) (aj:a.eval x= .int k m) (hy:a.eval y= .int k n):cf P o a w (.int k (k.wrap (m+n))) w:=by
 simp only [cf,execOp,br,aj,hy]
 simp [go_sem]
theorem aJW (br:o.op= .binOp .sub t x y ep) (aj:a.eval x= .int k m) (hy:a.eval y= .int k n):cf P o a w (.int k (k.wrap (m - n))) w:=by
 simp only [cf,execOp,br,aj,hy]
 simp [go_sem]
theorem aJK (br:o.op= .binOp .mul t x y ep) (aj:a.eval x= .int k m) (hy:a.eval y= .int k n):cf P o a w (.int k (k.wrap (m*n))) w:=by
 simp only [cf,execOp,br,aj,hy]
 simp [go_sem]
theorem aJS (br:o.op= .binOp .quo t x y ep) (aj:a.eval x= .int k m) (hy:a.eval y= .int k n) (bJ:n≠ 0):cf P o a w (.int k (k.wrap (m.tdiv n))) w:=by
 simp only [cf,execOp,br,aj,hy]
 simp [go_sem,bJ]
theorem aJG (br:o.op= .binOp .lss t x y ep) (aj:a.eval x= .int k m) (hy:a.eval y= .int k n):cf P o a w (.bool (decide (m <n))) w:=by
 simp only [cf,execOp,br,aj,hy]
 simp [go_sem]
theorem aJD (br:o.op= .binOp .leq t x y ep) (aj:a.eval x= .int k m) (hy:a.eval y= .int k n):cf P o a w (.bool (decide (m<=n))) w:=by
 simp only [cf,execOp,br,aj,hy]
 simp [go_sem]
theorem aJy (br:o.op= .binOp .gtr t x y ep) (aj:a.eval x= .int k m) (hy:a.eval y= .int k n):cf P o a w (.bool (decide (n <m))) w:=by
 simp only [cf,execOp,br,aj,hy]
 simp [go_sem]
theorem aJx (br:o.op= .binOp .geq t x y ep) (aj:a.eval x= .int k m) (hy:a.eval y= .int k n):cf P o a w (.bool (decide (n<=m))) w:=by
 simp only [cf,execOp,br,aj,hy]
 simp [go_sem]
theorem aJt (bP:P.underlying t=some (.int k)) (br:o.op= .binOp .eql t x y ep) (aj:a.eval x= .int k m) (hy:a.eval y= .int k n):cf P o a w (.bool (decide (m=n))) w:=by
 have:=run_underlying (P:=P) bP
 simp only [cf,execOp,br,aj,hy]
 simp [go_sem,this]
 rfl
theorem aJN (bP:P.underlying t=some (.int k)) (br:o.op= .binOp .neq t x y ep) (aj:a.eval x= .int k m) (hy:a.eval y= .int k n):cf P o a w (.bool (!decide (m=n))) w:=by
 have:=run_underlying (P:=P) bP
 simp only [cf,execOp,br,aj,hy]
 simp [go_sem,this]
 rfl
end
section
variable {x y:Operand} {t ep:TypeId} {p q:Bool}
theorem aHI (bP:P.underlying t=some .bool) (p q:Bool) (w:World):(binOp .eql t (.bool p) (.bool q)).run P w= .ok (.bool (p == q)) w:=by
 have h:∀ d:Nat,(Op.equalIn (d+ 1) t (.bool p) (.bool q)).run P w= .ok (p == q) w:=fun d=>by
  simp [Op.equalIn,run_underlying bP]
 simp only [binOp]
 simp [Op.equal,Op.maxDepth,h 9999]
theorem aHJ (bP:P.underlying t=some .bool) (p q:Bool) (w:World):(binOp .neq t (.bool p) (.bool q)).run P w= .ok (.bool (!(p == q))) w:=by
 have h:∀ d:Nat,(Op.equalIn (d+ 1) t (.bool p) (.bool q)).run P w= .ok (p == q) w:=fun d=>by
  simp [Op.equalIn,run_underlying bP]
 simp only [binOp]
 simp [Op.equal,Op.maxDepth,h 9999]
theorem aJr (bP:P.underlying t=some .bool) (br:o.op= .binOp .eql t x y ep) (aj:a.eval x= .bool p) (hy:a.eval y= .bool q):cf P o a w (.bool (p == q)) w:=by
 simp only [cf,execOp,br,aj,hy]
 simp [go_sem,aHI bP]
theorem aJM (bP:P.underlying t=some .bool) (br:o.op= .binOp .neq t x y ep) (aj:a.eval x= .bool p) (hy:a.eval y= .bool q):cf P o a w (.bool (!(p == q))) w:=by
 simp only [cf,execOp,br,aj,hy]
 simp [go_sem,aHJ bP]
theorem aJQ (br:o.op= .unOp .not t x) (aj:a.eval x= .bool p):cf P o a w (.bool (!p)) w:=by
 simp only [cf,execOp,br,aj]
 simp [go_sem]
end
section
variable {x y:Operand} {t ep:TypeId} {p q:List UInt8}
theorem aJu (bP:P.underlying t=some .string) (br:o.op= .binOp .eql t x y ep) (aj:a.eval x=ao p) (hy:a.eval y=ao q):cf P o a w (.bool (decide (p=q))) w:=by
 have:=run_underlying (P:=P) bP
 simp only [cf,execOp,br,aj,hy]
 simp [go_sem,this]
 exact afX p q
theorem aJO (bP:P.underlying t=some .string) (br:o.op= .binOp .neq t x y ep) (aj:a.eval x=ao p) (hy:a.eval y=ao q):cf P o a w (.bool (!decide (p=q))) w:=by
 have:=run_underlying (P:=P) bP
 simp only [cf,execOp,br,aj,hy]
 simp [go_sem,this]
 exact afX p q
theorem aJC {k9:TypeId} (bP:P.underlying k9=some .string) (br:o.op= .call { callee:=.builtin .len,args:=#[x],argTypes:=#[k9] }) (aj:a.eval x=ao p):cf P o a w (.int .i64 p.length) w:=by
 simp only [cf,execOp,br,resolve,invoke,List.map_toArray,List.map_cons,List.map_nil,aj]
 simp [go_sem,Builtin.len_,run_underlying bP,goInt]
theorem aJB {k9:TypeId} {A:Option Addr} {n c:Nat} {e:TypeId} (bP:P.underlying k9=some (.slice e)) (br:o.op= .call { callee:=.builtin .len,args:=#[x],argTypes:=#[k9] }) (aj:a.eval x= .slice A n c):cf P o a w (.int .i64 n) w:=by
 simp only [cf,execOp,br,resolve,invoke,List.map_toArray,List.map_cons,List.map_nil,aj]
 simp [go_sem,Builtin.len_,run_underlying bP,goInt]
theorem aJz {i:Nat} {b:UInt8} (bP:P.underlying t=some .string) (br:o.op= .index t x y) (aj:a.eval x=ao p) (hy:a.eval y= .int .i64 i) (aY:p[i]? =some b):cf P o a w (.int .u8 b.toNat) w:=by
 simp only [cf,execOp,br,aj,hy]
 obtain ⟨aB,aR⟩:=List.getElem?_eq_some_iff.1 aY
 have e:(⟨⟨p⟩⟩:ByteArray)[i]? =some b:=by
  show (if h:i <_ then some _ else none)=_
  rw [dif_pos (show i <(⟨⟨p⟩⟩:ByteArray).size from aB)]
  exact congrArg some aR
 simp [go_sem,Instr.index,run_underlying bP,e]
theorem PY {k k':IntKind} {n:Int} (bP:P.underlying t=some (.int k)) (oW:P.underlying ep=some (.int k')) (br:o.op= .convert t ep x) (aj:a.eval x= .int k n):cf P o a w (.int k' (k'.wrap n)) w:=by
 simp only [cf,execOp,br,aj]
 simp [go_sem,convert,run_underlying bP,run_underlying oW]
end
end
theorem y9 (n:Int):IntKind.i64.wrap n=av n:=by rw [IntKind.wrap_i64];rfl
theorem aIn (n:Int):IntKind.u8.wrap n=((Fv n).toNat:Int):=by rw [aiF,IntKind.wrap_u8]
section
variable {P:Program} {o:Oper} {a:Act} {w:World} {x y:Operand} {t ep:TypeId} {m n:Int}
theorem aJi (br:o.op= .binOp .add t x y ep) (aj:a.eval x= .int .i64 m) (hy:a.eval y= .int .i64 n):cf P o a w (.int .i64 (av (m+n))) w:=by rw [<-y9];exact aJh br aj hy
theorem aJX (br:o.op= .binOp .sub t x y ep) (aj:a.eval x= .int .i64 m) (hy:a.eval y= .int .i64 n):cf P o a w (.int .i64 (av (m - n))) w:=by rw [<-y9];exact aJW br aj hy
theorem aJL (br:o.op= .binOp .mul t x y ep) (aj:a.eval x= .int .i64 m) (hy:a.eval y= .int .i64 n):cf P o a w (.int .i64 (av (m*n))) w:=by rw [<-y9];exact aJK br aj hy
theorem aJU (br:o.op= .binOp .rem t x y ep) (aj:a.eval x= .int .i64 m) (hy:a.eval y= .int .i64 n) (bJ:(!decide (n= 0))=true):cf P o a w (.int .i64 (m.tmod n)) w:=by
 have bJ:n≠ 0 :=by simpa using bJ
 simp only [cf,execOp,br,aj,hy]
 simp [go_sem,bJ]
theorem aJT (br:o.op= .binOp .quo t x y ep) (aj:a.eval x= .int .i64 m) (hy:a.eval y= .int .i64 n) (bJ:(!decide (n= 0))=true):cf P o a w (.int .i64 (av (m.tdiv n))) w:=by rw [<-y9];exact aJS br aj hy (by simpa using bJ)
theorem aJn (bP:P.underlying t=some (.int .i64)) (oW:P.underlying ep=some (.int .i64)) (br:o.op= .convert t ep x) (aj:a.eval x= .int .i64 m):cf P o a w (.int .i64 (av m)) w:=by
 have h:=PY (P:=P) (w:=w) bP oW br aj
 rwa [y9] at h
theorem aJp (bP:P.underlying t=some (.int .i64)) (oW:P.underlying ep=some (.int .u8)) (br:o.op= .convert t ep x) (aj:a.eval x= .int .i64 m):cf P o a w (.int .u8 ((Fv m).toNat:Int)) w:=by
 have h:=PY (P:=P) (w:=w) bP oW br aj
 rwa [aIn] at h
theorem c0 (a:Act) (v:Value):a.eval (.const v)=v:=rfl
theorem acZ (a:Act) (g:Nat):a.eval (.global g)= .pointer (some ⟨g,0,none⟩):=rfl
theorem aJv {vs:List Value} {i:Nat} {v:Value} (br:o.op= .extract x i) (aj:a.eval x= .tuple vs.toArray) (ad:vs[i]? =some v):cf P o a w v w:=by
 simp only [cf,execOp,br,aj]
 simp [go_sem,Instr.extract,ad]
theorem aJP {p:Addr} (br:o.op= .nilCheck x) (aj:a.eval x= .pointer (some p)):cf P o a w (.pointer (some p)) w:=by
 simp only [cf,execOp,br,aj]
 rfl
end
end a2
namespace a2
open Go Go.RowKit J
theorem ov (b o n:Nat):(⟨b,o,none⟩:Addr).add n=⟨b,o+n,none⟩:=by
 unfold Addr.add;split <;> simp_all
section
variable {P:Program} {o:Oper} {a:Act} {w:World} {x y:Operand} {t e s:TypeId}
theorem aJA {i:Int} {b:UInt8} {p:List UInt8} (bP:P.underlying t=some .string) (br:o.op= .index t x y) (aj:a.eval x=ao p) (hy:a.eval y= .int .i64 i) (aY:idx p i=some b):cf P o a w (.int .u8 b.toNat) w:=by
 obtain ⟨bJ,aB,aR⟩:=uM aY
 obtain ⟨n,rfl⟩:=Int.eq_ofNat_of_zero_le bJ
 exact aJz bP br aj hy (by simpa using aR)
theorem bI {A:Option Addr} {n c sz:Nat} {i:Int} (bP:P.underlying t=some (.slice e)) (a6:∀ w,(Go.sizeOf e).run P w= .ok sz w)
 (br:o.op= .indexAddr t x y) (aj:a.eval x= .slice A n c) (hy:a.eval y= .int .i64 i) (gf:A=some ⟨bG A,bH A,none⟩) (hi:0 <=i/\i <n) :
 cf P o a w (.pointer (some ⟨bG A,bH A+i.toNat*sz,none⟩)) w:=by
 obtain ⟨bJ,aB⟩:=hi
 obtain ⟨k,rfl⟩:=Int.eq_ofNat_of_zero_le bJ
 have dP:k <n:=by omega
 rw [gf] at aj
 simp only [cf,execOp,br,aj,hy]
 simp [go_sem,Instr.indexAt,run_underlying bP,dP,a6,ov]
theorem aJw {gP:Array Field} {f:Field} {j b p sz:Nat} (bP:P.underlying s=some (.struct gP)) (I:gP[j]? =some f) (a6:∀ w,(Go.sizeOf f.type).run P w= .ok sz w) (bJ:Nat.beq sz 0 =false)
 (br:o.op= .fieldAddr s x j) (aj:a.eval x= .pointer (some ⟨b,p,none⟩)):cf P o a w (.pointer (some ⟨b,p+f.offset,none⟩)) w:=by
 have alQ:sz≠ 0 :=by intro e;subst e;simp at bJ
 simp only [cf,execOp,br,aj]
 simp [go_sem,Instr.fieldAt,run_underlying bP,I,fieldPlace,a6,alQ,ov]
theorem aJE {b p:Nat} {v:Value} (di:∀ w,(isAgg t).run P w= .ok false w) (br:o.op= .load t x) (aj:a.eval x= .pointer (some ⟨b,p,none⟩)) (hc:w.cell? ⟨b,p,none⟩=some v):cf P o a w v w:=by
 simp only [cf,execOp,br,aj]
 simp [go_sem,Instr.loadAt,loadVar,di,hc]
theorem aJF {b p sz:Nat} {cs:List Value} (di:∀ w,(isAgg t).run P w= .ok true w) (a6:∀ w,(Go.sizeOf t).run P w= .ok sz w) (az:cs.length=sz) (br:o.op= .load t x)
 (aj:a.eval x= .pointer (some ⟨b,p,none⟩)) (hc:iW w ⟨b,p,none⟩ cs):cf P o a w (.agg cs.toArray) w:=by
 have h:=run_loadCells_list (P:=P) w ⟨b,p,none⟩ cs (fun j u bb=>by rw [ov];exact hc j u bb)
 rw [az] at h
 unfold loadCells at h
 simp only [cf,execOp,br,aj]
 simp [go_sem,Instr.loadAt,loadVar,di,a6,h]
theorem ef {v:Value} {cs:List Value} (ad:v.cells=cs.toArray) (br:o.op= .box t x) (aj:a.eval x=v):cf P o a w (.pointer (some ⟨w.heap.size,0,none⟩)) (w.alloc (.cells cs.toArray t)):=by
 have rr:=ad
 unfold Value.cells at rr
 simp only [cf,execOp,br,aj]
 simp [go_sem,Instr.box,newVar,newRow,rr]
theorem eL {z:Value} {cs:List Value} (cV:∀ w,(zeroValue t).run P w= .ok z w) (ad:z.cells=cs.toArray) (br:o.op= .alloc t):cf P o a w (.pointer (some ⟨w.heap.size,0,none⟩)) (w.alloc (.cells cs.toArray t)):=by
 have rr:=ad
 unfold Value.cells at rr
 simp only [cf,execOp,br]
 simp [go_sem,Instr.alloc,newVar,newRow,cV,rr]
end
def lay:List Value->Nat->List Value->List Value
 | l,0,cs=>cs++l.drop cs.length
 | [],_+ 1,_=>[]
 | u::l,n+ 1,cs=>u::lay l n cs
theorem Xm:∀ (l:List Value) (n:Nat) (cs:List Value),n+cs.length<=l.length->lay l n cs=l.take n++cs++l.drop (n+cs.length)
 | l,0,cs,_=>by simp [lay]
 | [],n+ 1,cs,h=>by simp at h
 | u::l,n+ 1,cs,h=>by
   have:=Xm l n cs (by simp at h;omega)
   simp only [lay,this,List.take_succ_cons,List.cons_append]
   have e:n+ 1 +cs.length=(n+cs.length)+ 1 :=by omega
   rw [e,List.drop_succ_cons]
section
variable {P:Program} {o:Oper} {a:Act} {w:World} {x y:Operand} {t e s:TypeId}
theorem ahX {g p sz:Nat} {pj:TypeId} {cs vs:List Value} {v:Value} (ad:v.cells=vs.toArray) (a6:∀ w,(Go.sizeOf t).run P w= .ok sz w) (az:Nat.beq vs.length sz=true) (aB:vs.all (·.oneCell')=true)
 (hle:Nat.ble (p+vs.length) cs.length=true) (aY:(ap.bm g pj cs).ok w) (br:o.op= .store t x y) (aj:a.eval x= .pointer (some ⟨g,p,none⟩)) (hy:a.eval y=v) :
 ∃ aF,xg P o a w aF/\a7 [g] w aF/\(ap.bm g pj (lay cs p vs)).ok aF:=by
 have iK:w.heap[g]? =some (.cells cs.toArray pj (0,0)):=aY
 have hlen:vs.length=sz:=Nat.eq_of_beq_eq_true az
 have Mi:p+vs.length<=cs.length:=Nat.le_of_ble_eq_true hle
 have h:=run_storeCells_at P g p pj vs 0 cs.toArray w iK (by simpa using Mi) (fun u hu=>List.all_eq_true.1 aB u hu)
 simp only [Nat.add_zero] at h
 refine ⟨w.setRow g (lay cs p vs).toArray,?_,?_,?_⟩
 · simp only [xg,execOp,br,aj,hy]
   rw [Xm _ _ _ Mi]
   simp only [List.append_assoc,hlen] at h
   have rr:=ad
   unfold Value.cells at rr
   simp [go_sem,Instr.storeAt,storeVar,a6,rr,hlen,h]
 · refine ⟨rfl,rfl,rfl,by simp [World.setRow],fun k _ af=>?_⟩
   simp only [World.setRow,Array.getElem?_modify]
   rw [if_neg (by simpa [eq_comm] using af)]
 · show (w.setRow g _).heap[g]? =_
   simp [World.setRow,Array.getElem?_modify,iK]
end
section
variable {P:Program} {o:Oper} {a:Act} {w:World} {x y:Operand} {t e:TypeId}
def LD (a:Act):List (Nat × Operand)->List (Nat × Value)->Prop
 | [],[]=>True
 | (i,x)::xs,(j,v)::vs=>(a.eval x=v/\i=j)/\LD a xs vs
 | _,_=>False
theorem Ro:∀ {xs:List (Nat × Operand)} {vs:List (Nat × Value)},LD a xs vs->xs.map (fun p=>(p.1,a.eval p.2))=vs
 | [],[],_=>rfl
 | (i,x)::xs,(j,v)::vs,h=>by
   obtain ⟨⟨aB,rfl⟩,aR⟩:=h
   rw [List.map_cons,Ro aR,aB]
def placesOf (P:Program) (t:TypeId):Sem (Array (Nat × Nat)):=(match P.underlying t with | some (.struct gP)=>gP | _=>#[]).mapM fun (f:Field)=>do pure (f.offset,<-Go.sizeOf f.type)
theorem gm {z:Value} {gP:Array Field} {pl:Array (Nat × Nat)} {xs:List (Nat × Operand)} {vs:List (Nat × Value)} {cs:List Value} (cV:∀ w,(zeroValue t).run P w= .ok z w) (hu:P.underlying t=some (.struct gP))
 (b0:∀ w,(placesOf P t).run P w= .ok pl w) (br:o.op= .build t xs.toArray) (aj:LD a xs vs) (SB:Instr.fill (fun i=>pl[i]?) z.cells vs=some cs.toArray):cf P o a w (.agg cs.toArray) w:=by
 have x7:=b0 w
 simp only [placesOf,hu] at x7
 have aB:=Ro aj
 simp only [cf,execOp,br,Instr.build,Sem.run_bind,cV,Result.andThen_ok,run_underlying hu,x7,List.map_toArray]
 have e:(xs.map fun (i,x)=>(i,a.eval x))=vs:=aB
 simp only [e,SB]
 rfl
theorem fU {z:Value} {sz n:Nat} {xs:List (Nat × Operand)} {vs:List (Nat × Value)} {cs:List Value} (hu:P.underlying t=some (.slice e)) (a6:∀ w,(Go.sizeOf e).run P w= .ok sz w) (cV:∀ w,(zeroValue e).run P w= .ok z w)
 (hle:Nat.ble (n*sz) 16777216 =true) (eN:Nat.beq (n*sz) 0 =false) (br:o.op= .buildSlice t n xs.toArray) (aj:LD a xs vs)
 (SB:Instr.fill (fun i=>some (i*sz,sz)) ((Array.range (n*sz)).map (z.cells[· % z.cells.size]!)) vs=some cs.toArray) :
 cf P o a w (.slice (some ⟨w.heap.size,0,none⟩) n n) (w.alloc (.cells cs.toArray e)):=by
 have aB:=Ro aj
 have bL:(xs.map fun (i,x)=>(i,a.eval x))=vs:=aB
 have aR: ¬ (n*sz > 2 ^ 24):=by have:=Nat.le_of_ble_eq_true hle;omega
 have bT:n*sz≠ 0 :=by intro bJ;rw [bJ] at eN;simp at eN
 simp only [cf,execOp,br,Instr.buildSlice,Sem.run_bind,Sem.run_pure,a6,cV,Result.andThen_ok,run_underlying hu,List.map_toArray,bL,if_neg aR,if_neg bT,SB]
 rfl
theorem aJR {ep:TypeId} {m n:Int} (br:o.op= .binOp .or t x y ep) (aj:a.eval x= .int .i64 m) (hy:a.eval y= .int .i64 n):cf P o a w (.int .i64 (XA m n)) w:=by
 unfold XA
 rw [<-y9]
 simp only [cf,execOp,br,aj,hy]
 rfl
theorem aJj {ep:TypeId} {m n:Int} (br:o.op= .binOp .and t x y ep) (aj:a.eval x= .int .i64 m) (hy:a.eval y= .int .i64 n):cf P o a w (.int .i64 (Qz m n)) w:=by
 unfold Qz
 rw [<-y9]
 simp only [cf,execOp,br,aj,hy]
 rfl
end
end a2
namespace a2
open Go Go.RowKit J
section
variable {P:Program} {ops:Array Oper} {Q:Exit->Act->World->Prop} {a:Act} {w aF:World} {rest:List Oper} {o:Oper} {n:ha} {d:Nat} {l:List (Nat × Value)} {v:Value}
theorem D_ (di:o.guard=none):Region.wanted o (yielded ops a.tmps)=true:=by simp [Region.wanted,di]
theorem bU (hw:Region.wanted o (yielded ops a.tmps)=true) (hy:cf P o a w v aF) (I:Fr n l a) (bZ:o.dst=some d) (af:Nat.blt d n=true) (k:∀ bM,Fr n ((d,v)::l) bM->wpList P ops Q rest bM aF):wpList P ops Q (o::rest) a w:=by
 refine wpList_step fun K hz=>?_
 rw [if_pos hw]
 unfold Oper.wp
 rw [show (execOp a.eval o).run P w=_ from hy]
 show K (a.put o.dst v) aF
 rw [bZ]
 exact hz _ _ (k _ (I.put af))
theorem N0 (hw:Region.wanted o (yielded ops a.tmps)=true) (hy:xg P o a w aF) (bZ:o.dst=none) (k:wpList P ops Q rest a aF):wpList P ops Q (o::rest) a w:=by
 refine wpList_step fun K hz=>?_
 rw [if_pos hw]
 unfold Oper.wp
 rw [show (execOp a.eval o).run P w=_ from hy]
 show K (a.put o.dst undef) aF
 rw [bZ]
 exact hz _ _ k
theorem cS {j dW:Nat} {b:Bool} (I:Fr n l a) (di:o.guard=some (j,b)) (bb:(ops[j]?).bind (·.dst)=some dW) (az:fr l dW=some (.bool b)) (af:Nat.blt dW n=true):Region.wanted o (yielded ops a.tmps)=true:=by
 have dP:dW <n:=Nat.le_of_ble_eq_true af
 have h:=I.get dW _ az
 have a6:=I.size
 have aR:a.tmps[dW]? =some (.bool b):=by
  rw [Array.getElem?_eq_getElem (by omega)]
  simpa [Array.getD_eq_getD_getElem?,a6,dP] using h
 simp [Region.wanted,di,yielded,bb,aR]
theorem aIs {j dW:Nat} {b tK:Bool} (I:Fr n l a) (di:o.guard=some (j,b)) (bb:(ops[j]?).bind (·.dst)=some dW) (az:fr l dW=some (.bool tK)) (eN:(tK == b)=false) (af:Nat.blt dW n=true):Region.wanted o (yielded ops a.tmps)=false:=by
 have dP:dW <n:=Nat.le_of_ble_eq_true af
 have h:=I.get dW _ az
 have a6:=I.size
 have aR:a.tmps[dW]? =some (.bool tK):=by
  rw [Array.getElem?_eq_getElem (by omega)]
  simpa [Array.getD_eq_getD_getElem?,a6,dP] using h
 simpa [Region.wanted,di,yielded,bb,aR] using eN
theorem aIt {j dW:Nat} {b:Bool} (I:Fr n l a) (di:o.guard=some (j,b)) (bb:(ops[j]?).bind (·.dst)=some dW) (az:fr l dW=some undef) (af:Nat.blt dW n=true):Region.wanted o (yielded ops a.tmps)=false:=by
 have dP:dW <n:=Nat.le_of_ble_eq_true af
 have h:=I.get dW _ az
 have a6:=I.size
 have aR:a.tmps[dW]? =some undef:=by
  rw [Array.getElem?_eq_getElem (by omega)]
  simpa [Array.getD_eq_getD_getElem?,a6,dP] using h
 simp [Region.wanted,di,yielded,bb,aR,undef]
def xN (a:Act):List Operand->List Value->Prop
 | [],[]=>True
 | x::xs,v::vs=>a.eval x=v/\xN a xs vs
 | _,_=>False
theorem LG:∀ {xs:List Operand} {vs:List Value},xN a xs vs->xs.map a.eval=vs
 | [],[],_=>rfl
 | x::xs,v::vs,h=>by rw [List.map_cons,h.1,LG h.2]
theorem aIx {f:FuncId} {xs:List Operand} {k9:Array TypeId} {vs:List Value} {R:Ending->World->Prop} {K:Act->World->Prop}
 (br:o.op= .call { callee:=.value (.func f),args:=xs.toArray,argTypes:=k9 }) (Aj:∀ args w,(callFunc f args).run P w= .ok (.enter f args) w)
 (hE:xN a xs vs) (hc:Calls P f vs.toArray w R) (k:∀ e aF,R e aF-> ∃ v,e= .returned v/\K (a.put o.dst v) aF):o.wp P a w K Q:=by
 unfold Oper.wp
 have e:(execOp a.eval o).run P w= .ok (.enter f vs.toArray) w:=by
  have aB:=LG hE
  simp only [execOp,br,resolve,List.map_toArray,aB]
  simp [go_sem,Act.eval,Deferred.ofValue,invoke,Aj]
 rw [e]
 exact hc.mono fun e aF bQ=>by
  obtain ⟨v,rfl,bh⟩:=k e aF bQ
  exact bh
theorem bR {f:FuncId} {xs:List Operand} {k9:Array TypeId} {vs:List Value} {R:Ending->World->Prop} (hw:Region.wanted o (yielded ops a.tmps)=true)
 (br:o.op= .call { callee:=.value (.func f),args:=xs.toArray,argTypes:=k9 }) (Aj:∀ args w,(callFunc f args).run P w= .ok (.enter f args) w)
 (hE:xN a xs vs) (hc:Calls P f vs.toArray w R) (I:Fr n l a) (bZ:o.dst=some d) (af:Nat.blt d n=true)
 (k:∀ e aF,R e aF-> ∃ v,e= .returned v/\ ∀ bM,Fr n ((d,v)::l) bM->wpList P ops Q rest bM aF):wpList P ops Q (o::rest) a w:=by
 refine wpList_step fun K hz=>?_
 rw [if_pos hw]
 refine aIx br Aj hE hc fun e aF bQ=>?_
 obtain ⟨v,he,bh⟩:=k e aF bQ
 rw [bZ]
 exact ⟨v,he,hz _ _ (bh _ (I.put af))⟩
end
section
variable {P:Program} {Q:Exit->Act->World->Prop} {a:Act} {w:World}
theorem cB {c:Code} (ol:Nat->Act->World->Prop) (k:Nat) (h:ol k a w) (bJ:∀ a w,¬ ol 0 a w)
 (round:∀ k a w,ol (k+ 1) a w-> ∀ K:Act->World->Prop,(∀ a w,ol k a w->K a w)->c.wp P (Exit.then K Q) a w):(Code.loop c).wp P Q a w:=
 wp_loop_ghost ol k h fun m a w CU=>by
  cases m with
  | zero=>exact absurd CU (bJ a w)
  | succ m=>exact round m a w CU _ fun bM aF dN=>⟨m,Nat.lt_succ_self m,dN⟩
theorem q6 {x y:Code} (lM:Act->World->Prop) (aj:∀ K:Act->World->Prop,(∀ a w,lM a w->K a w)->x.wp P (Exit.then K Q) a w) (hy:∀ a w,lM a w->y.wp P Q a w):(Code.seq x y).wp P Q a w:=
 wp_seq (aj _ hy)
theorem A8 {fn:Func} {R:Ending->World->Prop} {n:Nat} {l:List (Nat × Value)} (bQ:fn.results= #[]) (I:Fr ⟨n,[]⟩ l a) (h:R (.returned (.tuple #[])) w):bodyPost P fn R .ret a w:=
 ⟨I.defers,_,results_none bQ _ _ _,h⟩
theorem bq {fn:Func} {R:Ending->World->Prop} {n:Nat} {t:Nat} {l:List (Nat × Value)} {v:Value} (bQ:fn.results= #[.tmp t]) (I:Fr ⟨n,[]⟩ l a) (az:fr l t=some v) (h:R (.returned v) w):bodyPost P fn R .ret a w:=
 ⟨I.defers,_,results_tmp bQ _ _ _,by rw [I.get _ _ az];exact h⟩
theorem g9 {fn:Func} {R:Ending->World->Prop} {n:Nat} {t u:Nat} {l:List (Nat × Value)} {v iR:Value} (bQ:fn.results= #[.tmp t,.tmp u]) (I:Fr ⟨n,[]⟩ l a) (az:fr l t=some v) (pG:fr l u=some iR)
 (h:R (.returned (.tuple #[v,iR])) w):bodyPost P fn R .ret a w:=
 ⟨I.defers,_,results_tmp2 bQ _ _ _,by rw [I.get _ _ az,I.get _ _ pG];exact h⟩
def agz (P:Program) (a:Act) (w:World):ResultVar->Value->Prop
 | .tmp t,v=>a.tmps.getD t undef=v
 | .cell b7 ty,v=>∃ b p,a.tmps.getD b7 undef= .pointer (some ⟨b,p,none⟩) /\
  ((∃ cs:List Value,(∀ w,(isAgg ty).run P w= .ok true w)/\(∀ w,(Go.sizeOf ty).run P w= .ok cs.length w)/\iW w ⟨b,p,none⟩ cs/\v= .agg cs.toArray) \/
   ((∀ w,(isAgg ty).run P w= .ok false w)/\w.cell? ⟨b,p,none⟩=some v))
def YG (P:Program) (a:Act) (w:World):List ResultVar->List Value->Prop
 | [],[]=>True
 | r::vJ,v::vs=>agz P a w r v/\YG P a w vJ vs
 | _,_=>False
def pack:List Value->Value
 | [v]=>v
 | vs=>.tuple vs.toArray
def NK (a:Act):ResultVar->Sem Value
 | .tmp t=>pure (a.tmps.getD t undef)
 | .cell b7 t=>do loadVar t (<-asAddr (a.tmps.getD b7 undef))
theorem aHK {r:ResultVar} {v:Value} (h:agz P a w r v):(NK a r).run P w= .ok v w:=by
 cases r with
 | tmp t=>exact congrArg (fun x=>Result.ok x w) h
 | cell b7 ty=>
   obtain ⟨b,p,aB,aR⟩:=h
   simp only [NK,aB]
   rcases aR with ⟨cs,di,a6,hc,rfl⟩ | ⟨di,hc⟩
   · have az:=run_loadCells_list (P:=P) w ⟨b,p,none⟩ cs (fun j u bb=>by rw [ov];exact hc j u bb)
     unfold loadCells at az
     simp [go_sem,loadVar,asAddr,di,a6,az]
   · simp [go_sem,loadVar,asAddr,di,hc]
theorem agC:∀ {vJ:List ResultVar} {vs:List Value},YG P a w vJ vs->(vJ.mapM (NK a)).run P w= .ok vs w
 | [],[],_=>rfl
 | r::vJ,v::vs,h=>by
   have aB:=aHK h.1
   have aR:=agC h.2
   rw [List.mapM_cons]
   simp only [Sem.run_bind,aB,aR,Result.andThen_ok]
   rfl
theorem gA {fn:Func} {R:Ending->World->Prop} {n:Nat} {l:List (Nat × Value)} {vJ:List ResultVar} {vs:List Value} (bQ:fn.results=vJ.toArray) (I:Fr ⟨n,[]⟩ l a) (ad:YG P a w vJ vs)
 (h:R (.returned (pack vs)) w):bodyPost P fn R .ret a w:=by
 refine ⟨I.defers,pack vs,?_,h⟩
 have aB:=agC ad
 unfold results
 have e:(fun x=>match x with | .tmp t=>pure (a.tmps.getD t undef) | .cell b7 t=>do loadVar t (<-asAddr (a.tmps.getD b7 undef)):ResultVar->Sem Value)=NK a:=by
  funext x;cases x <;> rfl
 rw [bQ,List.mapM_toArray]
 simp only [Sem.run_bind]
 show Result.andThen (((List.toArray <$> vJ.mapM (fun x=>match x with | .tmp t=>pure (a.tmps.getD t undef) | .cell b7 t=>do loadVar t (<-asAddr (a.tmps.getD b7 undef)):ResultVar->Sem Value))).run P w) _=_
 rw [e,map_eq_pure_bind,Sem.run_bind,aB]
 match vs with
 | []=>rfl
 | [v]=>rfl
 | v::u::r=>rfl
end
section
variable {P:Program} {ops:Array Oper} {Q:Exit->Act->World->Prop} {a:Act} {w:World} {rest:List Oper} {o:Oper} {n:ha} {d:Nat} {l:List (Nat × Value)}
 {W:World} {M0 X:List Nat} {E:List ap} {D:List ak}
theorem aw.new (hm:aw W M0 X w E D) (t:TypeId) (cs:List Value):aw W M0 X (w.alloc (.cells cs.toArray t)) (ap.bm w.heap.size t cs::E) D:=
 hm.push _ (a7.alloc _ _ _) (aiH w t cs) (fun k bh=>by simp [ap.bm] at bh;subst bh;exact ⟨Nat.le_refl _,by simp⟩) (by simp [ap.bm])
theorem cA {g p sz:Nat} {t pj:TypeId} {x y:Operand} {cs vs:List Value} {v:Value} (i:Nat) (hm:aw W M0 X w E D) (hi:E[i]? =some (ap.bm g pj cs)) (hw:Region.wanted o (yielded ops a.tmps)=true)
 (ad:v.cells=vs.toArray) (a6:∀ w,(Go.sizeOf t).run P w= .ok sz w) (az:Nat.beq vs.length sz=true) (aB:vs.all (·.oneCell')=true) (hle:Nat.ble (p+vs.length) cs.length=true)
 (br:o.op= .store t x y) (aj:a.eval x= .pointer (some ⟨g,p,none⟩)) (hy:a.eval y=v) (bZ:o.dst=none)
 (k:∀ aF,aw W M0 X aF (E.set i (ap.bm g pj (lay cs p vs))) D->wpList P ops Q rest a aF):wpList P ops Q (o::rest) a w:=by
 obtain ⟨aF,aB,aR,bT⟩:=ahX ad a6 az aB hle (hm.e i hi) br aj hy
 exact N0 hw aB bZ (k aF (hm.vP i hi aR bT (by simp [ap.bm]) (fun k bh=>.inl bh)))
theorem aw.cU {α:Type} (hm:aw W M0 X w E D) (e:TypeId) (size:Nat):aw W M0 X w (ap.row e size (.slice none 0 0) ([]:List α) []::E) D:=
 hm.push _ (a7.refl _ _) (World.ownsRow_nil w 0 e size) (fun k bh=>by simp [ap.row,Value.ownBlock] at bh) (by simp [ap.row,Value.ownBlock])
theorem M' (o:Option Nat):o.toList.Nodup:=by cases o <;> simp
theorem Vv {e:TypeId} {z:Value} {sz bytes:Nat} (h:(P.info? e).map (fun i=>(i.zero,i.size,i.bytes))=some (some z,sz,bytes)):∃ i,P.info? e=some i/\i.zero=some z/\i.size=sz/\i.bytes=bytes:=by
 cases hi:P.info? e with
 | none=>rw [hi] at h;cases h
 | some i=>
   rw [hi] at h
   simp only [Option.map_some,Option.some.injEq,Prod.mk.injEq] at h
   exact ⟨i,rfl,h.1,h.2.1,h.2.2⟩
end
end a2
namespace a2
open Go Go.RowKit J
section
variable {P:Program} {ops:Array Oper} {C:World->Prop} {nu:Act->Prop} {a:Act} {w:World} {rest:List Oper} {o:Oper} {n:ha} {d:Nat} {l:List (Nat × Value)} {v:Value}
theorem eK (hw:Region.wanted o (yielded ops a.tmps)=true) (hy:∀ w,C w->cf P o a w v w) (I:Fr n l a) (bZ:o.dst=some d) (af:Nat.blt d n=true) (k:∀ bM,Fr n ((d,v)::l) bM->wpQuiet P ops C nu rest bM):wpQuiet P ops C nu (o::rest) a:=by
 unfold wpQuiet
 rw [if_pos hw]
 refine ⟨v,fun w hc=>?_,?_⟩
 · unfold Oper.quietAt
   rw [show (execOp a.eval o).run P w=_ from hy w hc]
   exact ⟨rfl,rfl⟩
 · rw [bZ];exact k _ (I.put af)
theorem h5 {id:Nat} {Q:Exit->Act->World->Prop} {l:List Oper} (hm:P.follows .mixedOrders=true) (i_:Region.lexB .any l.toArray=true)
 (h:wpQuiet P l.toArray (fun aF=>a7 [] w aF) (fun a=>∀ aF,a7 [] w aF->Q .normal a aF) l a):(Code.region id l.toArray true).wp P Q a w:=
 wp_region_quiet (C:=fun aF=>a7 [] w aF) hm i_ (a7.drew [] w) (by
  refine Eq.mp ?_ h
  rw [List.toList_toArray]) |> fun h=>wp_mono h (fun e a w q=>q)
end
theorem alk {w aF:World} {p:Addr} {v:Value} (h:a7 [] w aF) (hc:w.cell? p=some v):aF.cell? p=some v:=
 (World.cell?_of_block (h.block p.block (World.block_lt_of_cell? w p hc) (by simp))).trans hc
theorem b6 {w aF:World} {p:Addr} {cs:List Value} (h:a7 [] w aF) (hc:iW w p cs):iW aF p cs:=fun j u bb=>alk h (hc j u bb)
section
variable {P:Program} {Q:Exit->Act->World->Prop} {K:Act->World->Prop} {a:Act} {w:World}
theorem bC {i:Nat} (h:Q (.exit i) a w):Exit.then K Q (.exit i) a w:=h
theorem cv {i:Nat} (h:Q .normal a w):Exit.inBlock i Q (.exit i) a w:=by simpa [Exit.inBlock] using h
theorem aIB {i j:Nat} (aY:Nat.beq j i=false) (h:Q (.exit j) a w):Exit.inBlock i Q (.exit j) a w:=by
 have:j≠i:=by intro e;subst e;simp at aY
 simpa [Exit.inBlock,this] using h
theorem al (h:Q .ret a w):Exit.then K Q .ret a w:=h
theorem a' {i:Nat} (h:Q .ret a w):Exit.inBlock i Q .ret a w:=h
theorem cd {id:Nat} {c:Code} (lM:Act->World->Prop) (aj:∀ K:Act->World->Prop,(∀ a w,lM a w->K a w)->c.wp P (Exit.inBlock id (Exit.then K Q)) a w) (hy:∀ a w,lM a w->Q .normal a w):(Code.block id c).wp P Q a w:=by
 refine wp_block (wp_mono (aj _ hy) ?_)
 intro e a w h
 cases e with
 | exit i=>
   by_cases hi:i=id
   · simpa [Exit.inBlock,Exit.then,hi] using h
   · simpa [Exit.inBlock,Exit.then,hi] using h
 | _=>exact h
theorem aZ {id:Nat} {l:List Oper} (h:wpList P l.toArray Q l a w):(Code.region id l.toArray false).wp P Q a w:=wp_region_lit h
theorem eJ {c:Operand} {x y:Code} {b:Bool} (hc:a.eval c= .bool b) (aY:b=true) (h:x.wp P Q a w):(Code.cond c x y).wp P Q a w:=wp_cond_true (by rw [hc,aY]) h
theorem g2 {c:Operand} {x y:Code} {b:Bool} (hc:a.eval c= .bool b) (aY:b=false) (h:y.wp P Q a w):(Code.cond c x y).wp P Q a w:=wp_cond_false (by rw [hc,aY]) h
end
section
variable {W w:World} {M0 X:List Nat} {E:List ap} {D:List ak}
def Na (D:List ak):List ak->Prop
 | []=>True
 | y::r=>(∃ i:Nat,D[i]? =some y)/\Na D r
theorem agd {D:List ak}:∀ {hj:List ak},Na D hj-> ∀ y ∈ hj,y ∈ D
 | [],_,y,hy=>by simp at hy
 | z::r,h,y,hy=>by
   rcases List.mem_cons.1 hy with rfl | e
   · obtain ⟨i,hi⟩:=h.1;exact List.mem_of_getElem? hi
   · exact agd h.2 y e
theorem aw.pick (h:aw W M0 X w E D) {hj:List ak} (a6:Na D hj):aw W M0 X w E hj:=h.less (agd a6)
theorem aw.Gk (h:aw W M0 X w E D) (i:Nat):aw W M0 X w (E.eraseIdx i) D:=h.drop (List.eraseIdx_sublist E i)
theorem aw.freeze {α:Type} {T:fc α} {e:TypeId} {A:Option Addr} {n c:Nat} {l:List α} {xs:List Value} (h:aw W M0 X w E D) (i j:Nat) (hi:E[i]? =some (ap.row e T.size (.slice A n c) l xs)) (bb:D[j]? =some (ak.rows T xs l)) :
 aw W M0 X w (E.eraseIdx i) (ak.of (aH T) [.slice A n c] l::D):=by
 have aB:=h.Gk i
 refine aB.more (aHx (h.e i hi) (aB.d j bb) ?_)
 intro k bh ks
 rcases List.mem_append.1 ks with bL | bL
 · have dP:=h.l4 k bL
   rcases (h.lt k (List.mem_flatMap.2 ⟨_,List.mem_of_getElem? hi,bh⟩)).2 with b8 | b8
   · exact dP.2 b8
   · omega
 · obtain ⟨az,aj⟩:=List.getElem?_eq_some_iff.1 hi
   have gr:E=E.take i++E[i]::E.drop (i+ 1):=by simp
   have bZ:=h.dW
   rw [gr,aj] at bZ
   have b8:cQ (E.take i++ap.row e T.size (.slice A n c) l xs::E.drop (i+ 1))=cQ (E.take i)++((ap.row e T.size (.slice A n c) l xs).fH++cQ (E.drop (i+ 1))):=by simp [cQ]
   rw [b8,List.nodup_append,List.nodup_append] at bZ
   rw [List.eraseIdx_eq_take_drop_succ] at bL
   rcases List.mem_append.1 (by simpa [cQ] using bL:k ∈ cQ (E.take i)++cQ (E.drop (i+ 1))) with dR | dR
   · exact bZ.2.2 k dR k (List.mem_append.2 (.inl bh)) rfl
   · exact bZ.2.1.2.2 k bh k dR rfl
theorem aw.lR {g:Nat} {t:TypeId} {cs:List Value} (h:aw W M0 X w E D) (i:Nat) (hi:E[i]? =some (ap.bm g t cs)):aw W M0 X w (E.eraseIdx i) (ak.cZ g cs::D):=by
 have aB:=h.Gk i
 refine aB.more ⟨?_,zG (h.e i hi),fun j u bb=>?_⟩
 · intro ks
   have bh:g ∈ (ap.bm g t cs).fH:=by simp [ap.bm]
   rcases List.mem_append.1 ks with bL | bL
   · have dP:=h.l4 g bL
     rcases (h.lt g (List.mem_flatMap.2 ⟨_,List.mem_of_getElem? hi,bh⟩)).2 with b8 | b8
     · exact dP.2 b8
     · omega
   · obtain ⟨az,aj⟩:=List.getElem?_eq_some_iff.1 hi
     have gr:E=E.take i++E[i]::E.drop (i+ 1):=by simp
     have bZ:=h.dW
     rw [gr,aj] at bZ
     have b8:cQ (E.take i++ap.bm g t cs::E.drop (i+ 1))=cQ (E.take i)++((ap.bm g t cs).fH++cQ (E.drop (i+ 1))):=by simp [cQ]
     rw [b8,List.nodup_append,List.nodup_append] at bZ
     rw [List.eraseIdx_eq_take_drop_succ] at bL
     rcases List.mem_append.1 (by simpa [cQ] using bL:g ∈ cQ (E.take i)++cQ (E.drop (i+ 1))) with dR | dR
     · exact bZ.2.2 g dR g (List.mem_append.2 (.inl bh)) rfl
     · exact bZ.2.1.2.2 g bh g dR rfl
 · have:=Ci (h.e i hi) bb
   simpa using this
end
end a2
namespace a2
open Go Go.RowKit J
def hF (n:Nat):List Nat->Array Bool
 | []=>Array.replicate n false
 | i::d=>(hF n d).setIfInBounds i true
def B6 (K:Act->World->Prop) (Q:Exit->Act->World->Prop):Exit->Act->World->Prop
 | .normal,a,w=>K a w
 | e,a,w=>Q e a w
section
variable {P:Program} {ops:Array Oper} {Q:Exit->Act->World->Prop} {a:Act} {w:World} {o:Oper} {n:ha} {f d i:Nat} {ds:List Nat} {l:List (Nat × Value)} {v:Value}
def N1 (ops:Array Oper) (ds:List Nat) (i:Nat):Bool:=Region.noSelect ops && Region.free .any ops (hF ops.size ds) i && (Region.ready .any ops (hF ops.size ds)).contains i
theorem aIw {K:Act->World->Prop} {Q:Exit->Act->World->Prop} (h:o.wp P a w K (B6 K Q)):o.wp P a w K Q:=by
 unfold Oper.wp at *
 generalize (execOp a.eval o).run P w=r at *
 cases r with
 | ok n aF=>
   cases n <;> simp only [Oper.upon] at h ⊢ <;>
    first
     | exact h
     | exact Calls.mono h (fun e ag4 he=>by cases e <;> first | exact he | exact he)
 | halt x aF=>cases x <;> simp only [Oper.upon] at h ⊢ <;> exact h
theorem Y2 {K:Act->World->Prop} (hi:ops[i]? =some o) (h:wpList P ops (B6 K (NoPanic Q)) [o] a w):wpOp P ops (NoPanic Q) i K a w:=by
 unfold wpOp
 simp only [hi]
 unfold wpList at h
 split at h
 · rename_i hw
   rw [if_pos hw]
   rcases h with h | ⟨aB,aR⟩
   · exact .inl (aIw h)
   · exact .inr ⟨aB,aR.elim fun a h=>h.elim fun w h=>⟨a,w,h⟩⟩
 · rename_i hw
   rw [if_neg hw]
   exact h
end
section
variable {P:Program} {o:Oper} {a:Act} {w:World} {t ep:TypeId} {x y:Operand} {gP:Array Field} {xs ys:Array Value} {b:Bool}
theorem aJs (bP:P.underlying t=some (.struct gP)) (b0:P.stoodInHeld t=false) (hm:P.eqGuardType P.depth t=false)
 (bQ:(Op.eqFields 9999 xs ys gP.toList).run P w= .ok b w) (br:o.op= .binOp .eql t x y ep) (aj:a.eval x= .agg xs) (hy:a.eval y= .agg ys):cf P o a w (.bool b) w:=by
 have I:P.fieldsOf t=gP:=by simp [Program.fieldsOf,bP]
 have h:=run_equalIn_struct (P:=P) w 9999 t xs ys (by rw [I];exact bP) b0
 rw [I,bQ] at h
 have h:(Op.equalIn 10000 t (Value.agg xs) (Value.agg ys)).run P w= .ok b w:=h
 simp only [cf,execOp,br,aj,hy]
 simp [go_sem,Op.equal,Op.maxDepth,h,run_eqGuard_agg w _ _ _ _ _ _ hm]
theorem P0 (bP:P.underlying t=some (.struct gP)) (b0:P.stoodInHeld t=false) (hm:P.eqGuardType P.depth t=false)
 (bQ:(Op.eqFields 9999 xs ys gP.toList).run P w= .ok b w) (br:o.op= .binOp .neq t x y ep) (aj:a.eval x= .agg xs) (hy:a.eval y= .agg ys):cf P o a w (.bool (!b)) w:=by
 have I:P.fieldsOf t=gP:=by simp [Program.fieldsOf,bP]
 have h:=run_equalIn_struct (P:=P) w 9999 t xs ys (by rw [I];exact bP) b0
 rw [I,bQ] at h
 have h:(Op.equalIn 10000 t (Value.agg xs) (Value.agg ys)).run P w= .ok b w:=h
 simp only [cf,execOp,br,aj,hy]
 simp [go_sem,Op.equal,Op.maxDepth,h,run_eqGuard_agg w _ _ _ _ _ _ hm]
theorem CO {d:Nat}:(Op.eqFields d xs ys []).run P w= .ok true w:=rfl
theorem xJ {d:Nat} {f:Field} {l:List Field} {k:IntKind} {m n:Int} {e:Prop} [Decidable e] (af:(f.name != "_")=true) (hu:P.underlying f.type=some (.int k)) (di:∀ w,(isAgg f.type).run P w= .ok false w)
 (aj:xs[f.offset]? =some (.int k m)) (hy:ys[f.offset]? =some (.int k n)) (h:(Op.eqFields (d+ 1) xs ys l).run P w= .ok (decide e) w):(Op.eqFields (d+ 1) xs ys (f::l)).run P w= .ok (decide (m=n/\e)) w:=by
 have Ay:f.name≠ "_" :=by simpa using af
 simp only [Op.eqFields,Ay,if_true,ne_eq,not_false_iff,part,Sem.run_bind,di,Result.andThen_ok,aj,hy,Bool.false_eq_true,if_false,Sem.run_pure,run_equalIn_int w d f.type k k m n hu]
 by_cases uH:m=n
 · subst uH;simp [h]
 · simp [uH,show (m == n)=false from by simpa using uH]
end
end a2
namespace a2
open Go Go.RowKit Go.ChangeShapes Go.WideShapes Go.Deep J
section
variable {H:Type} {enc:TypeId × Value->H} {P:Program}
theorem acD (az:laidOutB P=true) {W kg:World} {hh:Nat->Bool}:∀ {vO:List TypeId} {vs:List Value} {ds:List (DataW H)} {rL:List MemPlace},DataW.TrodAll enc P W 0 (fun _=>true) true vO vs ds rL ->
 (vO.all fun t=>P.readableRec t && Nat.blt t P.types.size)=true->(∀ p ∈ rL,W.sameAt kg p)->(∀ p ∈ rL,hh p.block=true)->DataW.TrodAll enc P kg 0 hh true vO vs ds rL
 | [],vs,ds,rL,h,_,_,_=>by obtain ⟨rfl,rfl,rfl⟩:=trodAll_nil h;exact trodAll_mk0
 | t::vO,vs,ds,rL,h,bQ,a6,b0=>by
   obtain ⟨v,aLt,d,aKH,p,q,rfl,rfl,rfl,bJ,aB⟩:=trodAll_cons h
   simp only [List.all_cons,Bool.and_eq_true] at bQ
   exact trodAll_cons_mk (WideElems.Trod_stays az bQ.1.1 (Nat.le_of_ble_eq_true bQ.1.2) bJ (fun x aj=>a6 x (List.mem_append_left _ aj)) (fun x aj=>b0 x (List.mem_append_left _ aj)))
    (acD az aB bQ.2 (fun x aj=>a6 x (List.mem_append_right _ aj)) (fun x aj=>b0 x (List.mem_append_right _ aj)))
theorem aGU {f:Func} {s:ChangeSpec} {W kg:World} {args:Array Value} {ds gs:List (DataW H)} {before:List MemPlace} {pj:TypeId}
 (jz:DataW.Whole enc P f.params.toList s.vars false W args.toList ds gs before) (az:laidOutB P=true) (bQ:(f.params.toList.all fun t=>P.readableRec t && Nat.blt t P.types.size)=true)
 (ad:s.vars= []) (SC:s.fn H ds= { results:=[.lit (.bool true)],args:=ds }) (aY:P.underlying pj=some .bool) (aez:f.resultTypes= #[pj]) (lY:a7 [] W kg) :
 s.post enc P f false true false false W args (.bool true) kg:=by
 have uv:=lY.below
 have dP:∀ p ∈ before,p.block <W.heap.size:=fun p b0=>jz.lt p b0
 have aps:=jz
 obtain ⟨p,q,gf,CX,H5,cV,af⟩:=jz
 rw [ad] at CX
 obtain ⟨rfl,rfl⟩:=trodVars_none CX
 simp only [List.append_nil] at H5
 subst H5
 have hold:∀ x ∈ before,(fun b=>decide (b <W.heap.size)) x.block=true:=fun x aj=>by simpa using dP x aj
 have RY:∀ hh:Nat->Bool,(∀ x ∈ before,hh x.block=true)->DataW.TrodAll enc P kg 0 hh true f.params.toList args.toList ds before:=
  fun hh sK=>acD az gf bQ (fun x aj=>uv.same (dP x aj)) sK
 have aeA:∀ (b:Nat) (hh:Nat->Bool) (bZ:Bool),DataW.TrodAll enc P kg b hh bZ f.resultTypes.toList ((Value.bool true).resultList f.resultTypes.size) [.lit (.bool true)] []:=fun b hh bZ=>by
  rw [aez];exact trodAll_cons_mk (p:=[]) (shut_bool aY true) trodAll_mk0
 have yb:∀ hh:Nat->Bool,DataW.TrodVars enc P kg hh s.vars [] []:=fun hh=>by rw [ad];rfl
 refine ⟨ds,[],before,[],before,[],aps,?_,?_,?_,World.keptBut_mono (fun x aj=>⟨aj,Or.inr (by simpa using aj)⟩) (uv.frame (· ∈ before)),fun _=>?_⟩
 · simp only [List.append_nil,SC];exact aeA _ _ _
 · simp only [List.append_nil,SC];exact RY _ hold
 · simp only [List.append_nil,SC];exact yb _
 · refine ⟨ok_one aez rfl (okWide_bool_mk aY true),_,_,([]++before)++[],⟨[]++before,[],trodAll_append (RY (fun _=>true) (fun _ _=>rfl)) (aeA _ _ _),yb _,rfl,?_,?_⟩,?_⟩
   · intro b off b0
     have pD:MemPlace.cell b off ∈ before:=by simpa using b0
     rw [uv.frozen (dP _ pD)]
     exact cV b off pD
   · intro bB;simpa using af bB
   · intro x aj _;simpa using aj
theorem QB {W:World} {r:Reach} {xi:Nat} {hh:Nat->Bool} {bZ:Bool} {t:TypeId} {v:Value} {d:DataW H} {rL:List MemPlace} (bP:P.underlying t=some (.int .i64)) (pI:Value.okWide P W r xi t v) (h:DataW.Trod enc P W 0 hh bZ t v d rL) :
 ∃ n:Int,v= .int .i64 n/\ -9223372036854775808 <=n/\n<= 9223372036854775807 :=by
 obtain ⟨n,rfl,_,_,hw⟩:=open_int bP pI h
 exact ⟨n,rfl,by simpa [Lit.wf,IntKind.min,IntKind.max,IntKind.signed,IntKind.bits] using hw⟩
theorem agB {α:Type} {T:fc α} {F:Nat->Prop} {W:World} {b o:Nat} {R:α->Prop}:∀ m:Nat,(∀ i,i <m-> ∃ cs d,iW W ⟨b,o+i*T.size,none⟩ cs/\T.rd F W cs d/\R d) ->
 ∃ (l:List α) (xs:List Value),l.length=m/\fP T F W xs l/\iW W ⟨b,o,none⟩ xs/\ ∀ d ∈ l,R d
 | 0,_=>⟨[],[],rfl,rfl,fun j u bb=>by simp at bb,fun d bZ=>by cases bZ⟩
 | m+ 1,h=>by
   obtain ⟨l,xs,aB,aR,bT,eo⟩:=agB m (fun i hi=>h i (by omega))
   obtain ⟨cs,d,d_,eb,fG⟩:=h m (by omega)
   refine ⟨l++[d],xs++cs,by simp [aB],agt (T:=T) eb aR,fun j u bb=>?_,fun e he=>?_⟩
   · have az:=A9 (T:=T) aR
     rcases Nat.lt_or_ge j xs.length with dP | Aq
     · exact bT j u (by simpa [List.getElem?_append,dP] using bb)
     · rw [List.getElem?_append_right Aq] at bb
       have:=d_ (j - xs.length) u bb
       rw [az,aB] at this
       rw [show o+j=o+m*T.size+(j - m*T.size) by rw [az,aB] at Aq;omega]
       simpa using this
   · rcases List.mem_append.1 he with bL | bL
     · exact eo e bL
     · simp at bL;subst bL;exact fG
end
end a2
namespace a2
open Go Go.RowKit Go.ChangeShapes Go.WideShapes Go.Deep J
def h1 {H:Type} (P:Program) (enc:TypeId × Value->H) (N:Nat) (t:TypeId) {α:Type} (T:fc α) (R:α->Prop):Prop:=
 ∀ (W:World) (n:Nat) (cs:List Value) (x:DataW H × List MemPlace),DataW.trod enc P W 0 (fun _=>true) true n t cs=some x->(∀ p ∈ x.2,p.block <W.heap.size)->(∀ m ∈ x.1.weights P t,m<=N)-> ∃ d,T.rd (hK [] W) W cs d/\R d
def iX (n:Int):Prop:=-9223372036854775808 <=n/\n<= 9223372036854775807
section
variable {H:Type} {enc:TypeId × Value->H} {P:Program} {N:Nat} {t e:TypeId}
theorem yX (bP:P.underlying t=some .string):h1 P enc N t bF (fun s=>s.length<=N):=by
 intro W n cs x h _ hw
 obtain ⟨s,rfl,rfl,_⟩:=DataW.trod_string bP h
 exact ⟨s.data.toList,rfl,hw _ (by simp [DataW.weights])⟩
theorem n1 (bP:P.underlying t=some (.int .i64)):h1 P enc N t (ai .i64) iX:=by
 intro W n cs x h _ _
 obtain ⟨z,rfl,_,cV⟩:=DataW.trod_int bP h
 exact ⟨z,rfl,by simpa [iX,Lit.wf,IntKind.min,IntKind.max,IntKind.signed,IntKind.bits] using cV⟩
theorem aHj (bP:P.underlying t=some .bool):h1 P enc N t aIj (fun _=>True):=by
 intro W n cs x h _ _
 obtain ⟨b,rfl,_⟩:=DataW.trod_bool bP h
 exact ⟨b,rfl,trivial⟩
theorem af4 {d:DataW H} {m:Nat} (hm:m ∈ d.weights P e):∀ {l:List (DataW H)},d ∈ l->m ∈ DataW.weightsAll P e l
 | [],h=>by cases h
 | x::r,h=>by
   simp only [DataW.weightsAll,List.mem_append]
   rcases List.mem_cons.1 h with rfl | h
   · exact .inl hm
   · exact .inr (af4 hm h)
theorem rR {α:Type} {T:fc α} {R:α->Prop} (bP:P.underlying t=some (.slice e)) (iv:P.cellsOf e=T.size) (Dj:Nat.blt 0 T.size=true) (HE:h1 P enc N e T R):h1 P enc N t (aH T) (fun l=>l.length*P.bytesOf e<=N/\ ∀ d ∈ l,R d):=by
 have Dj:0 <T.size:=Nat.le_of_ble_eq_true Dj
 intro W n cs x h b0 hw
 rcases open_slice bP h with ⟨rfl,rfl⟩ | ⟨a,vp,cap,m,kz,D,aiy,rfl,_,az,hm,Ax,aj,hi⟩
 · exact ⟨[],⟨none,0,rfl,Nat.le_refl _,Nat.zero_le _,fun _=>rfl,fun h=>absurd rfl h⟩,by simp,fun d bZ=>by cases bZ⟩
 · have gG:m=cap:=by simpa using Ax
   subst gG
   have aek:x.2 =MemPlace.row a (m*P.cellsOf e)++(List.range m).flatMap aiy:=congrArg Prod.snd aj
   have ad7:x.1 = .slice ((List.range vp).map D) ((List.range (m - vp)).map fun j=>D (vp+j)):=congrArg Prod.fst aj
   have yc:(vp+(m - vp))*P.bytesOf e<=N:=by
    refine hw _ ?_
    rw [ad7]
    simp only [DataW.weights,bP,List.length_map,List.length_range]
    exact List.mem_cons_self
   have hlen:vp*P.bytesOf e<=N:=Nat.le_trans (Nat.mul_le_mul_right _ (Nat.le_add_right _ _)) yc
   by_cases bJ:vp= 0
   · subst bJ
     exact ⟨[],⟨some a,m,rfl,by simp,hm,fun h=>(by cases h),fun h=>absurd rfl h⟩,by simp,fun d bZ=>by cases bZ⟩
   · have lk:∀ i,i <vp-> ∃ cs d,(∀ j u,cs[j]? =some u->W.cell? (a.add (i*T.size+j))=some u)/\cs.length=T.size/\T.rd (hK [] W) W cs d/\R d:=fun i gg=>by
      have aee:i <m:=by omega
      obtain ⟨CM,hc,oW⟩:=hi i aee
      obtain ⟨d,bZ,g4⟩:=HE W kz CM _ oW (fun p US=>b0 p (by
       rw [aek,List.mem_append]
       exact .inr (List.mem_flatMap.2 ⟨i,by simpa using aee,US⟩))) (fun k bh=>hw k (by
       rw [ad7]
       simp only [DataW.weights,bP,List.mem_cons,List.mem_append]
       exact .inr (.inl (af4 bh (List.mem_map.2 ⟨i,by simpa using gg,rfl⟩)))))
      rw [iv] at hc
      obtain ⟨_,nM,xV⟩:=World.cells?_some hc
      refine ⟨CM,d,fun j u bb=>?_,nM,bZ,g4⟩
      have HU:j <T.size:=by rw [<-nM];exact (List.getElem?_eq_some_iff.1 bb).1
      have:=xV j HU
      rw [bb,Go.Deep.add_add] at this
      exact this
     have aeB:a.spot=none:=by
      obtain ⟨cs,d,aB,aR,_⟩:=lk 0 (by omega)
      have:=aB 0 _ (List.getElem?_eq_getElem (by omega))
      unfold World.cell? at this
      split at this
      · split at this
        · cases this
        · rename_i a6;simpa [Addr.add] using a6
      · cases this
     obtain ⟨ab,aaK,aKe⟩:=a
     simp only at aeB
     subst aeB
     obtain ⟨l,xs,aB,aR,bT,eo⟩:=agB (T:=T) (F:=hK [] W) (W:=W) (b:=ab) (o:=aaK) (R:=R) vp (fun i gg=>by
      obtain ⟨cs,d,d_,_,fG,iZ⟩:=lk i gg
      exact ⟨cs,d,fun j u bb=>by have:=d_ j u bb;rw [ov] at this;simpa [Nat.add_assoc] using this,fG,iZ⟩)
     subst aB
     refine ⟨l,⟨_,m,rfl,az,hm,fun h=>(by cases h),fun _=>⟨rfl,⟨by simp,?_⟩,xs,aR,bT⟩⟩,hlen,eo⟩
     have pD:MemPlace.cell ab aaK ∈ x.2 :=by
      rw [aek,List.mem_append]
      left
      have:0 <m*P.cellsOf e:=Nat.mul_pos (by omega) (by omega)
      simp only [MemPlace.row,List.mem_map,List.mem_range]
      exact ⟨0,this,by simp⟩
     exact b0 _ pD
theorem af5 {m:Nat}:∀ {vO:List TypeId} {l:List (DataW H)} {j:Nat} {u:TypeId} {d:DataW H},vO[j]? =some u->l[j]? =some d->m ∈ d.weights P u->m ∈ DataW.weightsEach P vO l
 | [],_,j,_,_,h,_,_=>by simp at h
 | _::_,[],j,_,_,_,h,_=>by simp at h
 | t::vO,x::l,0,u,d,aB,aR,hm=>by
   simp only [List.getElem?_cons_zero,Option.some.injEq] at aB aR
   subst aB;subst aR
   simp only [DataW.weightsEach,List.mem_append]
   exact .inl hm
 | t::vO,x::l,j+ 1,u,d,aB,aR,hm=>by
   simp only [DataW.weightsEach,List.mem_append]
   exact .inr (af5 (j:=j) (by simpa using aB) (by simpa using aR) hm)
theorem oJ {gP:Array Field} {W:World} {n:Nat} {cs:List Value} {x:DataW H × List MemPlace} (bP:P.underlying t=some (.struct gP)) (h:DataW.trod enc P W 0 (fun _=>true) true n t cs=some x) (b0:∀ p ∈ x.2,p.block <W.heap.size) (hw:∀ m ∈ x.1.weights P t,m<=N) :
 ∃ kz,cs.length=P.cellsOf t/\ ∀ (j:Nat) (f:Field),gP[j]? =some f-> ∃ y,DataW.trod enc P W 0 (fun _=>true) true kz f.type ((cs.drop f.offset).take (P.cellsOf f.type))=some y/\(∀ p ∈ y.2,p.block <W.heap.size)/\(∀ m ∈ y.1.weights P f.type,m<=N):=by
 obtain ⟨ys,kz,_,aj,az,aLn,di⟩:=DataW.trod_struct bP h
 refine ⟨kz,az,fun j f bb=>?_⟩
 have HU:j <gP.size:=(Array.getElem?_eq_some_iff.1 bb).1
 have hy:ys[j]? =some (ys[j]'(by omega)):=List.getElem?_eq_getElem _
 refine ⟨ys[j]'(by omega),by rw [di j f bb,hy],fun p US=>b0 p ?_,fun m hm=>hw m ?_⟩
 · rw [aj]
   exact List.mem_flatMap.2 ⟨_,List.getElem_mem _,US⟩
 · rw [aj]
   simp only [DataW.weights,bP]
   refine af5 (j:=j) (u:=f.type) (d:=(ys[j]'(by omega)).1) ?_ ?_ hm
   · rw [List.getElem?_map,Array.getElem?_toList,bb];rfl
   · rw [List.getElem?_map,hy];rfl
theorem gn {gP:Array Field} {W:World} {kz:Nat} {cs:List Value} (I:∀ (j:Nat) (f:Field),gP[j]? =some f-> ∃ y,DataW.trod enc P W 0 (fun _=>true) true kz f.type ((cs.drop f.offset).take (P.cellsOf f.type))=some y/\(∀ p ∈ y.2,p.block <W.heap.size)/\(∀ m ∈ y.1.weights P f.type,m<=N))
 (j:Nat) {f:Field} (bb:gP[j]? =some f) {t off k:Nat} (bP:f.type=t) (br:f.offset=off) (bh:P.cellsOf t=k) {r:List Value} (bQ:(cs.drop off).take k=r):∃ y,DataW.trod enc P W 0 (fun _=>true) true kz t r=some y/\(∀ p ∈ y.2,p.block <W.heap.size)/\(∀ m ∈ y.1.weights P t,m<=N):=by
 obtain ⟨y,aB,aR,bT⟩:=I j f bb
 rw [bP,br] at aB
 rw [bP] at bT
 rw [bh,bQ] at aB
 exact ⟨y,aB,aR,bT⟩
theorem aaH {v:Array Value} {l:List Value} (h:(Value.agg v).cells.toList=l):v=l.toArray:=by
 have h:v.toList=l:=h
 rw [<-h]
theorem aaM {α:Type} {T:fc α} {R:α->Prop} {W:World} {v:Value} {d:DataW H} {rL:List MemPlace} (bQ:h1 P enc N t T R) (h:DataW.Trod enc P W 0 (fun _=>true) true t v d rL) (b0:∀ p ∈ rL,p.block <W.heap.size) (hw:∀ m ∈ d.weights P t,m<=N):∃ d',T.rd (hK [] W) W v.cells.toList d'/\R d':=by
 obtain ⟨n,af⟩:=h
 exact bQ W n _ _ af b0 hw
end
end a2
namespace a2
open Go Go.RowKit J
inductive qN
 | i (k:IntKind)
 | b
 | s
 | U
def qN.ok (P:Program) (t:TypeId):qN->Prop
 | .i k=>P.underlying t=some (.int k)
 | .b=>P.underlying t=some .bool
 | .s=>P.underlying t=some .string
 | .U=>∃ e,P.underlying t=some (.slice e)
structure mu where
 n7:List (Nat × qN)
 oJ:List (Nat × Nat × Nat)
 I2:List (Nat × Option Nat)
def YU (P:Program):List (Nat × qN)->Prop
 | []=>True
 | p::r=>p.2.ok P p.1 /\YU P r
def Qn (P:Program) (s j off:Nat):Prop:=∃ gP f sz,P.underlying s=some (.struct gP)/\gP[j]? =some f/\f.offset=off/\sz≠ 0 /\ ∀ w,(Go.sizeOf f.type).run P w= .ok sz w
def Rt (P:Program):List (Nat × Nat × Nat)->Prop
 | []=>True
 | p::r=>Qn P p.1 p.2.1 p.2.2 /\Rt P r
def aaG (P:Program) (t:Nat):Option Nat->Prop
 | none=>∀ w,(isAgg t).run P w= .ok false w
 | some n=>(∀ w,(isAgg t).run P w= .ok true w)/\ ∀ w,(Go.sizeOf t).run P w= .ok n w
def YM (P:Program):List (Nat × Option Nat)->Prop
 | []=>True
 | p::r=>aaG P p.1 p.2 /\YM P r
structure sc (P:Program) (G:mu):Prop where
 n7:YU P G.n7
 oJ:Rt P G.oJ
 I2:YM P G.I2
theorem fw {P:Program} {s j off sz:Nat} {gP:Array Field} {f:Field} (h:P.underlying s=some (.struct gP)) (I:gP[j]? =some f) (br:f.offset=off) (a6:∀ w,(Go.sizeOf f.type).run P w= .ok sz w) (bJ:Nat.beq sz 0 =false):Qn P s j off:=
 ⟨gP,f,sz,h,I,br,(fun e=>by subst e;simp at bJ),a6⟩
def o2 {β:Type}:List (Nat × β)->Nat->Option β
 | [],_=>none
 | p::r,t=>match Nat.beq p.1 t with
   | true=>some p.2
   | false=>o2 r t
def Iz:List (Nat × Nat × Nat)->Nat->Nat->Option Nat
 | [],_,_=>none
 | p::r,s,j=>match Nat.beq p.1 s && Nat.beq p.2.1 j with
   | true=>some p.2.2
   | false=>Iz r s j
theorem Bh {P:Program} {l:List (Nat × qN)} (h:YU P l) {t:Nat} {k:qN} (az:o2 l t=some k):k.ok P t:=by
 induction l with
 | nil=>simp [o2] at az
 | cons p r ct=>
   simp only [o2] at az
   cases aY:Nat.beq p.1 t with
   | true=>
     rw [aY] at az
     simp only [Option.some.injEq] at az
     rw [<-Nat.eq_of_beq_eq_true aY,<-az];exact h.1
   | false=>rw [aY] at az;exact ct h.2 az
theorem agN {P:Program} {l:List (Nat × Option Nat)} (h:YM P l) {t:Nat} {k:Option Nat} (az:o2 l t=some k):aaG P t k:=by
 induction l with
 | nil=>simp [o2] at az
 | cons p r ct=>
   simp only [o2] at az
   cases aY:Nat.beq p.1 t with
   | true=>
     rw [aY] at az
     simp only [Option.some.injEq] at az
     rw [<-Nat.eq_of_beq_eq_true aY,<-az];exact h.1
   | false=>rw [aY] at az;exact ct h.2 az
theorem alu {P:Program} {l:List (Nat × Nat × Nat)} (h:Rt P l) {s j off:Nat} (az:Iz l s j=some off):Qn P s j off:=by
 induction l with
 | nil=>simp [Iz] at az
 | cons p r ct=>
   simp only [Iz] at az
   cases aY:Nat.beq p.1 s && Nat.beq p.2.1 j with
   | true=>
     rw [aY] at az
     simp only [Option.some.injEq] at az
     simp only [Bool.and_eq_true] at aY
     rw [<-Nat.eq_of_beq_eq_true aY.1,<-Nat.eq_of_beq_eq_true aY.2,<-az];exact h.1
   | false=>rw [aY] at az;exact ct h.2 az
def jd (w:World):List (Nat × Nat × List Value)->Prop
 | []=>True
 | m::r=>iW w ⟨m.1,m.2.1,none⟩ m.2.2 /\jd w r
theorem ax {w:World}:jd w []:=trivial
theorem ay {w:World} {b p:Nat} {cs:List Value} {M:List (Nat × Nat × List Value)} (h:iW w ⟨b,p,none⟩ cs) (k:jd w M):jd w ((b,p,cs)::M):=⟨h,k⟩
theorem af2 {w:World} {M:List (Nat × Nat × List Value)} (h:jd w M) {i b p:Nat} {cs:List Value} (hi:M[i]? =some (b,p,cs)):iW w ⟨b,p,none⟩ cs:=by
 induction M generalizing i with
 | nil=>simp at hi
 | cons m r ct=>
   cases i with
   | zero=>
     simp only [List.getElem?_cons_zero,Option.some.injEq] at hi
     subst hi
     exact h.1
   | succ i=>exact ct h.2 (by simpa using hi)
theorem a1 {w:World} {g:Nat} {t:TypeId} {cs:List Value} (h:(ap.bm g t cs).ok w):iW w ⟨g,0,none⟩ cs:=fun j u bb=>by
 have:=Ci h bb
 simpa using this
structure hv where
 t:Nat
 j:Nat
 want:Bool
 v:Value
def A_:List (Nat × Value)->Nat->List (Nat × Value)
 | [],_=>[]
 | p::r,d=>match Nat.beq p.1 d with
   | true=>A_ r d
   | false=>p::A_ r d
def rS:List hv->Nat->List hv
 | [],_=>[]
 | p::r,d=>match Nat.beq p.t d || Nat.beq p.j d with
   | true=>rS r d
   | false=>p::rS r d
def CZ:List (Nat × Bool)->Nat->Bool->Bool
 | [],_,_=>false
 | p::r,j,b=>(Nat.beq p.1 j && (p.2 == b)) || CZ r j b
def IA:List hv->List (Nat × Bool)->Nat->Option Value
 | [],_,_=>none
 | p::r,cur,t=>match Nat.beq p.t t && CZ cur p.j p.want with
   | true=>some p.v
   | false=>IA r cur t
def mE (a:Act):List hv->Prop
 | []=>True
 | p::r=>(a.tmps.getD p.j undef= .bool p.want->a.tmps.getD p.t undef=p.v)/\mE a r
def t_ (a:Act):List (Nat × Bool)->Prop
 | []=>True
 | p::r=>a.tmps.getD p.1 undef= .bool p.2 /\t_ a r
theorem apz {a:Act} {cur:List (Nat × Bool)} (h:t_ a cur) {j:Nat} {b:Bool} (hb:CZ cur j b=true):a.tmps.getD j undef= .bool b:=by
 induction cur with
 | nil=>simp [CZ] at hb
 | cons p r ct=>
   simp only [CZ,Bool.or_eq_true,Bool.and_eq_true,beq_iff_eq] at hb
   rcases hb with ⟨aB,aR⟩ | hb
   · rw [<-Nat.eq_of_beq_eq_true aB,<-aR];exact h.1
   · exact ct h.2 hb
theorem aGd {a:Act} {gs:List hv} (h:mE a gs) {cur:List (Nat × Bool)} (hc:t_ a cur) {t:Nat} {v:Value} (az:IA gs cur t=some v):a.tmps.getD t undef=v:=by
 induction gs with
 | nil=>simp [IA] at az
 | cons p r ct=>
   simp only [IA] at az
   cases aY:Nat.beq p.t t && CZ cur p.j p.want with
   | true=>
     rw [aY] at az
     simp only [Option.some.injEq] at az
     simp only [Bool.and_eq_true] at aY
     rw [<-Nat.eq_of_beq_eq_true aY.1,<-az]
     exact h.1 (apz hc aY.2)
   | false=>rw [aY] at az;exact ct h.2 az
def ix (b5:List (Nat × Value)) (gs:List hv) (cur:List (Nat × Bool)):Operand->Option Value
 | .const v=>some v
 | .global g=>some (.pointer (some ⟨g,0,none⟩))
 | .tmp t=>match fr b5 t with
   | some v=>some v
   | none=>IA gs cur t
 | .func _=>none
theorem M_ {n:ha} {b5:List (Nat × Value)} {gs:List hv} {cur:List (Nat × Bool)} {a:Act} (I:Fr n b5 a) (di:mE a gs) (hc:t_ a cur) {x:Operand} {v:Value} (h:ix b5 gs cur x=some v):a.eval x=v:=by
 cases x with
 | const u=>simp only [ix,Option.some.injEq] at h;rw [<-h];rfl
 | global g=>simp only [ix,Option.some.injEq] at h;rw [<-h];rfl
 | func f=>simp [ix] at h
 | tmp t=>
   simp only [ix] at h
   cases az:fr b5 t with
   | some u=>rw [az] at h;simp only [Option.some.injEq] at h;rw [<-h];exact I.g az
   | none=>rw [az] at h;exact aGd di hc h
def DP (b5:List (Nat × Value)) (gs:List hv) (cur:List (Nat × Bool)):List Operand->Option (List Value)
 | []=>some []
 | x::r=>match ix b5 gs cur x,DP b5 gs cur r with
   | some v,some vs=>some (v::vs)
   | _,_=>none
theorem Xy {n:ha} {b5:List (Nat × Value)} {gs:List hv} {cur:List (Nat × Bool)} {a:Act} (I:Fr n b5 a) (di:mE a gs) (hc:t_ a cur):∀ {xs:List Operand} {vs:List Value},DP b5 gs cur xs=some vs->xs.map a.eval=vs
 | [],vs,h=>by simp only [DP,Option.some.injEq] at h;subst h;rfl
 | x::r,vs,h=>by
   simp only [DP] at h
   split at h
   · rename_i v us aB aR
     simp only [Option.some.injEq] at h
     subst h
     rw [List.map_cons,M_ I di hc aB,Xy I di hc aR]
   · cases h
def aeZ:Operand->Bool
 | .const (.int _ n)=>n != 0
 | _=>false
def pJ:IntKind->IntKind->Bool
 | .i64,.i64 | .u8,.u8 | .i32,.i32 | .u64,.u64 | .u32,.u32 | .u16,.u16 | .i16,.i16 | .i8,.i8=>true
 | _,_=>false
theorem sN {j k:IntKind} (h:pJ j k=true):j=k:=by cases j <;> cases k <;> simp_all [pJ]
def lZ (k:IntKind):Bool:=pJ k .i64
theorem l0 {k:IntKind} (h:lZ k=true):k= .i64:=sN h
def aaQ (oY:Option qN) (jl:Bool) (op:BinOp) (j k:IntKind) (m n:Int):Option Value:=
 match op with
 | .add=>match lZ j && lZ k with | true=>some (.int .i64 (av (m+n))) | false=>none
 | .sub=>match lZ j && lZ k with | true=>some (.int .i64 (av (m - n))) | false=>none
 | .mul=>match lZ j && lZ k with | true=>some (.int .i64 (av (m*n))) | false=>none
 | .quo=>match lZ j && lZ k && jl with | true=>some (.int .i64 (av (m.tdiv n))) | false=>none
 | .rem=>match lZ j && lZ k && jl with | true=>some (.int .i64 (m.tmod n)) | false=>none
 | .or=>match lZ j && lZ k with | true=>some (.int .i64 (XA m n)) | false=>none
 | .and=>match lZ j && lZ k with | true=>some (.int .i64 (Qz m n)) | false=>none
 | .lss=>match pJ j k with | true=>some (.bool (decide (m <n))) | false=>none
 | .leq=>match pJ j k with | true=>some (.bool (decide (m<=n))) | false=>none
 | .gtr=>match pJ j k with | true=>some (.bool (decide (n <m))) | false=>none
 | .geq=>match pJ j k with | true=>some (.bool (decide (n<=m))) | false=>none
 | .eql=>match oY with
   | some (.i i)=>match pJ i j && pJ j k with | true=>some (.bool (decide (m=n))) | false=>none
   | _=>none
 | .neq=>match oY with
   | some (.i i)=>match pJ i j && pJ j k with | true=>some (.bool (!decide (m=n))) | false=>none
   | _=>none
 | _=>none
def aaR (oY:Option qN) (op:BinOp) (p q:List UInt8):Option Value:=
 match op,oY with
 | .eql,some .s=>some (.bool (decide (p=q)))
 | .neq,some .s=>some (.bool (!decide (p=q)))
 | _,_=>none
def aaP (oY:Option qN) (op:BinOp) (p q:Bool):Option Value:=
 match op,oY with
 | .eql,some .b=>some (.bool (p == q))
 | .neq,some .b=>some (.bool (!(p == q)))
 | _,_=>none
def bin (oY:Option qN) (jl:Bool) (op:BinOp):Value->Value->Option Value
 | .int j m,.int k n=>aaQ oY jl op j k m n
 | .string ⟨⟨p⟩⟩,.string ⟨⟨q⟩⟩=>aaR oY op p q
 | .bool p,.bool q=>aaP oY op p q
 | _,_=>none
section
variable {P:Program} {o:Oper} {a:Act} {w:World} {x y:Operand} {t ep:TypeId}
theorem aiG {oY:Option qN} (bh:∀ k,oY=some k->k.ok P t) {jl:Bool} (cV:jl=true-> ∀ k n,a.eval y= .int k n->n≠ 0) {op:BinOp} {u v r:Value} (h:bin oY jl op u v=some r) (br:o.op= .binOp op t x y ep) (aj:a.eval x=u) (hy:a.eval y=v):cf P o a w r w:=by
 unfold bin at h
 split at h
 · rename_i j m k n
   unfold aaQ at h
   split at h
   case h_1=>
    split at h
    · rename_i aY
      simp only [Bool.and_eq_true] at aY
      obtain ⟨aB,aR⟩:=aY
      have aB:=l0 aB;have aR:=l0 aR
      subst aB;subst aR
      simp only [Option.some.injEq] at h
      subst h
      exact aJi br aj hy
    · cases h
   case h_2=>
    split at h
    · rename_i aY
      simp only [Bool.and_eq_true] at aY
      obtain ⟨aB,aR⟩:=aY
      have aB:=l0 aB;have aR:=l0 aR
      subst aB;subst aR
      simp only [Option.some.injEq] at h
      subst h
      exact aJX br aj hy
    · cases h
   case h_3=>
    split at h
    · rename_i aY
      simp only [Bool.and_eq_true] at aY
      obtain ⟨aB,aR⟩:=aY
      have aB:=l0 aB;have aR:=l0 aR
      subst aB;subst aR
      simp only [Option.some.injEq] at h
      subst h
      exact aJL br aj hy
    · cases h
   case h_4=>
    split at h
    · rename_i aY
      simp only [Bool.and_eq_true] at aY
      obtain ⟨⟨aB,aR⟩,bT⟩:=aY
      have aB:=l0 aB;have aR:=l0 aR
      subst aB;subst aR
      simp only [Option.some.injEq] at h
      subst h
      have eN:=cV bT _ _ hy
      exact aJT br aj hy (by rw [Bool.not_eq_true',decide_eq_false_iff_not];exact eN)
    · cases h
   case h_5=>
    split at h
    · rename_i aY
      simp only [Bool.and_eq_true] at aY
      obtain ⟨⟨aB,aR⟩,bT⟩:=aY
      have aB:=l0 aB;have aR:=l0 aR
      subst aB;subst aR
      simp only [Option.some.injEq] at h
      subst h
      have eN:=cV bT _ _ hy
      exact aJU br aj hy (by rw [Bool.not_eq_true',decide_eq_false_iff_not];exact eN)
    · cases h
   case h_6=>
    split at h
    · rename_i aY
      simp only [Bool.and_eq_true] at aY
      obtain ⟨aB,aR⟩:=aY
      have aB:=l0 aB;have aR:=l0 aR
      subst aB;subst aR
      simp only [Option.some.injEq] at h
      subst h
      exact aJR br aj hy
    · cases h
   case h_7=>
    split at h
    · rename_i aY
      simp only [Bool.and_eq_true] at aY
      obtain ⟨aB,aR⟩:=aY
      have aB:=l0 aB;have aR:=l0 aR
      subst aB;subst aR
      simp only [Option.some.injEq] at h
      subst h
      exact aJj br aj hy
    · cases h
   case h_8=>
    split at h
    · rename_i aY
      have aY:=sN aY
      subst aY
      simp only [Option.some.injEq] at h
      subst h
      exact aJG br aj hy
    · cases h
   case h_9=>
    split at h
    · rename_i aY
      have aY:=sN aY
      subst aY
      simp only [Option.some.injEq] at h
      subst h
      exact aJD br aj hy
    · cases h
   case h_10=>
    split at h
    · rename_i aY
      have aY:=sN aY
      subst aY
      simp only [Option.some.injEq] at h
      subst h
      exact aJy br aj hy
    · cases h
   case h_11=>
    split at h
    · rename_i aY
      have aY:=sN aY
      subst aY
      simp only [Option.some.injEq] at h
      subst h
      exact aJx br aj hy
    · cases h
   case h_12=>
    split at h
    · rename_i i
      have hi:=bh _ rfl
      split at h
      · rename_i aY
        simp only [Bool.and_eq_true] at aY
        have aB:=sN aY.1;have aR:=sN aY.2
        subst aB;subst aR
        simp only [Option.some.injEq] at h
        subst h
        exact aJt hi br aj hy
      · cases h
    · cases h
   case h_13=>
    split at h
    · rename_i i
      have hi:=bh _ rfl
      split at h
      · rename_i aY
        simp only [Bool.and_eq_true] at aY
        have aB:=sN aY.1;have aR:=sN aY.2
        subst aB;subst aR
        simp only [Option.some.injEq] at h
        subst h
        exact aJN hi br aj hy
      · cases h
    · cases h
   case h_14=>cases h
 · rename_i p q
   unfold aaR at h
   split at h
   · simp only [Option.some.injEq] at h
     subst h
     exact aJu (bh _ rfl) br aj hy
   · simp only [Option.some.injEq] at h
     subst h
     exact aJO (bh _ rfl) br aj hy
   · cases h
 · rename_i p q
   unfold aaP at h
   split at h
   · simp only [Option.some.injEq] at h
     subst h
     exact aJr (bh _ rfl) br aj hy
   · simp only [Option.some.injEq] at h
     subst h
     exact aJM (bh _ rfl) br aj hy
   · cases h
 · cases h
end
end a2
namespace a2
open Go Go.RowKit J
def nth {α:Type}:List α->Nat->Option α
 | [],_=>none
 | x::_,0 =>some x
 | _::r,i+ 1 =>nth r i
theorem s3 {α:Type}:∀ (l:List α) (i:Nat),nth l i=l[i]?
 | [],i=>by simp [nth]
 | x::r,0 =>rfl
 | x::r,i+ 1 =>by simp [nth,s3 r i]
def Vy:Operand->Bool
 | .const (.bool b)=>b
 | _=>false
def Vw:Operand->Bool
 | .const (.bool b)=>!b
 | _=>false
def XD (x y:Operand) (b:Bool):Value->Value->Option Value
 | .bool p,.bool q=>match Vy x with
   | true=>some (.bool (b || q))
   | false=>match Vw y with
     | true=>some (.bool (b && p))
     | false=>some (.bool (cond b p q))
 | .int j m,.int k n=>match pJ j k with
   | true=>some (.int j (cond b m n))
   | false=>none
 | .string ⟨⟨p⟩⟩,.string ⟨⟨q⟩⟩=>some (ao (cond b p q))
 | _,_=>none
theorem aFR {a:Act} {x:Operand} (h:Vy x=true):a.eval x= .bool true:=by
 unfold Vy at h
 split at h
 · subst h;rfl
 · cases h
theorem aFP {a:Act} {x:Operand} (h:Vw x=true):a.eval x= .bool false:=by
 unfold Vw at h
 split at h
 · rename_i b
   have:b=false:=by simpa using h
   subst this;rfl
 · cases h
theorem aGM {a:Act} {x y:Operand} {b:Bool} {u v r:Value} (h:XD x y b u v=some r) (aj:b=true->a.eval x=u) (hy:b=false->a.eval y=v):(if b then a.eval x else a.eval y)=r:=by
 unfold XD at h
 split at h
 · rename_i p q
   split at h
   · rename_i bP
     simp only [Option.some.injEq] at h
     subst h
     cases b with
     | true=>rw [if_pos rfl,aFR bP];rfl
     | false=>rw [if_neg (by simp),hy rfl];rfl
   · split at h
     · rename_i I
       simp only [Option.some.injEq] at h
       subst h
       cases b with
       | true=>rw [if_pos rfl,aj rfl];rfl
       | false=>rw [if_neg (by simp),aFP I];rfl
     · simp only [Option.some.injEq] at h
       subst h
       cases b with
       | true=>rw [if_pos rfl,aj rfl];rfl
       | false=>rw [if_neg (by simp),hy rfl];rfl
 · split at h
   · rename_i bh
     have:=sN bh
     subst this
     simp only [Option.some.injEq] at h
     subst h
     cases b with
     | true=>rw [if_pos rfl,aj rfl];rfl
     | false=>rw [if_neg (by simp),hy rfl];rfl
   · cases h
 · simp only [Option.some.injEq] at h
   subst h
   cases b with
   | true=>rw [if_pos rfl,aj rfl];rfl
   | false=>rw [if_neg (by simp),hy rfl];rfl
 · cases h
abbrev Out:=Value × List Nat × List (Nat × Nat)
def lm (a6:List Nat) (v:Value):Option Out:=some (v,a6,[])
def ac_ (G:mu) (M:List (Nat × Nat × List Value)) (t m rel:Nat) (a6:List Nat) (IJ aK:Nat):Option Out:=
 match nth M m,o2 G.I2 t with
 | some (b,off,cs),some none=>match nth cs rel with
   | some v=>some (v,a6,[(IJ,b),(aK,off+rel)])
   | none=>none
 | some (b,off,cs),some (some n)=>match Nat.ble (rel+n) cs.length with
   | true=>some (.agg ((cs.drop rel).take n).toArray,a6,[(IJ,b),(aK,off+rel)])
   | false=>none
 | _,_=>none
def ac8 (G:mu) (s d:Nat) (a6:List Nat):Value->Option Out
 | .int k m=>match lZ k,o2 G.n7 s,o2 G.n7 d with
   | true,some (.i .i64),some (.i .i64)=>lm a6 (.int .i64 (av m))
   | true,some (.i .i64),some (.i .u8)=>lm a6 (.int .u8 ((Fv m).toNat:Int))
   | _,_,_=>none
 | _=>none
def ac9 (G:mu) (t:Nat) (a6:List Nat):Value->Option Out
 | .string ⟨⟨p⟩⟩=>match o2 G.n7 t with
   | some .s=>lm a6 (.int .i64 (p.length:Int))
   | _=>none
 | .slice _ n _=>match o2 G.n7 t with
   | some .U=>lm a6 (.int .i64 (n:Int))
   | _=>none
 | _=>none
def ac' (b5:List (Nat × Value)) (gs:List hv) (cur:List (Nat × Bool)) (c x y:Operand):List Nat->Option Out
 | 0 ::a6=>match c with
   | .tmp Bb=>match ix b5 gs cur (.tmp Bb),ix b5 gs ((Bb,true)::cur) x,ix b5 gs ((Bb,false)::cur) y with
     | some (.bool b),some u,some v=>match XD x y b u v with
       | some r=>lm a6 r
       | none=>none
     | _,_,_=>none
   | _=>none
 | _::a6=>match ix b5 gs cur c with
   | some (.bool b)=>match b with
     | true=>match ix b5 gs cur x with | some v=>lm a6 v | none=>none
     | false=>match ix b5 gs cur y with | some v=>lm a6 v | none=>none
   | _=>none
 | []=>none
def nE (G:mu) (M:List (Nat × Nat × List Value)) (a6:List Nat) (b5:List (Nat × Value)) (gs:List hv) (cur:List (Nat × Bool)):Op->Option Out
 | .move x=>match ix b5 gs cur x with | some v=>lm a6 v | none=>none
 | .assign x=>match ix b5 gs cur x with | some v=>lm a6 v | none=>none
 | .pick c x y=>ac' b5 gs cur c x y a6
 | .binOp op t x y _=>match ix b5 gs cur x,ix b5 gs cur y with
   | some u,some v=>match bin (o2 G.n7 t) (aeZ y) op u v with
     | some r=>lm a6 r
     | none=>none
   | _,_=>none
 | .unOp .not _ x=>match ix b5 gs cur x with
   | some (.bool p)=>lm a6 (.bool (!p))
   | _=>none
 | .convert s d x=>match ix b5 gs cur x with
   | some v=>ac8 G s d a6 v
   | none=>none
 | .load t x=>match ix b5 gs cur x,a6 with
   | some (.pointer (some ⟨IJ,aK,none⟩)),m::rel::dL=>ac_ G M t m rel dL IJ aK
   | _,_=>none
 | .fieldAddr s x j=>match ix b5 gs cur x,Iz G.oJ s j with
   | some (.pointer (some ⟨b,p,none⟩)),some off=>lm a6 (.pointer (some ⟨b,p+off,none⟩))
   | _,_=>none
 | .nilCheck x=>match ix b5 gs cur x with
   | some (.pointer (some p))=>lm a6 (.pointer (some p))
   | _=>none
 | .extract x i=>match ix b5 gs cur x with
   | some (.tuple ⟨vs⟩)=>match nth vs i with
     | some v=>lm a6 v
     | none=>none
   | _=>none
 | .makeFunc fn ⟨xs⟩ ⟨ys⟩=>match DP b5 gs cur xs,DP b5 gs cur ys with
   | some us,some vs=>lm a6 (.func fn us.toArray vs.toArray)
   | _,_=>none
 | .call ⟨.builtin .len,⟨[x]⟩,⟨[t]⟩⟩=>match ix b5 gs cur x with
   | some v=>ac9 G t a6 v
   | none=>none
 | _=>none
theorem m0 {a6 dL:List Nat} {u v:Value} {l:List (Nat × Nat)} (h:lm a6 u=some (v,dL,l)):u=v:=by
 simp only [lm,Option.some.injEq,Prod.mk.injEq] at h
 exact h.1
def nD:List (Nat × Nat)->Prop
 | []=>True
 | p::r=>p.1 =p.2 /\nD r
section
variable {P:Program} {G:mu} {M:List (Nat × Nat × List Value)} {w:World} {a:Act} {o:Oper}
theorem ac6 {n:ha} {b5:List (Nat × Value)} {gs:List hv} {cur:List (Nat × Bool)} {a6 dL:List Nat} {v:Value} {l:List (Nat × Nat)} (gu:sc P G) (fp:jd w M) (I:Fr n b5 a) (di:mE a gs) (hc:t_ a cur)
 {op:Op} (br:o.op=op) (h:nE G M a6 b5 gs cur op=some (v,dL,l)) (az:nD l):cf P o a w v w:=by
 have opn:∀ {x:Operand} {u:Value},ix b5 gs cur x=some u->a.eval x=u:=fun aj=>M_ I di hc aj
 unfold nE at h
 split at h
 · split at h
   · rename_i aj
     rw [<-m0 h];exact aJJ br (opn aj)
   · cases h
 · split at h
   · rename_i aj
     rw [<-m0 h];exact aJl br (opn aj)
   · cases h
 · rename_i c x y
   unfold ac' at h
   split at h
   · split at h
     · rename_i Bb
       split at h
       · rename_i b u iR aB aR bT
         split at h
         · rename_i r bQ
           rw [<-m0 h]
           have xW:a.eval (.tmp Bb)= .bool b:=opn aB
           have aj:b=true->a.eval x=u:=fun aY=>M_ I di (show t_ a ((Bb,true)::cur) from ⟨by subst aY;exact xW,hc⟩) aR
           have hy:b=false->a.eval y=iR:=fun aY=>M_ I di (show t_ a ((Bb,false)::cur) from ⟨by subst aY;exact xW,hc⟩) bT
           have b0:=aGM (a:=a) bQ aj hy
           cases b with
           | true=>exact ahW br xW (by simpa using b0)
           | false=>exact ahV br xW (by simpa using b0)
         · cases h
       · cases h
     · cases h
   · split at h
     · rename_i b aB
       split at h
       · split at h
         · rename_i u aR
           rw [<-m0 h];exact ahW br (opn aB) (opn aR)
         · cases h
       · split at h
         · rename_i u aR
           rw [<-m0 h];exact ahV br (opn aB) (opn aR)
         · cases h
     · cases h
   · cases h
 · rename_i op t x y ep
   split at h
   · rename_i u iR aB aR
     split at h
     · rename_i r bQ
       rw [<-m0 h]
       refine aiG (fun k bh=>Bh gu.n7 bh) (fun cV k n af=>?_) bQ br (opn aB) (opn aR)
       unfold aeZ at cV
       split at cV
       · rename_i k' kz
         have:a.eval (.const (.int k' kz))= .int k' kz:=rfl
         rw [this] at af
         injection af with _ e
         subst e
         simpa using cV
       · cases cV
     · cases h
   · cases h
 · rename_i x
   split at h
   · rename_i p aB
     rw [<-m0 h];exact aJQ br (opn aB)
   · cases h
 · rename_i s d x
   split at h
   · rename_i u aB
     unfold ac8 at h
     split at h
     · rename_i k m
       split at h
       · rename_i aR bT eo
         have:=l0 aR
         subst this
         rw [<-m0 h];exact aJn (Bh gu.n7 bT) (Bh gu.n7 eo) br (opn aB)
       · rename_i aR bT eo
         have:=l0 aR
         subst this
         rw [<-m0 h];exact aJp (Bh gu.n7 bT) (Bh gu.n7 eo) br (opn aB)
       · cases h
     · cases h
   · cases h
 · rename_i t x
   split at h
   · rename_i IJ aK m rel uL aB
     have aj:=opn aB
     unfold ac_ at h
     split at h
     · rename_i b off cs aR bT
       split at h
       · rename_i u eo
         simp only [Option.some.injEq,Prod.mk.injEq] at h
         obtain ⟨rfl,_,rfl⟩:=h
         obtain ⟨bL,b8,_⟩:=az
         simp only at bL b8
         subst bL;subst b8
         rw [s3] at aR eo
         exact aJE (agN gu.I2 bT) br aj (af2 fp aR rel u eo)
       · cases h
     · rename_i b off cs k aR bT
       split at h
       · rename_i aY
         simp only [Option.some.injEq,Prod.mk.injEq] at h
         obtain ⟨rfl,_,rfl⟩:=h
         obtain ⟨bL,b8,_⟩:=az
         simp only at bL b8
         subst bL;subst b8
         rw [s3] at aR
         have a6:=agN gu.I2 bT
         have hle:=Nat.le_of_ble_eq_true aY
         refine aJF a6.1 a6.2 (by simp;omega) br aj (fun j u bb=>?_)
         have asm:=af2 fp aR
         rw [List.getElem?_take] at bb
         split at bb
         · rw [List.getElem?_drop] at bb
           have:=asm (rel+j) u bb
           simpa [Nat.add_assoc] using this
         · cases bb
       · cases h
     · cases h
   · cases h
 · rename_i s x j
   split at h
   · rename_i b p off aB aR
     rw [<-m0 h]
     obtain ⟨gP,f,sz,iH,jL,mD,uc,alF⟩:=alu gu.oJ aR
     rw [<-mD]
     exact aJw iH jL alF (by cases bJ:Nat.beq sz 0 with | false=>rfl | true=>exact absurd (Nat.eq_of_beq_eq_true bJ) uc) br (opn aB)
   · cases h
 · rename_i x
   split at h
   · rename_i p aB
     rw [<-m0 h];exact aJP br (opn aB)
   · cases h
 · rename_i x i
   split at h
   · rename_i vs aB
     split at h
     · rename_i u aR
       rw [<-m0 h]
       rw [s3] at aR
       exact aJv (vs:=vs) br (opn aB) aR
     · cases h
   · cases h
 · rename_i fn xs ys
   split at h
   · rename_i us vs aB aR
     rw [<-m0 h]
     have bL:=Xy I di hc aB
     have b8:=Xy I di hc aR
     simp only [cf,execOp,br,Instr.makeFunc]
     rw [show (Array.map a.eval ⟨xs⟩)=us.toArray by rw [<-bL];simp,show (Array.map a.eval ⟨ys⟩)=vs.toArray by rw [<-b8];simp]
     rfl
   · cases h
 · rename_i x t
   split at h
   · rename_i u aB
     unfold ac9 at h
     split at h
     · split at h
       · rename_i aR
         rw [<-m0 h];exact aJC (Bh gu.n7 aR) br (opn aB)
       · cases h
     · split at h
       · rename_i aR
         rw [<-m0 h]
         obtain ⟨e,he⟩:=Bh gu.n7 aR
         exact aJB he br (opn aB)
       · cases h
     · cases h
   · cases h
 · cases h
end
end a2
namespace a2
open Go Go.RowKit J
def RA (ops:Array Oper) (j:Nat):Option Nat:=match nth ops.toList j with
 | some o=>o.dst
 | none=>none
theorem alP {ops:Array Oper} {j dW:Nat} (h:RA ops j=some dW):(ops[j]?).bind (·.dst)=some dW:=by
 unfold RA at h
 rw [s3,Array.getElem?_toList] at h
 split at h
 · rename_i o br
   rw [br];exact h
 · cases h
abbrev aix:=List (Nat × Value) × List hv × List (Nat × Nat)
def ev (G:mu) (ops:Array Oper) (n:Nat) (M:List (Nat × Nat × List Value)):List Oper->List Nat->List (Nat × Value)->List hv->List (Nat × Nat)->Option aix
 | [],_,b5,gs,l=>some (b5,gs,l)
 | o::rest,a6,b5,gs,l=>match o.dst with
   | none=>none
   | some d=>match Nat.blt d n with
     | false=>none
     | true=>match o.guard with
       | none=>match nE G M a6 b5 gs [] o.op with
         | some (v,dL,l')=>ev G ops n M rest dL ((d,v)::b5) (rS gs d) (l'++l)
         | none=>none
       | some (j,want)=>match RA ops j with
         | none=>none
         | some dW=>match Nat.blt dW n with
           | false=>none
           | true=>match a6 with
             | 0 ::dL=>match Nat.beq dW d with
               | true=>none
               | false=>match nE G M dL b5 gs [(dW,want)] o.op with
                 | some (v,uL,l')=>ev G ops n M rest uL (A_ b5 d) (⟨d,dW,want,v⟩::rS gs d) (l'++l)
                 | none=>none
             | _::dL=>match fr b5 dW with
               | some (.bool b)=>match b == want with
                 | true=>match nE G M dL b5 gs [] o.op with
                   | some (v,uL,l')=>ev G ops n M rest uL ((d,v)::b5) (rS gs d) (l'++l)
                   | none=>none
                 | false=>ev G ops n M rest dL ((d,undef)::b5) (rS gs d) l
               | some (.tuple ⟨[]⟩)=>ev G ops n M rest dL ((d,undef)::b5) (rS gs d) l
               | _=>none
             | []=>none
def CN (b5:List (Nat × Value)):List Nat->Option (List (Nat × Value))
 | []=>some []
 | t::r=>match fr b5 t,CN b5 r with
   | some v,some vs=>some ((t,v)::vs)
   | _,_=>none
def dup (l:List Nat):List (Nat × Nat):=l.map fun x=>(x,x)
def kj (G:mu) (ops:Array Oper) (n:Nat) (M:List (Nat × Nat × List Value)) (os:List Oper) (a6:List Nat) (b5:List (Nat × Value)) (dz:List Nat):Option (List (Nat × Value) × List (Nat × Nat)):=
 match ev G ops n M os a6 b5 [] [] with
 | some (fr',_,l)=>match CN fr' dz with
   | some k=>some (k,l)
   | none=>none
 | none=>none
theorem LA:∀ l:List Nat,nD (dup l)
 | []=>trivial
 | x::r=>⟨rfl,LA r⟩
theorem xK:∀ {l l':List (Nat × Nat)},nD (l++l')->nD l/\nD l'
 | [],_,h=>⟨trivial,h⟩
 | _::_,_,h=>⟨⟨h.1,(xK h.2).1⟩,(xK h.2).2⟩
theorem Rg {b5:List (Nat × Value)}:∀ {dz:List Nat} {k:List (Nat × Value)},CN b5 dz=some k->Jf b5 k
 | [],k,h=>by simp only [CN,Option.some.injEq] at h;subst h;trivial
 | t::r,k,h=>by
   simp only [CN] at h
   split at h
   · rename_i v vs aB aR
     simp only [Option.some.injEq] at h
     subst h
     exact ⟨aB,Rg aR⟩
   · cases h
theorem aGV {a:Act} {n:ha} {d:Nat} {v:Value} (a6:a.tmps.size=n) (bZ:Nat.blt d n=true):(a.put (some d) v).tmps.getD d undef=v:=by
 have dP:d <n:=Nat.le_of_ble_eq_true bZ
 simp [Act.put,a6,dP]
theorem Nb {a:Act} {d t:Nat} {v:Value} (h:t≠d):(a.put (some d) v).tmps.getD t undef=a.tmps.getD t undef:=by
 simp only [Act.put,Array.getD_eq_getD_getElem?]
 rw [Array.getElem?_setIfInBounds,if_neg (fun e=>h e.symm)]
theorem xQ {a:Act} {d:Nat} {v:Value}:∀ {gs:List hv},mE a gs->mE (a.put (some d) v) (rS gs d)
 | [],_=>trivial
 | p::r,h=>by
   simp only [rS]
   cases aY:Nat.beq p.t d || Nat.beq p.j d with
   | true=>exact xQ h.2
   | false=>
     simp only [Bool.or_eq_false_iff] at aY
     have aB:p.t≠d:=fun e=>by rw [e] at aY;simp at aY
     have aR:p.j≠d:=fun e=>by rw [e] at aY;simp at aY
     refine ⟨?_,xQ h.2⟩
     rw [Nb aB,Nb aR];exact h.1
theorem Xq {d t:Nat} {v:Value}:∀ {b5:List (Nat × Value)},fr (A_ b5 d) t=some v->t≠d/\fr b5 t=some v
 | [],h=>by simp [A_,fr] at h
 | p::r,h=>by
   simp only [A_] at h
   cases aY:Nat.beq p.1 d with
   | true=>
     rw [aY] at h
     obtain ⟨aB,aR⟩:=Xq h
     refine ⟨aB,?_⟩
     have e:=Nat.eq_of_beq_eq_true aY
     simp only [fr]
     cases hc:Nat.beq p.1 t with
     | true=>exact absurd ((Nat.eq_of_beq_eq_true hc).symm.trans e) aB
     | false=>exact aR
   | false=>
     rw [aY] at h
     simp only [fr] at h ⊢
     cases hc:Nat.beq p.1 t with
     | true=>
       rw [hc] at h
       refine ⟨fun e=>?_,h⟩
       rw [Nat.eq_of_beq_eq_true hc,e] at aY
       simp at aY
     | false=>
       rw [hc] at h
       exact Xq h
theorem Fr.agA {n:ha} {d:Nat} {b5:List (Nat × Value)} {a:Act} {v:Value} (I:Fr n b5 a):Fr n (A_ b5 d) (a.put (some d) v):=
 ⟨by simpa [Act.put] using I.size,I.defers,fun t u h=>by obtain ⟨aB,aR⟩:=Xq h;rw [Nb aB];exact I.get t u aR⟩
def Dq:Op->Bool
 | .load _ _=>true
 | _=>false
theorem ali {G:mu} {M:List (Nat × Nat × List Value)} {a6:List Nat} {b5:List (Nat × Value)} {gs:List hv} {cur:List (Nat × Bool)} {op:Op} (h:Dq op=false):nE G M a6 b5 gs cur op=nE G [] a6 b5 gs cur op:=by
 cases op with
 | load t x=>simp [Dq] at h
 | unOp u t x=>cases u <;> rfl
 | call c=>
   unfold nE
   split <;> first | rfl | (rename_i e;cases e;done) | (rename_i e;cases e;rfl)
 | _=>rfl
theorem Rl {P:Program} {G:mu} {M:List (Nat × Nat × List Value)} {C:World->Prop} {a:Act} {o:Oper} {n:ha} {b5:List (Nat × Value)} {gs:List hv} {cur:List (Nat × Bool)} {a6 dL:List Nat} {v:Value} {l:List (Nat × Nat)} (gu:sc P G) (fp:∀ w,C w->jd w M) (I:Fr n b5 a) (di:mE a gs) (hc:t_ a cur)
 (h:nE G M a6 b5 gs cur o.op=some (v,dL,l)) (az:nD l):(∀ w,C w->cf P o a w v w)/\(Dq o.op=false-> ∀ w,cf P o a w v w):=
 ⟨fun w py=>ac6 gu (fp w py) I di hc rfl h az,fun af w=>ac6 gu (M:=[]) trivial I di hc rfl (by rw [<-ali af];exact h) az⟩
theorem ag6 {ops:Array Oper} {o:Oper} {a:Act} {n:ha} {l:List (Nat × Value)} {j dW:Nat} {want:Bool} (I:Fr n l a) (di:o.guard=some (j,want)) (bb:(ops[j]?).bind (·.dst)=some dW) (af:Nat.blt dW n=true) :
 Region.wanted o (yielded ops a.tmps)=true ↔ a.tmps.getD dW undef= .bool want:=by
 have dP:dW <n:=Nat.le_of_ble_eq_true af
 have a6:=I.size
 have aR:a.tmps[dW]? =some (a.tmps.getD dW undef):=by
  rw [Array.getElem?_eq_getElem (by omega)]
  simp [Array.getD_eq_getD_getElem?,a6,dP]
 simp only [Region.wanted,di,yielded,bb,Option.bind_some,aR,beq_iff_eq]
 constructor
 · intro h
   split at h
   · rename_i b aY
     simp only [Option.some.injEq] at h aY
     rw [aY,h]
   · cases h
 · intro h
   rw [h]
def aiB (P:Program) (ops:Array Oper) (C:World->Prop) (o:Oper) (d:Nat) (a:Act) (u:Value):Prop:=
 o.dst=some d/\((Region.wanted o (yielded ops a.tmps)=true/\(∀ w,C w->cf P o a w u w)/\(Dq o.op=false-> ∀ w,cf P o a w u w))\/(Region.wanted o (yielded ops a.tmps)=false/\u=undef))
section
variable {P:Program} {G:mu} {ops:Array Oper} {n:ha} {M:List (Nat × Nat × List Value)} {C:World->Prop}
theorem Rm (gu:sc P G) (fp:∀ w,C w->jd w M) {o:Oper} {rest:List Oper} {a6:List Nat} {b5:List (Nat × Value)} {gs:List hv} {l l5:List (Nat × Nat)} {jx:List (Nat × Value)} {lV:List hv} {a:Act}
 (I:Fr n b5 a) (di:mE a gs) (h:ev G ops n M (o::rest) a6 b5 gs l=some (jx,lV,l5)) (cV:nD l5)
 (UM:∀ {os:List Oper} {a6:List Nat} {b5:List (Nat × Value)} {gs:List hv} {l:List (Nat × Nat)},ev G ops n M os a6 b5 gs l=some (jx,lV,l5)->nD l) :
 ∃ d u dL fr' zV l',aiB P ops C o d a u/\Fr n fr' (a.put (some d) u)/\mE (a.put (some d) u) zV/\ev G ops n M rest dL fr' zV l'=some (jx,lV,l5):=by
 rw [ev] at h
 split at h
 · cases h
 · rename_i d bZ
   split at h
   · cases h
   · rename_i af
     split at h
     · rename_i Ap
       split at h
       · rename_i v dL l' aB
         have he:=(xK (UM h)).1
         exact ⟨d,v,dL,_,_,_,⟨bZ,.inl ⟨D_ Ap,Rl (cur:=[]) gu fp I di trivial aB he⟩⟩,I.put af,xQ di,h⟩
       · cases h
     · rename_i j want Ap
       split at h
       · cases h
       · rename_i dW Am
         have HD:=alP Am
         split at h
         · cases h
         · rename_i x6
           split at h
           · rename_i dL
             split at h
             · cases h
             · rename_i eN
               split at h
               · rename_i v uL l' aB
                 have he:=(xK (UM h)).1
                 have H2:dW≠d:=fun e=>by rw [e] at eN;simp at eN
                 by_cases LY:a.tmps.getD dW undef= .bool want
                 · refine ⟨d,v,uL,_,_,_,⟨bZ,.inl ⟨(ag6 I Ap HD x6).2 LY,Rl (cur:=[(dW,want)]) gu fp I di ⟨LY,trivial⟩ aB he⟩⟩,I.agA,(show mE (a.put (some d) v) (⟨d,dW,want,v⟩::rS gs d) from ⟨fun _=>aGV I.size af,xQ di⟩),h⟩
                 · refine ⟨d,undef,uL,_,_,_,⟨bZ,.inr ⟨by rw [Bool.eq_false_iff];exact fun hw=>LY ((ag6 I Ap HD x6).1 hw),rfl⟩⟩,I.agA,(show mE (a.put (some d) undef) (⟨d,dW,want,v⟩::rS gs d) from ⟨fun aj=>?_,xQ di⟩),h⟩
                   simp only at aj
                   rw [Nb H2] at aj
                   exact absurd aj LY
               · cases h
           · rename_i q dL ea
             split at h
             · rename_i b aY
               split at h
               · rename_i uv
                 have uv:b=want:=by simpa using uv
                 subst uv
                 split at h
                 · rename_i v uL l' aB
                   have he:=(xK (UM h)).1
                   exact ⟨d,v,uL,_,_,_,⟨bZ,.inl ⟨cS I Ap HD aY x6,Rl (cur:=[]) gu fp I di trivial aB he⟩⟩,I.put af,xQ di,h⟩
                 · cases h
               · rename_i uv
                 exact ⟨d,undef,dL,_,_,_,⟨bZ,.inr ⟨aIs I Ap HD aY uv x6,rfl⟩⟩,I.put af,xQ di,h⟩
             · rename_i aY
               exact ⟨d,undef,dL,_,_,_,⟨bZ,.inr ⟨aIt I Ap HD aY x6,rfl⟩⟩,I.put af,xQ di,h⟩
             · cases h
           · cases h
theorem xM {jx:List (Nat × Value)} {lV:List hv} {l5:List (Nat × Nat)} (cV:nD l5):∀ {os:List Oper} {a6:List Nat} {b5:List (Nat × Value)} {gs:List hv} {l:List (Nat × Nat)},ev G ops n M os a6 b5 gs l=some (jx,lV,l5)->nD l
 | [],a6,b5,gs,l,h=>by
   simp only [ev,Option.some.injEq,Prod.mk.injEq] at h
   rw [h.2.2];exact cV
 | o::rest,a6,b5,gs,l,h=>by
   rw [ev] at h
   split at h
   · cases h
   · split at h
     · cases h
     · split at h
       · split at h
         · exact (xK (xM cV h)).2
         · cases h
       · split at h
         · cases h
         · split at h
           · cases h
           · split at h
             · split at h
               · cases h
               · split at h
                 · exact (xK (xM cV h)).2
                 · cases h
             · split at h
               · split at h
                 · split at h
                   · exact (xK (xM cV h)).2
                   · cases h
                 · exact xM cV h
               · exact xM cV h
               · cases h
             · cases h
theorem agO {w:World} {Q:Exit->Act->World->Prop} (gu:sc P G) (fp:jd w M) {jx:List (Nat × Value)} {lV:List hv} {l5:List (Nat × Nat)} (cV:nD l5):∀ (k:Nat) {rest:List Oper} {a6:List Nat} {b5:List (Nat × Value)} {gs:List hv} {l:List (Nat × Nat)} {a:Act},
 Fr n b5 a->mE a gs->ev G ops n M (rest.take k) a6 b5 gs l=some (jx,lV,l5)->(∀ bM,Fr n jx bM->wpList P ops Q (rest.drop k) bM w)->wpList P ops Q rest a w
 | 0,rest,a6,b5,gs,l,a,I,_,h,bh=>by
   simp only [List.take_zero,ev,Option.some.injEq,Prod.mk.injEq] at h
   have:=bh a (by rw [<-h.1];exact I)
   simpa using this
 | k+ 1,[],a6,b5,gs,l,a,I,_,h,bh=>by
   simp only [List.take_nil,ev,Option.some.injEq,Prod.mk.injEq] at h
   have:=bh a (by rw [<-h.1];exact I)
   simpa using this
 | k+ 1,o::rest,a6,b5,gs,l,a,I,di,h,bh=>by
   rw [List.take_succ_cons] at h
   obtain ⟨d,u,dL,fr',zV,l',⟨bZ,x'⟩,eX,uD,dN⟩:=Rm (C:=fun aF=>aF=w) gu (fun aF e=>by subst e;exact fp) I di h cV (xM cV)
   have next:=agO gu fp cV k eX uD dN (by simpa using bh)
   refine wpList_step fun K hz=>?_
   rcases x' with ⟨hw,hy,_⟩ | ⟨hw,rfl⟩
   · rw [if_pos hw]
     unfold Oper.wp
     rw [show (execOp a.eval o).run P w=_ from hy w rfl]
     show K (a.put o.dst u) w
     rw [bZ]
     exact hz _ _ next
   · rw [if_neg (by simp [hw]),bZ]
     exact hz _ _ next
theorem agl {nu:Act->Prop} (gu:sc P G) (fp:∀ w,C w->jd w M) {jx:List (Nat × Value)} {lV:List hv} {l5:List (Nat × Nat)} (cV:nD l5):∀ (k:Nat) {rest:List Oper} {a6:List Nat} {b5:List (Nat × Value)} {gs:List hv} {l:List (Nat × Nat)} {a:Act},
 Fr n b5 a->mE a gs->ev G ops n M (rest.take k) a6 b5 gs l=some (jx,lV,l5)->(∀ bM,Fr n jx bM->wpQuiet P ops C nu (rest.drop k) bM)->wpQuiet P ops C nu rest a
 | 0,rest,a6,b5,gs,l,a,I,_,h,bh=>by
   simp only [List.take_zero,ev,Option.some.injEq,Prod.mk.injEq] at h
   have:=bh a (by rw [<-h.1];exact I)
   simpa using this
 | k+ 1,[],a6,b5,gs,l,a,I,_,h,bh=>by
   simp only [List.take_nil,ev,Option.some.injEq,Prod.mk.injEq] at h
   have:=bh a (by rw [<-h.1];exact I)
   simpa using this
 | k+ 1,o::rest,a6,b5,gs,l,a,I,di,h,bh=>by
   rw [List.take_succ_cons] at h
   obtain ⟨d,u,dL,fr',zV,l',⟨bZ,x'⟩,eX,uD,dN⟩:=Rm (C:=C) gu fp I di h cV (xM cV)
   have next:=agl gu fp cV k eX uD dN (by simpa using bh)
   unfold wpQuiet
   rcases x' with ⟨hw,hy,_⟩ | ⟨hw,rfl⟩
   · rw [if_pos hw]
     refine ⟨u,fun w hc=>?_,?_⟩
     · unfold Oper.quietAt
       rw [show (execOp a.eval o).run P w=_ from hy w hc]
       exact ⟨rfl,rfl⟩
     · rw [bZ];exact next
   · rw [if_neg (by simp [hw]),bZ]
     exact next
theorem Rn {os:List Oper} {a6:List Nat} {b5:List (Nat × Value)} {dz:List Nat} {k:List (Nat × Value)} {L:List (Nat × Nat)} (h:kj G ops n M os a6 b5 dz=some (k,L)):∃ jx lV,ev G ops n M os a6 b5 [] []=some (jx,lV,L)/\Jf jx k:=by
 unfold kj at h
 split at h
 · rename_i fr' zV l aB
   split at h
   · rename_i k' aR
     simp only [Option.some.injEq,Prod.mk.injEq] at h
     obtain ⟨rfl,rfl⟩:=h
     exact ⟨fr',zV,aB,Rg aR⟩
   · cases h
 · cases h
theorem hh (k:Nat) (dz a6:List Nat) {w:World} {Q:Exit->Act->World->Prop} {rest:List Oper} {b5 fr':List (Nat × Value)} {L:List Nat} {a:Act} (gu:sc P G) (fp:jd w M) (I:Fr n b5 a) (he:kj G ops n M (rest.take k) a6 b5 dz=some (fr',dup L))
 (next:∀ bM,Fr n fr' bM->wpList P ops Q (rest.drop k) bM w):wpList P ops Q rest a w:=by
 obtain ⟨jx,lV,aB,aR⟩:=Rn he
 exact agO (gs:=[]) gu fp (LA L) k I trivial aB fun bM eX=>next bM (eX.sub aR)
theorem agk (k:Nat) (dz a6:List Nat) {nu:Act->Prop} {rest:List Oper} {b5 fr':List (Nat × Value)} {L:List Nat} {a:Act} (gu:sc P G) (fp:∀ w,C w->jd w M) (I:Fr n b5 a) (he:kj G ops n M (rest.take k) a6 b5 dz=some (fr',dup L))
 (next:∀ bM,Fr n fr' bM->wpQuiet P ops C nu (rest.drop k) bM):wpQuiet P ops C nu rest a:=by
 obtain ⟨jx,lV,aB,aR⟩:=Rn he
 exact agl (gs:=[]) gu fp (LA L) k I trivial aB fun bM eX=>next bM (eX.sub aR)
end
def Dp:List Nat->Nat->Bool
 | [],_=>false
 | i::r,j=>Nat.beq i j || Dp r j
section
variable {P:Program} {ops:Array Oper} {Q:Exit->Act->World->Prop} {md:Region.Mode} {S:World->Prop} {p:Nat}
def vQ (P:Program) (md:Region.Mode) (ops:Array Oper) (Q:Exit->Act->World->Prop) (p:Nat) (S:World->Prop):Nat->Array Bool->Act->World->Prop
 | 0,listed,a,w=>Region.ready md ops listed= []/\Q .normal a w
 | iG+ 1,listed,a,w=>
   (Region.ready md ops listed= []->Q .normal a w) /\
   ∀ i ∈ Region.ready md ops listed,wpOp P ops Q i (fun bM aF=>((listed.setIfInBounds i true).getD p false=false->S aF)/\vQ P md ops Q p S iG (listed.setIfInBounds i true) bM aF) a w
theorem ahd:∀ (iG:Nat) (listed:Array Bool) (a:Act) (w:World),vQ P md ops Q p S iG listed a w->wpAny P md ops Q iG listed a w
 | 0,_,_,_,h=>h
 | iG+ 1,_,_,_,h=>⟨h.1,fun i hi=>wpOp_mono (fun bM aF dN=>ahd iG _ bM aF dN.2) (h.2 i hi)⟩
theorem agK {Dw:Array Bool} {i p:Nat} (h:Dw.getD p false=true):(Dw.setIfInBounds i true).getD p false=true:=by
 simp only [Array.getD_eq_getD_getElem?,Array.getElem?_setIfInBounds] at h ⊢
 split
 · rename_i e
   subst e
   split
   · rfl
   · rename_i dP
     rw [Array.getElem?_eq_none (by omega)] at h
     cases h
 · exact h
theorem ahc {II:Nat} {Qs:World->Prop}:∀ (iG:Nat) (listed:Array Bool) (a:Act) (w:World),listed.getD p false=true->vQ P md ops Q II Qs iG listed a w->vQ P md ops Q p S iG listed a w
 | 0,_,_,_,_,h=>h
 | iG+ 1,_,_,_,b0,h=>⟨h.1,fun i hi=>wpOp_mono (fun bM aF dN=>⟨fun I=>absurd ((agK b0).symm.trans I) (by simp),ahc iG _ bM aF (agK b0) dN.2⟩) (h.2 i hi)⟩
def xG:List Oper->Nat->Nat->List Nat->List Nat
 | [],_,_,acc=>acc
 | o::r,k,i,acc=>xG r (k+ 1) i (match o.after.toList.any fun e=>Region.binds .any e && (Nat.beq e.on i || Dp acc e.on) with | true=>k::acc | false=>acc)
theorem aeV {l:List Nat} {j:Nat} (h:Dp l j=true):j ∈ l:=by
 induction l with
 | nil=>simp [Dp] at h
 | cons i r ct=>
   simp only [Dp,Bool.or_eq_true] at h
   rcases h with h | h
   · rw [Nat.eq_of_beq_eq_true h];simp
   · exact List.mem_cons_of_mem _ (ct h)
def KC (ops:Array Oper) (i:Nat) (xf:List Nat):Prop:=∀ u ∈ xf,∃ o,ops[u]? =some o/\ ∃ e ∈ o.after,Region.binds .any e=true/\(e.on=i\/e.on ∈ xf)
theorem acS {ops:Array Oper} {i:Nat}:∀ {l:List Oper} {k:Nat} {acc:List Nat},(∀ m o,l[m]? =some o->ops[k+m]? =some o)->KC ops i acc->KC ops i (xG l k i acc)
 | [],_,_,_,h=>h
 | o::r,k,acc,az,h=>by
   rw [xG]
   refine acS (fun m lC hm=>by have:=az (m+ 1) lC (by simpa using hm);rwa [show k+(m+ 1)=k+ 1 +m by omega] at this) ?_
   split
   · rename_i aY
     intro u hu
     rcases List.mem_cons.1 hu with rfl | hu
     · simp only [List.any_eq_true,Bool.and_eq_true,Bool.or_eq_true] at aY
       obtain ⟨e,he,aB,aR⟩:=aY
       refine ⟨o,by simpa using az 0 o rfl,e,by simpa using he,aB,?_⟩
       rcases aR with aR | aR
       · exact .inl (Nat.eq_of_beq_eq_true aR)
       · exact .inr (List.mem_cons_of_mem _ (aeV aR))
     · obtain ⟨lC,H3,e,he,aB,aR⟩:=h u hu
       exact ⟨lC,H3,e,he,aB,aR.imp id (List.mem_cons_of_mem _)⟩
   · exact h
def YZ (ops:Array Oper) (p i:Nat) (ds:List Nat):Bool:=(match nth ops.toList p with
 | none=>true
 | some _=>Dp (xG ops.toList 0 i []) p) && (xG ops.toList 0 i []).all fun u=>!(hF ops.size ds).getD u false
theorem Y0 {ops:Array Oper} {p i:Nat} {ds:List Nat} (h:YZ ops p i ds=true):KC ops i (xG ops.toList 0 i [])/\(ops[p]? =none\/p ∈ xG ops.toList 0 i [])/\ ∀ u ∈ xG ops.toList 0 i [],(hF ops.size ds).getD u false=false:=by
 unfold YZ at h
 rw [Bool.and_eq_true] at h
 refine ⟨acS (fun m o hm=>by simpa using hm) (fun u hu=>by simp at hu),?_,fun u hu=>?_⟩
 · have aB:=h.1
   rw [s3,Array.getElem?_toList] at aB
   split at aB
   · rename_i af;exact .inl af
   · exact .inr (aeV aB)
 · have:=List.all_eq_true.1 h.2 u hu
   simpa using this
theorem aIv {i:Nat} {aC:Oper} {v:Value} (hi:ops[i]? =some aC) (If:∀ (j:Nat) (o:Oper) cs b,ops[j]? =some o->o.op≠ .select cs b) (uJ:p≠i)
 (gw:∀ c a w,Q (.panic c) (a.put aC.dst v) w->Q (.panic c) a w) {xf:List Nat} (apq:KC ops i xf) (aAv:ops[p]? =none\/p ∈ xf) :
 ∀ (iG:Nat) (listed:Array Bool) (a:Act) (w:World),
   (∀ j j3,ops[j]? =some j3->j≠i->listed.getD j true=false->(∀ e ∈ j3.after,Region.binds .any e=true->e.on≠i)->aC.apart ops j3=true) ->
   listed.getD p false=false->(∀ u ∈ xf,listed.getD u false=false)->i ∈ Region.ready .any ops listed->YieldsIf P ops S aC v a->S w ->
   vQ P .any ops Q p S iG (listed.setIfInBounds i true) (a.put aC.dst v) w->vQ P .any ops Q p S (iG+ 1) listed a w:=by
 intro iG
 induction iG with
 | zero=>
   intro listed a w _ _ _ bQ hy iI H
   refine ⟨fun h=>(by rw [h] at bQ;cases bQ),fun j bb=>?_⟩
   by_cases ja:j=i
   · subst ja;exact hy.wpOp hi iI ⟨fun _=>iI,H⟩
   · have:=ready_mono bb ja
     rw [H.1] at this
     cases this
 | succ iG ct=>
   intro listed a w HF nN ya bQ hy iI H
   refine ⟨fun h=>(by rw [h] at bQ;cases bQ),fun j bb=>?_⟩
   by_cases ja:j=i
   · subst ja;exact hy.wpOp hi iI ⟨fun _=>iI,H⟩
   · have aB:=H.2 j (ready_mono bb ja)
     obtain ⟨HV,j3,uI,oQ⟩:=mem_ready.1 bb
     have AA:∀ e ∈ j3.after,Region.binds .any e=true->e.on≠i:=fun e he aY heq=>by
      have aB:=oQ e he aY
      have bJ:=(mem_ready.1 bQ).1
      rw [heq] at aB
      rcases Nat.lt_or_ge i listed.size with dN | dN
      · simp [dN] at bJ aB;rw [bJ] at aB;cases aB
      · simp [Array.getElem?_eq_none dN] at aB
     have aeg:j ∉ xf:=fun UG=>by
      obtain ⟨lC,H3,e,he,aY,aR⟩:=apq j UG
      rw [uI] at H3
      simp only [Option.some.injEq] at H3
      subst H3
      rcases aR with aR | aR
      · exact AA e he aY aR
      · have bT:=oQ e he aY
        rw [ya _ aR] at bT
        cases bT
     have aeh:j≠p:=fun e=>by
      subst e
      rcases aAv with h | h
      · rw [uI] at h;cases h
      · exact aeg h
     have aCB:∀ u ∈ xf,(listed.setIfInBounds j true).getD u false=false:=fun u hu=>by
      have:=ya u hu
      have eN:j≠u:=fun e=>aeg (e ▸ hu)
      simp only [Array.getD_eq_getD_getElem?,Array.getElem?_setIfInBounds,if_neg eN] at this ⊢
      exact this
     have UT:(listed.setIfInBounds j true).getD p false=false:=by
      simp only [Array.getD_eq_getD_getElem?,Array.getElem?_setIfInBounds,if_neg aeh] at nN ⊢
      exact nN
     have ael:((listed.setIfInBounds i true).setIfInBounds j true).getD p false=false:=by
      simp only [Array.getD_eq_getD_getElem?,Array.getElem?_setIfInBounds,if_neg aeh,if_neg (Ne.symm uJ)] at nN ⊢
      exact nN
     have aR:=wpOp_putIf uI (HF j j3 uI ja HV AA) (fun cs b=>If i aC cs b hi) (fun cs b=>If j j3 cs b uI) gw hy aB
     have SD:∀ k ok,ops[k]? =some ok->k≠i->(listed.setIfInBounds j true).getD k true=false ->
      (∀ e ∈ ok.after,Region.binds .any e=true->e.on≠i)->aC.apart ops ok=true:=fun k ok bh UH ya mW=>by
      refine HF k ok bh UH ?_ mW
      by_cases Aw:j=k
      · subst Aw;exact HV
      · rw [getD_set_ne true Aw] at ya;exact ya
     refine wpOp_mono (fun bM aF bT=>⟨fun _=>bT.2.1 ael,ct (listed.setIfInBounds j true) bM aF SD UT aCB (ready_mono bQ (Ne.symm ja)) bT.1 (bT.2.1 ael) ?_⟩) aR
     rw [Array.setIfInBounds_comm _ _ ja]
     exact bT.2.2
theorem ahb {i:Nat} {aC:Oper} {v:Value} (hi:ops[i]? =some aC) (If:∀ (j:Nat) (o:Oper) cs b,ops[j]? =some o->o.op≠ .select cs b) (uJ:p≠i)
 (gw:∀ c a w,Q (.panic c) (a.put aC.dst v) w->Q (.panic c) a w) :
 ∀ (iG:Nat) (listed:Array Bool) (a:Act) (w:World),
   (∀ j j3,ops[j]? =some j3->j≠i->listed.getD j true=false->(∀ e ∈ j3.after,Region.binds .any e=true->e.on≠i)->aC.apart ops j3=true) ->
   (listed.getD p false=false->S w)->i ∈ Region.ready .any ops listed->YieldsIf P ops (fun _=>True) aC v a ->
   vQ P .any ops Q p S iG (listed.setIfInBounds i true) (a.put aC.dst v) w->vQ P .any ops Q p S (iG+ 1) listed a w:=by
 have Ig:∀ (Dw:Array Bool) (b:Bool),(Dw.setIfInBounds i true).getD p b=Dw.getD p b:=fun Dw b=>by
  simp only [Array.getD_eq_getD_getElem?,Array.getElem?_setIfInBounds,if_neg (Ne.symm uJ)]
 intro iG
 induction iG with
 | zero=>
   intro listed a w _ iI bQ hy H
   refine ⟨fun h=>(by rw [h] at bQ;cases bQ),fun j bb=>?_⟩
   by_cases ja:j=i
   · subst ja;exact hy.wpOp hi trivial ⟨fun h=>iI (by rwa [Ig] at h),H⟩
   · have:=ready_mono bb ja
     rw [H.1] at this
     cases this
 | succ iG ct=>
   intro listed a w HF iI bQ hy H
   refine ⟨fun h=>(by rw [h] at bQ;cases bQ),fun j bb=>?_⟩
   by_cases ja:j=i
   · subst ja;exact hy.wpOp hi trivial ⟨fun h=>iI (by rwa [Ig] at h),H⟩
   · have aB:=H.2 j (ready_mono bb ja)
     obtain ⟨HV,j3,uI,oQ⟩:=mem_ready.1 bb
     have AA:∀ e ∈ j3.after,Region.binds .any e=true->e.on≠i:=fun e he aY heq=>by
      have aB:=oQ e he aY
      have bJ:=(mem_ready.1 bQ).1
      rw [heq] at aB
      rcases Nat.lt_or_ge i listed.size with dN | dN
      · simp [dN] at bJ aB;rw [bJ] at aB;cases aB
      · simp [Array.getElem?_eq_none dN] at aB
     have aR:=wpOp_putIf uI (HF j j3 uI ja HV AA) (fun cs b=>If i aC cs b hi) (fun cs b=>If j j3 cs b uI) gw hy aB
     have SD:∀ k ok,ops[k]? =some ok->k≠i->(listed.setIfInBounds j true).getD k true=false ->
      (∀ e ∈ ok.after,Region.binds .any e=true->e.on≠i)->aC.apart ops ok=true:=fun k ok bh UH ya mW=>by
      refine HF k ok bh UH ?_ mW
      by_cases Aw:j=k
      · subst Aw;exact HV
      · rw [getD_set_ne true Aw] at ya;exact ya
     have adF:∀ aF,(((listed.setIfInBounds i true).setIfInBounds j true).getD p false=false->S aF)->(listed.setIfInBounds j true).getD p false=false->S aF:=fun aF aj x7=>
      aj (by rw [Array.setIfInBounds_comm _ _ (Ne.symm ja),Ig];exact x7)
     refine wpOp_mono (fun bM aF bT=>⟨adF aF bT.2.1,ct (listed.setIfInBounds j true) bM aF SD (adF aF bT.2.1) (ready_mono bQ (Ne.symm ja)) bT.1 ?_⟩) aR
     rw [Array.setIfInBounds_comm _ _ ja]
     exact bT.2.2
end
def dT (P:Program) (ops:Array Oper) (Q:Exit->Act->World->Prop) (p:Nat) (S:World->Prop) (f:Nat) (ds:List Nat) (a:Act) (w:World):Prop:=((hF ops.size ds).getD p false=false->S w)/\vQ P .any ops (NoPanic Q) p S f (hF ops.size ds) a w
def A1 (ops:List Oper):List Nat->Option (List Oper)
 | []=>some []
 | i::r=>match nth ops i,A1 ops r with
   | some o,some os=>some (o::os)
   | _,_=>none
def af' (ops:Array Oper) (i:Nat):Bool:=match nth ops.toList i with
 | some o=>!Dq o.op
 | none=>false
def D9 (ops:Array Oper) (p:Nat):List Nat->List Nat->Bool
 | _,[]=>true
 | ds,i::r=>N1 ops ds i && (YZ ops p i ds || af' ops i) && !Nat.beq p i && D9 ops p (i::ds) r
def IZ:List Nat->List Nat->List Nat
 | [],ds=>ds
 | i::r,ds=>IZ r (i::ds)
section
variable {P:Program} {G:mu} {ops:Array Oper} {n:ha} {M:List (Nat × Nat × List Value)} {S:World->Prop} {Q:Exit->Act->World->Prop} {a:Act} {w:World} {f p:Nat} {ds:List Nat}
theorem aGn (i:Nat):hF ops.size (i::ds)=(hF ops.size ds).setIfInBounds i true:=rfl
theorem dT.wpAny (h:dT P ops Q p S f ds a w):Go.wpAny P .any ops (NoPanic Q) f (hF ops.size ds) a w:=ahd f _ a w h.2
theorem g1 {id m:Nat} {lo:List Oper} (p:Nat) (S:World->World->Prop) (hm:P.follows .mixedOrders=true) (az:Nat.beq lo.length m=true) (h:∀ aF,a7 [] w aF->dT P lo.toArray Q p (S aF) m [] a aF):(Code.region id lo.toArray true).wp P Q a w:=by
 have az:=Nat.eq_of_beq_eq_true az
 subst az
 exact wp_region_noPanic (wp_region_any hm (h _ (a7.drew [] w)).wpAny)
theorem eU (hc:(Region.ready .any ops (hF ops.size ds)).isEmpty=true) (h:Q .normal a w) (iI:(hF ops.size ds).getD p false=false->S w):dT P ops Q p S f ds a w:=by
 refine ⟨iI,?_⟩
 have bQ:=List.isEmpty_iff.1 hc
 cases f with
 | zero=>exact ⟨bQ,NoPanic.normal h⟩
 | succ f=>exact ⟨fun _=>NoPanic.normal h,by rw [bQ];simp⟩
theorem dT.next (II:Nat) (Qs:World->Prop) (b0:(hF ops.size ds).getD p false=true) (h:dT P ops Q II Qs f ds a w):dT P ops Q p S f ds a w:=
 ⟨fun I=>absurd (b0.symm.trans I) (by simp),ahc f _ a w b0 h.2⟩
theorem aaL (gu:sc P G) (fp:∀ w,S w->jd w M) (oP:S w) {jx:List (Nat × Value)} {lV:List hv} {l5:List (Nat × Nat)} (cV:nD l5):∀ (is:List Nat) {os:List Oper} {a6 ds:List Nat} {b5:List (Nat × Value)} {gs:List hv} {l:List (Nat × Nat)} {a:Act},
 (hF ops.size ds).getD p false=false->A1 ops.toList is=some os->D9 ops p ds is=true->Fr n b5 a->mE a gs->ev G ops n M os a6 b5 gs l=some (jx,lV,l5)->(∀ bM,Fr n jx bM->dT P ops Q p S f (IZ is ds) bM w)->dT P ops Q p S (f+is.length) ds a w
 | [],os,a6,ds,b5,gs,l,a,_,br,_,I,_,h,bh=>by
   simp only [A1,Option.some.injEq] at br
   subst br
   simp only [ev,Option.some.injEq,Prod.mk.injEq] at h
   exact bh a (by rw [<-h.1];exact I)
 | i::is,os,a6,ds,b5,gs,l,a,nN,br,bP,I,di,h,bh=>by
   simp only [A1] at br
   split at br
   · rename_i o aLq aB aR
     simp only [Option.some.injEq] at br
     subst br
     rw [s3,Array.getElem?_toList] at aB
     simp only [D9,Bool.and_eq_true,Bool.not_eq_true'] at bP
     obtain ⟨⟨⟨pH,yc⟩,uJ⟩,aCA⟩:=bP
     have H4:p≠i:=fun e=>by rw [e] at uJ;simp at uJ
     obtain ⟨d,u,dL,fr',zV,l',⟨bZ,x'⟩,eX,uD,dN⟩:=Rm (C:=S) gu fp I di h cV (xM cV)
     have UT:(hF ops.size (i::ds)).getD p false=false:=by
      rw [aGn]
      simp only [Array.getD_eq_getD_getElem?,Array.getElem?_setIfInBounds,if_neg (Ne.symm H4)] at nN ⊢
      exact nN
     have next:=aaL gu fp oP cV is UT aR aCA eX uD dN bh
     simp only [N1,Bool.and_eq_true] at pH
     refine ⟨fun _=>oP,?_⟩
     have:=next.2
     rw [show f+(i::is).length=f+is.length+ 1 by simp [Nat.add_assoc]]
     rw [Bool.or_eq_true] at yc
     rcases yc with yc | UO
     · refine aIv (v:=u) aB (Region.noSelect_spec pH.1.1) H4 (fun c a w h=>h) (Y0 yc).1 (Y0 yc).2.1 (f+is.length) _ a w (Region.free_spec aB pH.1.2) nN (Y0 yc).2.2 (by simpa using pH.2) (x'.imp (fun ⟨x,y,_⟩=>⟨x,y⟩) id) oP ?_
       rw [bZ]
       exact this
     · have aAp:Dq o.op=false:=by
        unfold af' at UO
        rw [s3,Array.getElem?_toList,aB] at UO
        simpa using UO
       refine ahb (v:=u) aB (Region.noSelect_spec pH.1.1) H4 (fun c a w h=>h) (f+is.length) _ a w (Region.free_spec aB pH.1.2) (fun _=>oP) (by simpa using pH.2) (x'.imp (fun ⟨x,_,y⟩=>⟨x,fun w _=>y aAp w⟩) id) ?_
       rw [bZ]
       exact this
   · cases br
theorem aiC (is:List Nat) (k:Nat) (dz a6:List Nat) {os:List Oper} {b5 fr':List (Nat × Value)} {L:List Nat} (gu:sc P G) (fp:∀ w,S w->jd w M) (I:Fr n b5 a) (bh:Nat.beq is.length k=true) (nN:(hF ops.size ds).getD p false=false) (hi:A1 ops.toList is=some os) (bP:D9 ops p ds is=true)
 (he:kj G ops n M os a6 b5 dz=some (fr',dup L)) (oP:S w) (next:∀ bM,Fr n fr' bM->dT P ops Q p S f (IZ is ds) bM w):dT P ops Q p S (f+k) ds a w:=by
 have bh:=Nat.eq_of_beq_eq_true bh
 subst bh
 obtain ⟨jx,lV,aB,aR⟩:=Rn he
 exact aaL (gs:=[]) gu fp oP (LA L) is nN hi bP I trivial aB fun bM eX=>next bM (eX.sub aR)
theorem cy (i:Nat) {o:Oper} (hi:ops[i]? =some o) (hc:(Region.ready .any ops (hF ops.size ds) == [i])=true) (iI:(hF ops.size ds).getD p false=false->S w) (h:wpList P ops (B6 (dT P ops Q p S f (i::ds)) (NoPanic Q)) [o] a w):dT P ops Q p S (f+ 1) ds a w:=by
 have bQ:=eq_of_beq hc
 refine ⟨iI,⟨fun bJ=>(by rw [bQ] at bJ;cases bJ),fun j bb=>?_⟩⟩
 rw [bQ] at bb
 have:j=i:=by simpa using bb
 subst this
 exact Y2 hi h
theorem KI (i j:Nat) {o lC:Oper} (hi:ops[i]? =some o) (bb:ops[j]? =some lC) (hc:(Region.ready .any ops (hF ops.size ds) == [i,j])=true) (iI:(hF ops.size ds).getD p false=false->S w) (h:wpList P ops (B6 (dT P ops Q p S f (i::ds)) (NoPanic Q)) [o] a w)
 (dN:wpList P ops (B6 (dT P ops Q p S f (j::ds)) (NoPanic Q)) [lC] a w):dT P ops Q p S (f+ 1) ds a w:=by
 have bQ:=eq_of_beq hc
 refine ⟨iI,⟨fun bJ=>(by rw [bQ] at bJ;cases bJ),fun q ea=>?_⟩⟩
 rw [bQ] at ea
 have:q=i\/q=j:=by simpa using ea
 rcases this with rfl | rfl
 · exact Y2 hi h
 · exact Y2 bb dN
theorem cq (h:dT P ops Q p S f ds a w):wpList P ops (B6 (dT P ops Q p S f ds) (NoPanic Q)) [] a w:=h
end
end a2
namespace a2
open Go Go.RowKit J
theorem QD (p q:List UInt8):((⟨⟨p⟩⟩:ByteArray) == ⟨⟨q⟩⟩)=decide (p=q):=by
 show ((⟨p⟩:Array UInt8) == ⟨q⟩)=_
 rw [Bool.eq_iff_iff];simp
structure tr (κ:Type) [DecidableEq κ] where
 enc:κ->Value
 desc:TypeDesc
 same:∀ a b,Instr.sameNow desc (enc a) (enc b)=some (decide (b=a))
 bits:∀ a,Instr.sameBits 10000 (enc a) (enc a)=true
 check:∀ (P:Program) (w:World) (e:Bool) (t:TypeId) (a:κ),P.underlying t=some desc->(Instr.checkKey e 10000 t (enc a)).run P w= .ok () w
def ff:tr Int where
 enc n:=.int .i64 n
 desc:=.int .i64
 same a b:=by
  simp only [Instr.sameNow,if_true,Option.some.injEq]
  rw [Bool.eq_iff_iff]
  simp only [beq_iff_eq,decide_eq_true_iff]
  exact eq_comm
 bits a:=by
  have h:∀ n,Instr.sameBits n (.int .i64 a) (.int .i64 a)=true:=fun n=>by cases n <;> simp [Instr.sameBits]
  exact h 10000
 check P w e t a h:=by
  have dN:∀ n:Nat,(Instr.checkKey e (n+ 1) t (.int .i64 a)).run P w= .ok () w:=fun n=>by simp [Instr.checkKey,run_underlying h]
  exact dN 9999
def dt:tr (List UInt8) where
 enc s:=ao s
 desc:=.string
 same a b:=by
  simp only [Instr.sameNow,Option.some.injEq]
  have e:decide (a=b)=decide (b=a):=by rw [decide_eq_decide];exact eq_comm
  exact (QD a b).trans e
 bits a:=by
  have h:∀ n,Instr.sameBits n (ao a) (ao a)=true:=fun n=>by
   have e:((⟨⟨a⟩⟩:ByteArray) == ⟨⟨a⟩⟩)=true:=(QD a a).trans (by simp)
   cases n <;> (simp only [Instr.sameBits];exact e)
  exact h 10000
 check P w e t a h:=by
  have dN:∀ n:Nat,(Instr.checkKey e (n+ 1) t (ao a)).run P w= .ok () w:=fun n=>by simp [Instr.checkKey,run_underlying h]
  exact dN 9999
section
variable {κ β:Type} [DecidableEq κ] (K:tr κ) (ev:β->Value)
def iA (es:List MapEntry) (d:List (κ × β)):Prop:=es.map (fun e=>(e.key,e.val))=d.map (fun p=>(K.enc p.1,ev p.2))
def sd (w:World) (r:Nat) (d:List (κ × β)):Prop:=∃ es clock,w.heap[r]? =some (.map es clock)/\iA K ev es.toList d/\(es.toList.map (·.born)).Pairwise (· < ·)/\ ∀ e ∈ es.toList,e.born <clock
def ap.map (r:Nat) (d:List (κ × β)):ap where
 fH:=[r]
 ok w:=sd K ev w r d
 law w aF h bh:=by
  obtain ⟨es,c,aB,aR⟩:=bh
  exact ⟨es,c,(h r (by simp)).trans aB,aR⟩
def ak.map (r:Nat) (d:List (κ × β)):ak where
 ok M w:=r ∉ M/\r <w.heap.size/\sd K ev w r d
 law M iB w aF ad hm h:=by
  obtain ⟨aB,aR,es,c,bT,eo⟩:=h
  exact ⟨fun aj=>by rcases hm r aj with e | e;exact aB e;omega,Nat.lt_of_lt_of_le aR ad.size,es,c,(ad.block r aR aB).trans bT,eo⟩
end
section
variable {κ β:Type} [DecidableEq κ] {K:tr κ} {ev:β->Value}
theorem ade {k:κ}:∀ {es:List MapEntry} {d:List (κ × β)} (i:Nat),iA K ev es d->Instr.findNow K.desc (K.enc k) es i=some ((kR d k).bind fun p=>(du d k).map fun v=>(i+p,ev v))
 | [],[],i,_=>rfl
 | [],_::_,_,h=>by simp [iA] at h
 | _::_,[],_,h=>by simp [iA] at h
 | e::es,p::d,i,h=>by
   simp only [iA,List.map_cons,List.cons.injEq,Prod.mk.injEq] at h
   obtain ⟨⟨aB,aR⟩,bT⟩:=h
   simp only [Instr.findNow,aB,K.same,kR,du]
   by_cases b0:p.1 =k
   · simp [b0,aR]
   · simp only [b0,decide_false,if_false]
     rw [ade (i+ 1) bT]
     cases hm:kR d k with
     | none=>rfl
     | some q=>simp only [Option.bind_some,Option.map_some];rw [show i+ 1 +q=i+(q+ 1) by omega]
theorem M2 {k:κ}:∀ {d:List (κ × β)},(kR d k).isSome=(du d k).isSome
 | []=>rfl
 | p::d=>by
   simp only [kR,du]
   by_cases b0:p.1 =k
   · simp [b0]
   · simp [b0,M2]
variable {P:Program} {o:Oper} {a:Act} {w:World} {x y z:Operand} {t l3 xL:TypeId} {r:Nat} {d:List (κ × β)} {k:κ} {v:β}
theorem run_findKey {es:Array MapEntry} (bh:P.underlying l3=some K.desc) (he:iA K ev es.toList d):(Instr.findKey l3 (K.enc k) es.toList).run P w= .ok ((kR d k).bind fun p=>(du d k).map fun v=>(p,ev v)) w:=by
 have h:=ade (k:=k) 0 he
 simp only [Nat.zero_add] at h
 simp only [Instr.findKey,Sem.run_bind,run_underlying bh,Result.andThen_ok,h]
 rfl
theorem aJH (br:o.op= .makeMap t none):cf P o a w (.map (some w.heap.size)) (w.alloc (.map #[] 0)):=by
 simp only [cf,execOp,br,Sem.run_bind]
 rfl
theorem aGh (w:World):(ap.map K ev w.heap.size ([]:List (κ × β))).ok (w.alloc (.map #[] 0)):=⟨#[],0,heap_alloc_new w _,rfl,by simp,by simp⟩
theorem JS {JU:β} (bP:P.underlying t=some (.map l3 xL)) (bh:P.underlying l3=some K.desc) (cV:∀ w,(zeroValue xL).run P w= .ok (ev JU) w) (hm:sd K ev w r d) (br:o.op= .lookup t x y true) (aj:a.eval x= .map (some r)) (hy:a.eval y=K.enc k) :
 cf P o a w (.tuple #[ev ((du d k).getD JU),.bool (du d k).isSome]) w:=by
 obtain ⟨es,clock,aB,aR,_⟩:=hm
 have I:=run_findKey (P:=P) (w:=w) (k:=k) bh aR
 simp only [cf,execOp,br,aj,hy,Instr.lookup,Sem.run_bind,Sem.run_pure,run_underlying bP,Result.andThen_ok,MapKept.run_getObj_map aB,K.check P w es.isEmpty l3 k bh,I]
 have a6:=M2 (k:=k) (d:=d)
 cases b0:kR d k with
 | none=>
   rw [b0] at a6
   cases di:du d k with
   | none=>
     simp only [Option.bind_none,Sem.run_bind,Sem.run_pure,cV,Result.andThen_ok]
     rfl
   | some u=>rw [di] at a6;cases a6
 | some p=>
   rw [b0] at a6
   cases di:du d k with
   | none=>rw [di] at a6;cases a6
   | some u=>rfl
theorem JR {JU:β} (bP:P.underlying t=some (.map l3 xL)) (bh:P.underlying l3=some K.desc) (cV:∀ w,(zeroValue xL).run P w= .ok (ev JU) w) (hm:sd K ev w r d) (br:o.op= .lookup t x y false) (aj:a.eval x= .map (some r)) (hy:a.eval y=K.enc k) :
 cf P o a w (ev ((du d k).getD JU)) w:=by
 obtain ⟨es,clock,aB,aR,_⟩:=hm
 have I:=run_findKey (P:=P) (w:=w) (k:=k) bh aR
 simp only [cf,execOp,br,aj,hy,Instr.lookup,Sem.run_bind,Sem.run_pure,run_underlying bP,Result.andThen_ok,MapKept.run_getObj_map aB,K.check P w es.isEmpty l3 k bh,I]
 have a6:=M2 (k:=k) (d:=d)
 cases b0:kR d k with
 | none=>
   rw [b0] at a6
   cases di:du d k with
   | none=>
     simp only [Option.bind_none,Sem.run_bind,Sem.run_pure,cV,Result.andThen_ok]
     rfl
   | some u=>rw [di] at a6;cases a6
 | some p=>
   rw [b0] at a6
   cases di:du d k with
   | none=>rw [di] at a6;cases a6
   | some u=>rfl
theorem Zo (bP:P.underlying t=some (.map l3 xL)) (hm:sd K ev w r d) (br:o.op= .call { callee:=.builtin .len,args:=#[x],argTypes:=#[t] }) (aj:a.eval x= .map (some r)):cf P o a w (.int .i64 (d.length:Int)) w:=by
 obtain ⟨es,clock,aB,aR,_⟩:=hm
 have az:es.size=d.length:=by
  have:=congrArg List.length aR
  simpa using this
 simp only [cf,execOp,br,resolve,invoke,List.map_toArray,List.map_cons,List.map_nil,aj]
 simp [go_sem,Builtin.len_,run_underlying bP,goInt,MapKept.run_getObj_map aB,az]
theorem ac3 {k:κ} {v:β}:∀ {es:List MapEntry} {d:List (κ × β)} {p:Nat},iA K ev es d->kR d k=some p->iA K ev (es.modify p fun e=>{ e with key:=K.enc k,val:=ev v }) (hO d k v)
 | [],[],_,_,b0=>by simp [kR] at b0
 | [],_::_,_,h,_=>by simp [iA] at h
 | _::_,[],_,h,_=>by simp [iA] at h
 | e::es,q::d,p,h,b0=>by
   simp only [iA,List.map_cons,List.cons.injEq,Prod.mk.injEq] at h
   obtain ⟨⟨aB,aR⟩,bT⟩:=h
   simp only [kR] at b0
   by_cases ea:q.1 =k
   · simp only [ea,if_true,Option.some.injEq] at b0
     subst b0
     simp only [hO,ea,if_true,iA,List.modify_zero_cons,List.map_cons,List.cons.injEq,true_and]
     exact bT
   · simp only [ea,if_false,Option.map_eq_some_iff] at b0
     obtain ⟨II,x7,rfl⟩:=b0
     have:=ac3 (v:=v) bT x7
     simp only [hO,ea,if_false,iA,List.modify_succ_cons,List.map_cons,List.cons.injEq,Prod.mk.injEq,aB,aR,and_self,true_and]
     exact this
theorem ac2 {k:κ} {v:β} {c:Nat}:∀ {es:List MapEntry} {d:List (κ × β)},iA K ev es d->kR d k=none->iA K ev (es++[{ key:=K.enc k,val:=ev v,born:=c }]) (hO d k v)
 | [],[],_,_=>rfl
 | [],_::_,h,_=>by simp [iA] at h
 | _::_,[],h,_=>by simp [iA] at h
 | e::es,q::d,h,b0=>by
   simp only [iA,List.map_cons,List.cons.injEq,Prod.mk.injEq] at h
   obtain ⟨⟨aB,aR⟩,bT⟩:=h
   simp only [kR] at b0
   by_cases ea:q.1 =k
   · simp [ea] at b0
   · simp only [ea,if_false,Option.map_eq_none_iff] at b0
     have:=ac2 (v:=v) (c:=c) bT b0
     simp only [hO,ea,if_false,iA,List.cons_append,List.map_cons,List.cons.injEq,Prod.mk.injEq,aB,aR,and_self,true_and]
     exact this
theorem ac1 {k:κ}:∀ {es:List MapEntry} {d:List (κ × β)} {p:Nat},iA K ev es d->kR d k=some p-> ∃ e,es[p]? =some e/\e.key=K.enc k
 | [],[],_,_,b0=>by simp [kR] at b0
 | [],_::_,_,h,_=>by simp [iA] at h
 | _::_,[],_,h,_=>by simp [iA] at h
 | e::es,q::d,p,h,b0=>by
   simp only [iA,List.map_cons,List.cons.injEq,Prod.mk.injEq] at h
   obtain ⟨⟨aB,aR⟩,bT⟩:=h
   simp only [kR] at b0
   by_cases ea:q.1 =k
   · simp only [ea,if_true,Option.some.injEq] at b0
     subst b0
     exact ⟨e,rfl,by rw [aB,ea]⟩
   · simp only [ea,if_false,Option.map_eq_some_iff] at b0
     obtain ⟨II,x7,rfl⟩:=b0
     simpa using ac1 bT x7
theorem aJI (bP:P.underlying t=some (.map l3 xL)) (bh:P.underlying l3=some K.desc) (hm:sd K ev w r d) (br:o.op= .mapUpdate t x y z\/o.op= .insert t x y z) (aj:a.eval x= .map (some r)) (hy:a.eval y=K.enc k) (cV:a.eval z=ev v) :
 ∃ aF,xg P o a w aF/\a7 [r] w aF/\sd K ev aF r (hO d k v):=by
 obtain ⟨es,clock,aB,aR,bT,eo⟩:=hm
 have I:=run_findKey (P:=P) (w:=w) (k:=k) bh aR
 have a6:=M2 (k:=k) (d:=d)
 have dP:r <w.heap.size:=(Array.getElem?_eq_some_iff.1 aB).1
 have lY:∀ lC:Obj,a7 [r] w { w with heap:=w.heap.setIfInBounds r lC }:=fun lC=>⟨rfl,rfl,rfl,by simp,fun q _ af=>by
  rw [Array.getElem?_setIfInBounds,if_neg (fun e=>af (by simp [e]))]⟩
 cases b0:kR d k with
 | none=>
   rw [b0] at I
   refine ⟨{ w with heap:=w.heap.setIfInBounds r (.map (es.push { key:=K.enc k,val:=ev v,born:=clock }) (clock+ 1)) },?_,lY _,es.push { key:=K.enc k,val:=ev v,born:=clock },clock+ 1,?_,?_,?_,?_⟩
   · rcases br with br | br <;>
     · simp only [xg,execOp,br,aj,hy,cV,Instr.mapUpdate,Sem.run_bind,run_underlying bP,Result.andThen_ok,MapKept.run_getObj_map aB,K.check P w false l3 k bh,I,Option.bind_none,MapKept.run_setObj_map _ aB]
       rfl
   · simp [dP]
   · simpa using ac2 aR b0
   · simp only [Array.toList_push,List.map_append,List.map_cons,List.map_nil,List.pairwise_append]
     refine ⟨bT,by simp,fun b aY c hc=>?_⟩
     obtain ⟨e,he,rfl⟩:=List.mem_map.1 aY
     simp only [List.mem_singleton] at hc
     subst hc
     exact eo e he
   · intro e he
     simp only [Array.toList_push,List.mem_append,List.mem_singleton] at he
     rcases he with he | rfl
     · exact Nat.lt_succ_of_lt (eo e he)
     · exact Nat.lt_succ_self _
 | some p=>
   rw [b0] at I a6
   obtain ⟨e,he,awD⟩:=ac1 (k:=k) aR b0
   cases di:du d k with
   | none=>rw [di] at a6;cases a6
   | some u=>
     rw [di] at I
     have awz:es[p]? =some e:=by simpa using he
     have adI:((es.modify p fun e=>{ e with key:=K.enc k,val:=ev v }).toList.map (·.born))=es.toList.map (·.born):=by
      rw [Array.toList_modify]
      apply List.ext_getElem?
      intro i
      simp only [List.getElem?_map,List.getElem?_modify]
      cases hi:es.toList[i]? with
      | none=>simp
      | some e'=>by_cases azo:p=i <;> simp [azo]
     refine ⟨{ w with heap:=w.heap.setIfInBounds r (.map (es.modify p fun e=>{ e with key:=K.enc k,val:=ev v }) clock) },?_,lY _,es.modify p fun e=>{ e with key:=K.enc k,val:=ev v },clock,?_,?_,?_,?_⟩
     · have azs:(Instr.keyThatStays e.key (K.enc k)).run P w= .ok (K.enc k) w:=by
        rw [awD];simp only [Instr.keyThatStays,K.bits,if_true];rfl
       rcases br with br | br <;>
       · simp only [xg,execOp,br,aj,hy,cV,Instr.mapUpdate,Sem.run_bind,run_underlying bP,Result.andThen_ok,MapKept.run_getObj_map aB,K.check P w false l3 k bh,I,Option.bind_some,Option.map_some,awz,Option.getD_some,azs,MapKept.run_setObj_map _ aB]
         rfl
     · simp [dP]
     · rw [Array.toList_modify];exact ac3 aR b0
     · rw [adI];exact bT
     · intro bL awA
       have:bL.born ∈ es.toList.map (·.born):=by rw [<-adI];exact List.mem_map.2 ⟨bL,awA,rfl⟩
       obtain ⟨b8,awB,heq⟩:=List.mem_map.1 this
       rw [<-heq];exact eo b8 awB
end
end a2
namespace a2
open Go Go.RowKit J
def aaC (E:List ap):Prop:=∀ (i:Nat) (x:ap),E[i]? =some x->x.fH.Nodup/\ ∀ (j:Nat) (y:ap),E[j]? =some y->i≠j-> ∀ k ∈ x.fH,k ∉ y.fH
theorem LH:∀ {E:List ap},(cQ E).Nodup->aaC E
 | [],_=>fun i x h=>by simp at h
 | e::E,h=>by
   have dN:(e.fH++cQ E).Nodup:=by simpa [cQ] using h
   rw [List.nodup_append] at dN
   obtain ⟨aB,aR,bT⟩:=dN
   have ct:=LH aR
   intro i x aj
   cases i with
   | zero=>
     simp only [List.getElem?_cons_zero,Option.some.injEq] at aj
     subst aj
     refine ⟨aB,fun j y hy eN k bh ks=>?_⟩
     cases j with
     | zero=>exact eN rfl
     | succ j=>exact bT k bh k (List.mem_flatMap.2 ⟨y,List.mem_of_getElem? (by simpa using hy),ks⟩) rfl
   | succ i=>
     have aj:E[i]? =some x:=by simpa using aj
     refine ⟨(ct i x aj).1,fun j y hy eN k bh ks=>?_⟩
     cases j with
     | zero=>
       simp only [List.getElem?_cons_zero,Option.some.injEq] at hy
       subst hy
       exact bT k ks k (List.mem_flatMap.2 ⟨x,List.mem_of_getElem? aj,bh⟩) rfl
     | succ j=>exact (ct i x aj).2 j y (by simpa using hy) (by omega) k bh ks
theorem aga:∀ {E:List ap},aaC E->(cQ E).Nodup
 | [],_=>by simp [cQ]
 | e::E,h=>by
   have bL:cQ (e::E)=e.fH++cQ E:=by simp [cQ]
   rw [bL,List.nodup_append]
   refine ⟨(h 0 e rfl).1,aga fun i x aj=>⟨(h (i+ 1) x (by simpa using aj)).1,fun j y hy eN k bh=>(h (i+ 1) x (by simpa using aj)).2 (j+ 1) y (by simpa using hy) (by omega) k bh⟩,fun a bB b aY CY=>?_⟩
   subst CY
   obtain ⟨x,aj,bh⟩:=List.mem_flatMap.1 aY
   obtain ⟨i,hi,rfl⟩:=List.mem_iff_getElem.1 aj
   exact (h 0 e rfl).2 (i+ 1) E[i] (by simp [hi]) (by omega) a bB bh
def D4 (E:List ap):List Nat->Option (List ap)
 | []=>some []
 | i::r=>match nth E i,D4 E r with
   | some x,some xs=>some (x::xs)
   | _,_=>none
def Mp:List Nat->Nat->Bool
 | [],_=>false
 | i::r,j=>Nat.beq i j || Mp r j
def ID:List Nat->Bool
 | []=>true
 | i::r=>!Mp r i && ID r
theorem aFG {l:List Nat} {j:Nat} (h:Mp l j=false):j ∉ l:=by
 induction l with
 | nil=>simp
 | cons i r ct=>
   simp only [Mp,Bool.or_eq_false_iff] at h
   intro hm
   rcases List.mem_cons.1 hm with rfl | e
   · simp at h
   · exact ct h.2 e
theorem af9:∀ {l:List Nat},ID l=true->l.Nodup
 | [],_=>by simp
 | i::r,h=>by
   simp only [ID,Bool.and_eq_true,Bool.not_eq_true'] at h
   exact List.nodup_cons.2 ⟨aFG h.1,af9 h.2⟩
theorem NN {E:List ap}:∀ {is:List Nat} {lL:List ap},D4 E is=some lL-> ∀ (m:Nat) (x:ap),lL[m]? =some x-> ∃ i:Nat,is[m]? =some i/\E[i]? =some x
 | [],lL,h,m,x,aj=>by simp only [D4,Option.some.injEq] at h;subst h;simp at aj
 | i::r,lL,h,m,x,aj=>by
   simp only [D4] at h
   split at h
   · rename_i y ys aB aR
     simp only [Option.some.injEq] at h
     subst h
     cases m with
     | zero=>
       simp only [List.getElem?_cons_zero,Option.some.injEq] at aj
       subst aj
       exact ⟨i,rfl,by rw [<-s3];exact aB⟩
     | succ m=>obtain ⟨q,hH,iy⟩:=NN aR m x (by simpa using aj);exact ⟨q,by simpa using hH,iy⟩
   · cases h
section
variable {W w aF:World} {M0 X:List Nat} {E:List ap} {D:List ak}
theorem aw.k1 (h:aw W M0 X w E D) (is:List Nat) {lL:List ap} (af:ID is=true) (a6:D4 E is=some lL):aw W M0 X w lL D:=by
 have uG:∀ x ∈ lL,x ∈ E:=fun x aj=>by
  obtain ⟨m,hm,rfl⟩:=List.mem_iff_getElem.1 aj
  obtain ⟨i,_,hi⟩:=NN a6 m _ (List.getElem?_eq_getElem hm)
  exact List.mem_of_getElem? hi
 have I:∀ k ∈ cQ lL,k ∈ cQ E:=fun k bh=>by
  obtain ⟨x,aj,Mg⟩:=List.mem_flatMap.1 bh
  exact List.mem_flatMap.2 ⟨x,uG x aj,Mg⟩
 have bZ:=LH h.dW
 have UN:=af9 af
 refine ⟨h.ev,h.l4,fun k bh=>h.lt k (I k bh),fun x aj=>h.ok x (uG x aj),aga fun m x aj=>?_,fun y hy=>y.law _ _ w w (a7.refl _ _) (fun k bh=>.inl ?_) (h.rd y hy)⟩
 · obtain ⟨i,hi,aeE⟩:=NN a6 m x aj
   refine ⟨(bZ i x aeE).1,fun h9 y hy eN k bh=>?_⟩
   obtain ⟨j,bb,aFr⟩:=NN a6 h9 y hy
   refine (bZ i x aeE).2 j y aFr (fun e=>?_) k bh
   subst e
   obtain ⟨l1,bL⟩:=List.getElem?_eq_some_iff.1 hi
   obtain ⟨fO,b8⟩:=List.getElem?_eq_some_iff.1 bb
   rcases Nat.lt_or_gt_of_ne eN with dP | dP
   · exact (List.pairwise_iff_getElem.1 UN m h9 l1 fO dP) (bL.trans b8.symm)
   · exact (List.pairwise_iff_getElem.1 UN h9 m fO l1 dP) (b8.trans bL.symm)
 · rcases List.mem_append.1 bh with e | e
   · exact List.mem_append.2 (.inl e)
   · exact List.mem_append.2 (.inr (I k e))
theorem CR (A B:List ap):cQ (A++B)=cQ A++cQ B:=by simp [cQ]
theorem aw.into (h:aw W M0 X w E D) (m:Nat):aw w (cQ (E.take m)) (X++cQ (E.drop m)) w (E.take m) D:=by
 have gr:cQ E=cQ (E.take m)++cQ (E.drop m):=by rw [<-CR,List.take_append_drop]
 have bZ:=h.dW
 rw [gr,List.nodup_append] at bZ
 refine ⟨a7.refl _ _,fun k bh=>?_,fun k bh=>⟨(h.lt k (by rw [gr];simp [bh])).1,.inl bh⟩,fun x aj=>h.ok x (List.mem_of_mem_take aj),bZ.1,fun y hy=>y.law _ _ w w (a7.refl _ _) (fun k bh=>.inl ?_) (h.rd y hy)⟩
 · rcases List.mem_append.1 bh with e | e
   · refine ⟨Nat.lt_of_lt_of_le (h.l4 k e).1 h.ev.size,fun ks=>?_⟩
     have:=(h.lt k (by rw [gr];simp [ks])).2
     rcases this with b8 | b8
     · exact (h.l4 k e).2 b8
     · have:=(h.l4 k e).1;omega
   · exact ⟨(h.lt k (by rw [gr];simp [e])).1,fun ks=>bZ.2.2 k ks k e rfl⟩
 · rw [gr]
   simp only [List.mem_append] at bh ⊢
   rcases bh with (e | e) | e <;> simp [e]
def Qo:List ak->Prop
 | []=>True
 | y::r=>(∀ M iB w aF,y.ok M w->y.ok iB aF)/\Qo r
theorem aaD:∀ {D:List ak},Qo D-> ∀ y ∈ D,∀ M iB w aF,y.ok M w->y.ok iB aF
 | [],_,y,hy=>by simp at hy
 | z::r,h,y,hy=>by
   rcases List.mem_cons.1 hy with rfl | e
   · exact h.1
   · exact aaD h.2 y e
theorem n2 {α:Type} {T:fc α} (iJ:∀ F zv w aF cs d,T.rd F w cs d->T.rd zv aF cs d) {xs:List Value} {l:List α} (M iB:List Nat) (w aF:World) (h:(ak.rows T xs l).ok M w):(ak.rows T xs l).ok iB aF:=by
 have key:∀ {l:List α} {xs:List Value},fP T (hK M w) w xs l->fP T (hK iB aF) aF xs l:=by
  intro l
  induction l with
  | nil=>intro xs h;exact h
  | cons d r ct=>intro xs h;obtain ⟨cs,ys,rfl,aB,aR⟩:=h;exact ⟨cs,ys,rfl,iJ _ _ _ _ _ _ aB,ct aR⟩
 exact key h
theorem aw.aaN (h:aw W M0 X w E D) (m:Nat) {Qu:List Nat} {sf:List ap} {hj:List ak} (k:aw w (cQ (E.take m)) Qu aF sf hj) (aoz:∀ y ∈ hj,y.ok (X++cQ (sf++E.drop m)) aF):aw W M0 X aF (sf++E.drop m) (hj++D):=by
 have gr:cQ E=cQ (E.take m)++cQ (E.drop m):=by rw [<-CR,List.take_append_drop]
 have bZ:=h.dW
 rw [gr,List.nodup_append] at bZ
 have adE:∀ b ∈ cQ (E.take m),b <w.heap.size/\(b ∈ M0\/W.heap.size<=b):=fun b aY=>h.lt b (by rw [gr];simp [aY])
 have g4:∀ b ∈ cQ (E.drop m),b <w.heap.size/\(b ∈ M0\/W.heap.size<=b):=fun b aY=>h.lt b (by rw [gr];simp [aY])
 have ad:=k.ev
 have RX:∀ b ∈ cQ sf,b ∉ cQ (E.drop m):=fun b aY iK=>by
  rcases (k.lt b aY).2 with e | e
  · exact bZ.2.2 b e b iK rfl
  · have:=(g4 b iK).1;omega
 refine ⟨h.ev.trans ad (fun b aY=>(adE b aY).2),h.l4,fun b aY=>?_,fun x aj=>?_,?_,fun y hy=>?_⟩
 · rw [CR] at aY
   rcases List.mem_append.1 aY with e | e
   · refine ⟨(k.lt b e).1,?_⟩
     rcases (k.lt b e).2 with b8 | b8
     · exact (adE b b8).2
     · exact .inr (Nat.le_trans h.ev.size b8)
   · exact ⟨Nat.lt_of_lt_of_le (g4 b e).1 ad.size,(g4 b e).2⟩
 · rcases List.mem_append.1 aj with e | e
   · exact k.ok x e
   · refine x.law w aF (fun b aY=>?_) (h.ok x (List.mem_of_mem_drop e))
     have iK:b ∈ cQ (E.drop m):=List.mem_flatMap.2 ⟨x,e,aY⟩
     exact ad.block b (g4 b iK).1 (fun bh=>bZ.2.2 b bh b iK rfl)
 · rw [CR,List.nodup_append]
   exact ⟨k.dW,bZ.2.1,fun a bB b aY e=>by subst e;exact RX a bB aY⟩
 · rcases List.mem_append.1 hy with e | e
   · exact aoz y e
   · refine y.law _ _ w aF (ad.mono fun b aY=>?_) (fun b aY=>?_) (h.rd y e)
     · rw [gr];simp [aY]
     · rw [CR] at aY
       rw [gr]
       simp only [List.mem_append] at aY ⊢
       rcases aY with bL | bL | bL
       · simp [bL]
       · rcases (k.lt b bL).2 with b8 | b8
         · simp [b8]
         · exact .inr b8
       · simp [bL]
theorem aw.back (h:aw W M0 X w E D) (m:Nat) {sf:List ap} {hj:List ak} (k:aw w (cQ (E.take m)) (X++cQ (E.drop m)) aF sf hj):aw W M0 X aF (sf++E.drop m) (hj++D):=
 h.aaN m k fun y hy=>y.law _ _ aF aF (a7.refl _ _) (fun b aY=>.inl (by
   rw [CR] at aY
   simp only [List.mem_append] at aY ⊢
   rcases aY with e | e | e <;> simp [e])) (k.rd y hy)
theorem aw.fS (h:aw W M0 X w E D) (m:Nat) {Qu:List Nat} {sf:List ap} {hj:List ak} (bW:Qo hj) (k:aw w (cQ (E.take m)) Qu aF sf hj):aw W M0 X aF (sf++E.drop m) (hj++D):=
 h.aaN m k fun y hy=>aaD bW y hy _ _ _ _ (k.rd y hy)
theorem aw.rA {κ β:Type} [DecidableEq κ] {K:tr κ} {ev:β->Value} {r:Nat} {d:List (κ × β)} (h:aw W M0 X w E D) (i:Nat) (hi:E[i]? =some (ap.map K ev r d)):aw W M0 X w (E.eraseIdx i) (ak.map K ev r d::D):=by
 have aB:=h.Gk i
 have hm:sd K ev w r d:=h.e i hi
 obtain ⟨es,c,aY,AH⟩:=hm
 refine aB.more ⟨?_,(Array.getElem?_eq_some_iff.1 aY).1,es,c,aY,AH⟩
 intro ks
 have bh:r ∈ (ap.map K ev r d).fH:=by simp [ap.map]
 rcases List.mem_append.1 ks with bL | bL
 · have dP:=h.l4 r bL
   rcases (h.lt r (List.mem_flatMap.2 ⟨_,List.mem_of_getElem? hi,bh⟩)).2 with b8 | b8
   · exact dP.2 b8
   · omega
 · obtain ⟨az,aj⟩:=List.getElem?_eq_some_iff.1 hi
   have gr:E=E.take i++E[i]::E.drop (i+ 1):=by simp
   have bZ:=h.dW
   rw [gr,aj] at bZ
   have b8:cQ (E.take i++ap.map K ev r d::E.drop (i+ 1))=cQ (E.take i)++((ap.map K ev r d).fH++cQ (E.drop (i+ 1))):=by simp [cQ]
   rw [b8,List.nodup_append,List.nodup_append] at bZ
   rw [List.eraseIdx_eq_take_drop_succ] at bL
   rcases List.mem_append.1 (by simpa [cQ] using bL:r ∈ cQ (E.take i)++cQ (E.drop (i+ 1))) with dR | dR
   · exact bZ.2.2 r dR r (List.mem_append.2 (.inl bh)) rfl
   · exact bZ.2.1.2.2 r bh r dR rfl
end
section
variable {P:Program} {ops:Array Oper} {Q:Exit->Act->World->Prop} {a:Act} {w:World} {rest:List Oper} {o:Oper} {n:ha} {d:Nat} {l:List (Nat × Value)}
 {W:World} {M0 X:List Nat} {E:List ap} {D:List ak}
theorem aw.aGu {κ β:Type} [DecidableEq κ] (K:tr κ) (ev:β->Value) (hm:aw W M0 X w E D):aw W M0 X (w.alloc (.map #[] 0)) (ap.map K ev w.heap.size ([]:List (κ × β))::E) D:=
 hm.push _ (a7.alloc _ _ _) (aGh w) (fun k bh=>by simp [ap.map] at bh;subst bh;exact ⟨Nat.le_refl _,by simp⟩) (by simp [ap.map])
theorem NY {κ β:Type} [DecidableEq κ] {K:tr κ} {ev:β->Value} {t l3 xL:TypeId} {x y z:Operand} {r:Nat} {m:List (κ × β)} {q:κ} {v:β} (i:Nat) (hm:aw W M0 X w E D) (hi:E[i]? =some (ap.map K ev r m)) (hw:Region.wanted o (yielded ops a.tmps)=true)
 (bP:P.underlying t=some (.map l3 xL)) (bh:P.underlying l3=some K.desc) (br:o.op= .mapUpdate t x y z\/o.op= .insert t x y z) (aj:a.eval x= .map (some r)) (hy:a.eval y=K.enc q) (cV:a.eval z=ev v) (bZ:o.dst=none)
 (k:∀ aF,aw W M0 X aF (E.set i (ap.map K ev r (hO m q v))) D->wpList P ops Q rest a aF):wpList P ops Q (o::rest) a w:=by
 obtain ⟨aF,aB,aR,bT⟩:=aJI bP bh (hm.e i hi) br aj hy cV
 exact N0 hw aB bZ (k aF (hm.vP i hi aR bT (by simp [ap.map]) (fun k bh=>.inl bh)))
end
end a2
namespace a2
open Go Go.RowKit J
section
variable {P:Program} {ops:Array Oper} {Q:Exit->Act->World->Prop} {a:Act} {w:World} {rest:List Oper} {o:Oper} {n:ha} {d:Nat} {l:List (Nat × Value)}
 {W:World} {M0 X:List Nat} {E:List ap} {D:List ak}
theorem aw.jC {α:Type} {e sz g m:Nat} {cs:List Value} (h:aw W M0 X w E D) (i:Nat) (li:List α) (hi:E[i]? =some (ap.bm g e cs)) (az:li.length=m) (hc:Nat.beq cs.length (m*sz)=true) (hm:Nat.ble m 1000000 =true):aw W M0 X w (E.set i (ap.row e sz (.slice (some ⟨g,0,none⟩) m m) li cs)) D:=by
 have aY:w.heap[g]? =some (.cells cs.toArray e (0,0)):=h.e i hi
 have hc:=Nat.eq_of_beq_eq_true hc
 have hm:=Nat.le_of_ble_eq_true hm
 refine h.vP i hi (a7.refl _ _) ?_ (by simp [ap.row,Value.ownBlock]) (fun k bh=>.inl (by simpa [ap.row,Value.ownBlock,ap.bm] using bh))
 show w.ownsRow 0 e sz (.slice (some ⟨g,0,none⟩) m m) li.length cs
 refine ⟨by rw [az];exact hc,.inr ⟨g,m,cs.toArray,by rw [az],Nat.zero_le _,aY,by omega,by simp only [maxLen];omega,by simpa using hc,?_⟩⟩
 rw [az,<-hc,List.take_length]
theorem aw.D1 (h:aw W M0 X w E D) {α:Type} {T:fc α} {xs:List Value} {li:List α} (bQ:fP T (hK (X++cQ E) w) w xs li):aw W M0 X w E (ak.rows T xs li::D):=h.more bQ
theorem NM {α:Type} {T:fc α} {t e:TypeId} {x y:Operand} {z:Value} {bytes m c:Nat} {v:Value} {li ml l':List α} {xs cs:List Value} {b7:Addr} (i:Nat) (hm:aw W M0 X w E D) (hi:E[i]? =some (ap.row e T.size v li xs))
 (iJ:P.underlying t=some (.slice e)) (kr:(P.info? e).map (fun i=>(i.zero,i.size,i.bytes))=some (some z,T.size,bytes)) (cV:z.cells.size=T.size) (iv:0 <T.size)
 (bQ:dU bytes li ml=some l') (rn:ml.length=m) (i':0 <bytes)
 (hE:fP T (hK (X++cQ E) w) w xs li) (hcs:fP T (hK (X++cQ E) w) w cs ml) (lk:∀ j u,cs[j]? =some u->w.cell? (b7.add j)=some u)
 (hw:Region.wanted o (yielded ops a.tmps)=true)
 (br:o.op= .call { callee:=.builtin .append,args:=#[x,y],argTypes:=#[t,t] }) (aj:a.eval x=v) (hy:a.eval y= .slice (some b7) m c) (I:Fr n l a) (bZ:o.dst=some d) (af:Nat.blt d n=true)
 (k:∀ bM A dF aF,a7 v.ownBlock.toList w aF->Fr n ((d,.slice A l'.length dF)::l) bM->aw W M0 X aF (E.set i (ap.row e T.size (.slice A l'.length dF) l' (xs++cs))) (ak.rows T (xs++cs) l'::D)->wpList P ops Q rest bM aF):wpList P ops Q (o::rest) a w:=by
 obtain ⟨i0,Ar,yd,Dl,C0⟩:=Vv kr
 obtain ⟨z8,rfl⟩:=QA bQ
 have rp:w.ownsRow 0 e T.size v li.length xs:=hm.e i hi
 subst rn
 have Hp:li.length+ml.length<=maxLen:=by
  have aR:=Nat.le_mul_of_pos_right (li.length+ml.length) i'
  simp only [maxLen]
  omega
 obtain ⟨iR,aF,iu,aR,bT,_,hL⟩:=run_append_own_at (P:=P) w 0 t o.type e i0 z T.size bytes iJ Ar yd Dl C0 cV iv v li.length xs rp b7 ml.length c cs (A9 T hcs)
  lk (YB T hcs) Hp z8 (Nat.zero_le _)
 have ku:(ap.row e T.size iR (li++ml) (xs++cs)).ok aF:=by
  show aF.ownsRow 0 e T.size iR (li++ml).length (xs++cs)
  rw [List.length_append];exact aR
 obtain ⟨A,dF,rfl,_⟩:=NL ku
 have AK:cf P o a w (.slice A (li++ml).length dF) aF:=by
  simp only [cf,execOp,br,resolve,invoke,builtin,Sem.run_bind,Sem.run_pure,Result.andThen_ok,List.map_toArray,List.map_cons,List.map_nil,aj,hy,iu]
 have mV:=hm.D1 (Yx T hcs hE)
 refine bU hw AK I bZ af fun bM eX=>k bM A dF aF (a7.grown bT) eX (mV.vP i hi (a7.grown bT) ku (M' _) fun q ea=>?_)
 have sI:(Value.slice A (li++ml).length dF).ownBlock=some q:=by simpa [ap.row] using ea
 rcases hL with jw | jw
 · left;simpa [ap.row,<-jw] using sI
 · right
   rw [jw] at sI
   injection sI with sI
   subst sI
   refine ⟨Nat.le_refl _,?_⟩
   rcases aR.2 with ⟨ad,_⟩ | ⟨Rv,cap,cur,ad,_,uD,_⟩
   · rw [ad] at jw;simp [Value.ownBlock] at jw
   · rw [ad] at jw
     have:Rv=w.heap.size:=by simpa [Value.ownBlock] using jw
     subst this
     exact (Array.getElem?_eq_some_iff.1 uD).1
theorem iQ {α:Type} {T:fc α} {t e:TypeId} {x y:Operand} {z:Value} {bytes g m c:Nat} {v:Value} {li ml l':List α} {xs cs:List Value} (i j q:Nat) (hm:aw W M0 X w E D) (hi:E[i]? =some (ap.row e T.size v li xs)) (bb:E[j]? =some (ap.bm g e cs)) (ea:D[q]? =some (ak.rows T xs li))
 (iJ:P.underlying t=some (.slice e)) (kr:(P.info? e).map (fun i=>(i.zero,i.size,i.bytes))=some (some z,T.size,bytes)) (cV:z.cells.size=T.size) (iv:Nat.blt 0 T.size=true)
 (bQ:dU bytes li ml=some l') (rn:ml.length=m) (i':Nat.blt 0 bytes=true) (hcs:fP T (hK (X++cQ E) w) w cs ml)
 (hw:Region.wanted o (yielded ops a.tmps)=true)
 (br:o.op= .call { callee:=.builtin .append,args:=#[x,y],argTypes:=#[t,t] }) (aj:a.eval x=v) (hy:a.eval y= .slice (some ⟨g,0,none⟩) m c) (I:Fr n l a) (bZ:o.dst=some d) (af:Nat.blt d n=true)
 (k:∀ bM A dF ft aF,Fr n ((d,.slice A l'.length dF)::l) bM->aw W M0 X aF ((E.set i (ap.row e T.size (.slice A l'.length dF) l' ft)).eraseIdx j) (ak.rows T ft l'::D)->wpList P ops Q rest bM aF):wpList P ops Q (o::rest) a w:=by
 have aY:=hm.e j bb
 exact NM i hm hi iJ kr cV (Nat.le_of_ble_eq_true iv) bQ rn (Nat.le_of_ble_eq_true i') (hm.d q ea) hcs (fun j u hu=>by rw [ov];simpa using Ci aY hu) hw br aj hy I bZ af
  fun bM A dF aF _ eX gG=>k bM A dF _ aF eX (gG.Gk j)
theorem YJ {α:Type} {T:fc α} {t e:TypeId} {x y:Operand} {z:Value} {bytes g m c:Nat} {v:Value} {li ml l':List α} {xs cs:List Value} (i j q:Nat) (hm:aw W M0 X w E D) (hi:E[i]? =some (ap.row e T.size v li xs)) (bb:E[j]? =some (ap.bm g e cs)) (ea:D[q]? =some (ak.rows T xs li))
 (iJ:P.underlying t=some (.slice e)) (kr:(P.info? e).map (fun i=>(i.zero,i.size,i.bytes))=some (some z,T.size,bytes)) (cV:z.cells.size=T.size) (iv:Nat.blt 0 T.size=true)
 (bQ:dU bytes li ml=some l') (rn:ml.length=m) (i':Nat.blt 0 bytes=true) (hcs:fP T (hK (X++cQ E) w) w cs ml)
 (hw:Region.wanted o (yielded ops a.tmps)=true)
 (br:o.op= .call { callee:=.builtin .append,args:=#[x,y],argTypes:=#[t,t] }) (aj:a.eval x=v) (hy:a.eval y= .slice (some ⟨g,0,none⟩) m c) (I:Fr n l a) (bZ:o.dst=some d) (af:Nat.blt d n=true)
 (k:∀ bM A dF ft aF,a7 v.ownBlock.toList w aF->Fr n ((d,.slice A l'.length dF)::l) bM->aw W M0 X aF ((E.set i (ap.row e T.size (.slice A l'.length dF) l' ft)).eraseIdx j) (ak.rows T ft l'::D)->wpList P ops Q rest bM aF):wpList P ops Q (o::rest) a w:=by
 have aY:=hm.e j bb
 exact NM i hm hi iJ kr cV (Nat.le_of_ble_eq_true iv) bQ rn (Nat.le_of_ble_eq_true i') (hm.d q ea) hcs (fun j u hu=>by rw [ov];simpa using Ci aY hu) hw br aj hy I bZ af
  fun bM A dF aF ad eX gG=>k bM A dF _ aF ad eX (gG.Gk j)
theorem aJk {t e:TypeId} {x y:Operand} {v:Value} {sz k:Nat} {xs:List Value} {z:Value} {bytes:Nat} (iJ:P.underlying t=some (.slice e)) (kr:(P.info? e).map (fun i=>(i.zero,i.size,i.bytes))=some (some z,sz,bytes)) (rp:w.ownsRow 0 e sz v k xs)
 (br:o.op= .call { callee:=.builtin .append,args:=#[x,y],argTypes:=#[t,t] }) (aj:a.eval x=v) (hy:a.eval y= .slice none 0 0):cf P o a w v w:=by
 obtain ⟨i0,Ar,yd,Dl,C0⟩:=Vv kr
 have iu:=run_append_owned_none (P:=P) (w:=w) 0 t o.type e i0 sz iJ Ar v k xs rp
 simp only [cf,execOp,br,resolve,invoke,builtin,Sem.run_bind,Sem.run_pure,Result.andThen_ok,List.map_toArray,List.map_cons,List.map_nil,aj,hy,iu]
theorem I1 {α:Type} {T:fc α} {t e:TypeId} {x y:Operand} {z:Value} {bytes c:Nat} {v:Value} {li ml l':List α} {xs:List Value} {ik:Option Addr} (i q p:Nat) (hm:aw W M0 X w E D) (hi:E[i]? =some (ap.row e T.size v li xs)) (ea:D[q]? =some (ak.rows T xs li)) (b0:D[p]? =some (ak.of (aH T) [.slice ik ml.length c] ml))
 (iJ:P.underlying t=some (.slice e)) (kr:(P.info? e).map (fun i=>(i.zero,i.size,i.bytes))=some (some z,T.size,bytes)) (cV:z.cells.size=T.size) (iv:Nat.blt 0 T.size=true)
 (bQ:dU bytes li ml=some l') (i':Nat.blt 0 bytes=true)
 (hw:Region.wanted o (yielded ops a.tmps)=true)
 (br:o.op= .call { callee:=.builtin .append,args:=#[x,y],argTypes:=#[t,t] }) (aj:a.eval x=v) (hy:a.eval y= .slice ik ml.length c) (I:Fr n l a) (bZ:o.dst=some d) (af:Nat.blt d n=true)
 (k:∀ bM A dF ft aF,a7 v.ownBlock.toList w aF->Fr n ((d,.slice A l'.length dF)::l) bM->aw W M0 X aF (E.set i (ap.row e T.size (.slice A l'.length dF) l' ft)) (ak.rows T ft l'::D)->wpList P ops Q rest bM aF):wpList P ops Q (o::rest) a w:=by
 have hE:=hm.d q ea
 have awG:(aH T).rd (hK (X++cQ E) w) w [.slice ik ml.length c] ml:=hm.d p b0
 obtain ⟨fZ,d_,bL,b8,dR,fT,jw⟩:=awG
 simp only [List.cons.injEq,Value.slice.injEq,and_true,true_and] at bL
 obtain ⟨rfl,rfl⟩:=bL
 by_cases rn:ml= []
 · subst rn
   cases ik with
   | none=>
     have C1:=fT rfl
     subst C1
     have rp:w.ownsRow 0 e T.size v li.length xs:=hm.e i hi
     have ku:(ap.row e T.size v li xs).ok w:=hm.e i hi
     obtain ⟨A,dF,rfl,_⟩:=NL ku
     obtain ⟨_,rfl⟩:=QA bQ
     refine bU hw (aJk iJ kr rp br aj hy) I bZ af fun bM eX=>?_
     have az:li++[]=li:=List.append_nil li
     refine k bM A dF xs w (a7.refl _ w) (by rw [az];exact eX) ?_
     rw [az]
     have gr:E.set i (ap.row e T.size (.slice A li.length dF) li xs)=E:=by
      obtain ⟨dP,he⟩:=List.getElem?_eq_some_iff.1 hi
      rw [<-he,List.set_getElem_self]
     rw [gr]
     exact hm.more hE
   | some b7=>
     exact NM (cs:=[]) i hm hi iJ kr cV (Nat.le_of_ble_eq_true iv) bQ rfl (Nat.le_of_ble_eq_true i') hE rfl (fun j u hu=>by simp at hu) hw br aj hy I bZ af fun bM A dF aF ad eX gG=>k bM A dF _ aF ad eX gG
 · obtain ⟨iH,jL,cs,mD,uc⟩:=jw rn
   rw [iH] at hy
   exact NM (cs:=cs) i hm hi iJ kr cV (Nat.le_of_ble_eq_true iv) bQ rfl (Nat.le_of_ble_eq_true i') hE mD (fun j u hu=>by rw [ov];exact uc j u hu) hw br aj hy I bZ af fun bM A dF aF ad eX gG=>k bM A dF _ aF ad eX gG
theorem n3 {α:Type} {T:fc α} {t e:TypeId} {x y:Operand} {z:Value} {bytes c:Nat} {v:Value} {li ml l':List α} {xs:List Value} {ik:Option Addr} (i q p:Nat) (hm:aw W M0 X w E D) (hi:E[i]? =some (ap.row e T.size v li xs)) (ea:D[q]? =some (ak.rows T xs li)) (b0:D[p]? =some (ak.of (aH T) [.slice ik ml.length c] ml))
 (iJ:P.underlying t=some (.slice e)) (kr:(P.info? e).map (fun i=>(i.zero,i.size,i.bytes))=some (some z,T.size,bytes)) (cV:z.cells.size=T.size) (iv:Nat.blt 0 T.size=true)
 (bQ:dU bytes li ml=some l') (i':Nat.blt 0 bytes=true)
 (hw:Region.wanted o (yielded ops a.tmps)=true)
 (br:o.op= .call { callee:=.builtin .append,args:=#[x,y],argTypes:=#[t,t] }) (aj:a.eval x=v) (hy:a.eval y= .slice ik ml.length c) (I:Fr n l a) (bZ:o.dst=some d) (af:Nat.blt d n=true)
 (k:∀ bM A dF ft aF,Fr n ((d,.slice A l'.length dF)::l) bM->aw W M0 X aF (E.set i (ap.row e T.size (.slice A l'.length dF) l' ft)) (ak.rows T ft l'::D)->wpList P ops Q rest bM aF):wpList P ops Q (o::rest) a w:=
 I1 i q p hm hi ea b0 iJ kr cV iv bQ i' hw br aj hy I bZ af fun bM A dF ft aF _=>k bM A dF ft aF
theorem I0 {x:Value} {y:Nat} {code:BoundsCode} {k:IntKind} {i:Int} (aj:x= .int k i) (h:0 <=i/\i<=y):(Instr.sliceBound x y code).run P w= .ok i.toNat w:=by
 subst aj
 simp [Instr.sliceBound,asIntOf,h]
end
end a2
namespace a2
open Go Go.RowKit J
section
variable {α:Type} {T:fc α}
theorem ags {F:Nat->Prop} {w:World} {d':α} {CM:List Value} (dN:T.rd F w CM d'):∀ {li:List α} {xs:List Value} {i:Nat},fP T F w xs li->i <li.length->fP T F w (xs.take (i*T.size)++CM++xs.drop (i*T.size+T.size)) (li.set i d')
 | [],_,i,_,hi=>by simp at hi
 | d::r,xs,0,h,_=>by
   obtain ⟨cs,ys,rfl,aB,aR⟩:=h
   have az:=T.len aB
   refine ⟨CM,ys,?_,dN,aR⟩
   simp [<-az]
 | d::r,xs,i+ 1,h,hi=>by
   obtain ⟨cs,ys,rfl,aB,aR⟩:=h
   have az:=T.len aB
   have ct:=ags dN aR (i:=i) (by simpa using hi)
   refine ⟨cs,_,?_,aB,ct⟩
   have bL:(i+ 1)*T.size=cs.length+i*T.size:=by rw [Nat.add_mul];omega
   rw [bL,List.take_append,List.take_of_length_le (by omega),show cs.length+i*T.size - cs.length=i*T.size by omega,List.drop_append,List.drop_of_length_le (l:=cs) (by omega),
    show cs.length+i*T.size+T.size - cs.length=i*T.size+T.size by omega]
   simp
end
theorem aH2 {β:Type} {L vs:List β} {p N:Nat} (aB:p+vs.length<=N) (aR:N<=L.length):(L.take p++vs++L.drop (p+vs.length)).take N=(L.take N).take p++vs++(L.take N).drop (p+vs.length):=by
 have az:(L.take p++vs).length=p+vs.length:=by rw [List.length_append,List.length_take];omega
 rw [List.take_append,List.take_of_length_le (by omega),az,List.take_take,Nat.min_eq_left (by omega),List.drop_take]
section
variable {P:Program} {ops:Array Oper} {Q:Exit->Act->World->Prop} {a:Act} {w:World} {rest:List Oper} {o:Oper} {n:ha} {d:Nat} {l:List (Nat × Value)}
 {W:World} {M0 X:List Nat} {E:List ap} {D:List ak}
theorem alo {xs cs:List Value} {p:Nat} (h:∀ j u,cs[j]? =some u->xs[p+j]? =some u):(xs.drop p).take cs.length=cs:=by
 apply List.ext_getElem?
 intro j
 rw [List.getElem?_take]
 by_cases bb:j <cs.length
 · rw [if_pos bb,List.getElem?_drop,List.getElem?_eq_getElem bb]
   exact h j _ (List.getElem?_eq_getElem bb)
 · rw [if_neg bb,List.getElem?_eq_none (by omega)]
theorem aH3 {α:Type} {T:fc α} {t e:TypeId} {x y:Operand} {A:Option Addr} {c kk sz:Nat} {li:List α} {xs cs0 vs:List Value} {z:Int} {d0 d':α} {v:Value} (i q:Nat) (hm:aw W M0 X w E D) (hi:E[i]? =some (ap.row e T.size (.slice A li.length c) li xs)) (ea:D[q]? =some (ak.rows T xs li))
 (cV:idx li z=some d0) (hcs:T.rd (hK (X++cQ E) w) w cs0 d0) (nM:iW w ⟨bG A,bH A+z.toNat*T.size,none⟩ cs0) (hw:Region.wanted o (yielded ops a.tmps)=true)
 (ad:v.cells=vs.toArray) (a6:∀ w,(Go.sizeOf t).run P w= .ok sz w) (az:Nat.beq vs.length sz=true) (aB:vs.all (·.oneCell')=true) (hle:Nat.ble (kk+vs.length) cs0.length=true)
 (Az:T.rd (hK (X++cQ E) w) w (lay cs0 kk vs) d')
 (br:o.op= .store t x y) (aj:a.eval x= .pointer (some ⟨bG A,bH A+z.toNat*T.size+kk,none⟩)) (hy:a.eval y=v) (bZ:o.dst=none)
 (k:∀ ft aF,a7 (Value.slice A li.length c).ownBlock.toList w aF->aw W M0 X aF (E.set i (ap.row e T.size (.slice A li.length c) (li.set z.toNat d') ft)) (ak.rows T ft (li.set z.toNat d')::D)->wpList P ops Q rest a aF):wpList P ops Q (o::rest) a w:=by
 obtain ⟨z0,Ez,P1⟩:=uM cV
 have hlen:vs.length=sz:=Nat.eq_of_beq_eq_true az
 have Mi:kk+vs.length<=cs0.length:=Nat.le_of_ble_eq_true hle
 have C1:=T.len hcs
 have rp:w.ownsRow 0 e T.size (.slice A li.length c) li.length xs:=hm.e i hi
 have aCu:fP T (hK (X++cQ E) w) w xs li:=hm.d q ea
 rcases rp.2 with ⟨_,iE⟩ | ⟨g,cap,cur,bL,_,di,Mj,mQ,au7,Vc⟩
 · omega
 simp only [Value.slice.injEq,true_and] at bL
 obtain ⟨rfl,rfl⟩:=bL
 have asj:bG (some ⟨g,0,none⟩)=g:=rfl
 have aAr:bH (some ⟨g,0,none⟩)= 0 :=rfl
 simp only [asj,aAr,Nat.zero_add] at aj nM
 have hmul:(z.toNat+ 1)*T.size<=li.length*T.size:=Nat.mul_le_mul_right _ Ez
 have aLg:li.length*T.size<=c*T.size:=Nat.mul_le_mul_right _ Mj
 have aLk:(z.toNat+ 1)*T.size=z.toNat*T.size+T.size:=by rw [Nat.add_mul,Nat.one_mul]
 have nO:xs.length=li.length*T.size:=rp.1
 have hold:(xs.drop (z.toNat*T.size)).take cs0.length=cs0:=alo fun j u bb=>by
  have:=nM j u bb
  have HU:j <cs0.length:=(List.getElem?_eq_some_iff.1 bb).1
  rw [World.ownsRow.cellAt rp (z.toNat*T.size+j) (by omega)] at this
  exact this
 have Ml:=run_storeCells_at P g (z.toNat*T.size+kk) e vs 0 cur w di (by omega) (fun u hu=>List.all_eq_true.1 aB u hu)
 simp only [Nat.add_zero] at Ml
 obtain ⟨p,b0⟩:∃ p,p=z.toNat*T.size+kk:=⟨_,rfl⟩
 rw [<-b0] at Ml aj
 have aLd:cur.toList.length=c*T.size:=by simpa using au7
 obtain ⟨ft,Vr⟩:∃ ft,ft=xs.take p++vs++xs.drop (p+vs.length):=⟨_,rfl⟩
 have aAn:ft=xs.take (z.toNat*T.size)++lay cs0 kk vs++xs.drop (z.toNat*T.size+T.size):=by
  rw [Vr,Xm _ _ _ Mi]
  have aCw:xs=xs.take (z.toNat*T.size)++(cs0++xs.drop (z.toNat*T.size+T.size)):=by
   conv=>lhs;rw [<-List.take_append_drop (z.toNat*T.size) xs]
   congr 1
   rw [<-List.take_append_drop cs0.length (xs.drop (z.toNat*T.size)),hold,List.drop_drop,C1]
  have Mh:(xs.take (z.toNat*T.size)).length=z.toNat*T.size:=by rw [List.length_take];omega
  conv=>lhs;rw [aCw]
  rw [List.take_append,List.take_of_length_le (by rw [Mh];omega),Mh,List.drop_append,List.drop_of_length_le (l:=xs.take (z.toNat*T.size)) (by rw [Mh];omega),Mh,
   show p - z.toNat*T.size=kk by omega,show p+vs.length - z.toNat*T.size=kk+vs.length by omega,List.take_append_of_le_length (by omega),List.drop_append_of_le_length (by omega)]
  simp
 have aFp:ft.length=li.length*T.size:=by
  rw [Vr];simp only [List.length_append,List.length_take,List.length_drop];omega
 have ku:(ap.row e T.size (.slice (some ⟨g,0,none⟩) li.length c) (li.set z.toNat d') ft).ok (w.setRow g (cur.toList.take p++vs++cur.toList.drop (p+vs.length)).toArray):=by
  show World.ownsRow _ 0 e T.size _ (li.set z.toNat d').length ft
  rw [List.length_set]
  refine ⟨aFp,.inr ⟨g,c,(cur.toList.take p++vs++cur.toList.drop (p+vs.length)).toArray,rfl,Nat.zero_le _,?_,Mj,mQ,?_,?_⟩⟩
  · simp only [World.setRow,Array.getElem?_modify,if_true,di]
    rfl
  · simp only [List.size_toArray,List.length_append,List.length_take,List.length_drop];omega
  · rw [List.toList_toArray,Vr,<-Vc]
    exact aH2 (by omega) (by omega)
 have aFx:xg P o a w (w.setRow g (cur.toList.take p++vs++cur.toList.drop (p+vs.length)).toArray):=by
  simp only [xg,execOp,br,aj,hy]
  simp only [List.append_assoc,hlen] at Ml ⊢
  have rr:=ad
  unfold Value.cells at rr
  simp [go_sem,Instr.storeAt,storeVar,a6,rr,hlen,Ml]
 have mV:=hm.D1 (T:=T) (xs:=ft) (li:=li.set z.toNat d') (by rw [aAn];exact ags Az aCu Ez)
 have lY:a7 (Value.slice (some ⟨g,0,none⟩) li.length c).ownBlock.toList w (w.setRow g (cur.toList.take p++vs++cur.toList.drop (p+vs.length)).toArray):=⟨rfl,rfl,rfl,by simp [World.setRow],fun b _ af=>by
  simp only [World.setRow,Array.getElem?_modify]
  rw [if_neg (by simpa [Value.ownBlock,eq_comm] using af)]⟩
 exact N0 hw aFx bZ (k ft _ lY (mV.vP i hi lY ku (by simp [ap.row,Value.ownBlock]) (fun b aY=>.inl (by simpa [ap.row] using aY))))
theorem qy {α:Type} {T:fc α} {t e:TypeId} {x y:Operand} {A:Option Addr} {c kk sz:Nat} {li fO:List α} {xs cs0 vs:List Value} {z:Int} {d0 d':α} {v:Value} (i q:Nat) (azM:some (li.set z.toNat d')=some fO) (hm:aw W M0 X w E D) (hi:E[i]? =some (ap.row e T.size (.slice A li.length c) li xs)) (ea:D[q]? =some (ak.rows T xs li))
 (cV:idx li z=some d0) (hcs:T.rd (hK (X++cQ E) w) w cs0 d0) (nM:iW w ⟨bG A,bH A+z.toNat*T.size,none⟩ cs0) (hw:Region.wanted o (yielded ops a.tmps)=true)
 (ad:v.cells=vs.toArray) (a6:∀ w,(Go.sizeOf t).run P w= .ok sz w) (az:Nat.beq vs.length sz=true) (aB:vs.all (·.oneCell')=true) (hle:Nat.ble (kk+vs.length) cs0.length=true)
 (Az:T.rd (hK (X++cQ E) w) w (lay cs0 kk vs) d')
 (br:o.op= .store t x y) (aj:a.eval x= .pointer (some ⟨bG A,bH A+z.toNat*T.size+kk,none⟩)) (hy:a.eval y=v) (bZ:o.dst=none)
 (k:∀ ft aF,li.length=fO.length->a7 (Value.slice A li.length c).ownBlock.toList w aF->aw W M0 X aF (E.set i (ap.row e T.size (.slice A li.length c) fO ft)) (ak.rows T ft fO::D)->wpList P ops Q rest a aF):wpList P ops Q (o::rest) a w:=by
 obtain rfl:=Option.some.inj azM
 exact aH3 i q hm hi ea cV hcs nM hw ad a6 az aB hle Az br aj hy bZ fun ft aF=>k ft aF (by rw [List.length_set])
theorem aHG {A:Option Addr} {m c sz:Nat} {t e:TypeId} {lo hi:Option Value} {i j:Int} (bP:P.underlying t=some (.slice e)) (a6:∀ w,(Go.sizeOf e).run P w= .ok sz w)
 (rm:(lo=none/\i= 0)\/lo=some (.int .i64 i)) (oT:(hi=none/\j=m)\/hi=some (.int .i64 j)) (h:0 <=i/\i<=j/\j<=m) (Di:m<=c) :
 (Instr.slice t (.slice A m c) lo hi none).run P w= .ok (.slice (if c=i.toNat then A else A.map (·.add (i.toNat*sz))) (j.toNat - i.toNat) (c - i.toNat)) w:=by
 have aY:(Instr.sliceBounds true m c lo hi none).run P w= .ok (i.toNat,j.toNat,c) w:=by
  have ox:∀ code,(Instr.sliceBound (.int .i64 j) c code).run P w= .ok j.toNat w:=fun code=>I0 rfl (by omega)
  have k_:∀ code,(Instr.sliceBound (.int .i64 i) j.toNat code).run P w= .ok i.toNat w:=fun code=>I0 rfl (by omega)
  have qX:j=m-> ∀ code,(Instr.sliceBound (.int .i64 i) m code).run P w= .ok i.toNat w:=fun e code=>I0 rfl (by omega)
  rcases rm with ⟨rfl,rfl⟩ | rfl <;> rcases oT with ⟨rfl,bb⟩ | rfl
  · simp [Instr.sliceBounds,bb]
  · simp [Instr.sliceBounds,ox]
  · simp [Instr.sliceBounds,qX bb,bb]
  · simp [Instr.sliceBounds,ox,k_]
 simp [Instr.slice,run_underlying bP,aY,a6]
theorem PZ {A:Option Addr} {m c sz:Nat} {t e:TypeId} {x:Operand} {lo hi:Option Operand} {i j:Int} (bP:P.underlying t=some (.slice e)) (a6:∀ w,(Go.sizeOf e).run P w= .ok sz w) (br:o.op= .slice t x lo hi none) (aj:a.eval x= .slice A m c)
 (rm:(lo=none/\i= 0)\/ ∃ z,lo=some z/\a.eval z= .int .i64 i) (oT:(hi=none/\j=m)\/ ∃ z,hi=some z/\a.eval z= .int .i64 j) (h:0 <=i/\i<=j/\j<=m) (Di:m<=c) :
 cf P o a w (.slice (if c=i.toNat then A else A.map (·.add (i.toNat*sz))) (j.toNat - i.toNat) (c - i.toNat)) w:=by
 have bQ:=aHG (P:=P) (w:=w) (A:=A) (m:=m) (c:=c) (lo:=lo.map a.eval) (hi:=hi.map a.eval) bP a6 (i:=i) (j:=j)
  (rm.imp (fun h=>⟨by rw [h.1];rfl,h.2⟩) (fun ⟨z,aB,aR⟩=>by rw [aB,Option.map_some,aR])) (oT.imp (fun h=>⟨by rw [h.1];rfl,h.2⟩) (fun ⟨z,aB,aR⟩=>by rw [aB,Option.map_some,aR])) h Di
 simp only [cf,execOp,br,aj,Instr.sliceAt,Sem.run_bind,run_underlying bP,Result.andThen_ok,Option.map_none,bQ]
 rfl
theorem Lw {α:Type} {l r:List α} {i j:Int} (h:cut l i j=some r):(0 <=i/\i<=j/\j<=l.length)/\r=(l.take j.toNat).drop i.toNat:=by
 unfold cut at h
 split at h
 · rename_i bJ;exact ⟨bJ,by simpa using h.symm⟩
 · cases h
theorem Yz {α:Type} {T:fc α} {F:Nat->Prop} {w:World}:∀ {l:List α} {xs:List Value} (i j:Nat),fP T F w xs l->fP T F w ((xs.take (j*T.size)).drop (i*T.size)) ((l.take j).drop i)
 | [],xs,i,j,h=>by
   have h:xs= []:=h
   subst h
   have e:(([]:List α).take j).drop i= []:=by simp
   rw [e]
   show List.drop _ (List.take _ _)= []
   simp
 | d::r,xs,i,0,h=>by
   have e:((d::r).take 0).drop i= []:=by simp
   rw [e]
   show List.drop _ (List.take _ _)= []
   simp
 | d::r,xs,0,j+ 1,h=>by
   obtain ⟨cs,ys,rfl,aB,aR⟩:=h
   have az:=T.len aB
   have ct:=Yz 0 j aR
   simp only [Nat.zero_mul,List.drop_zero] at ct ⊢
   rw [List.take_succ_cons,show (j+ 1)*T.size=cs.length+j*T.size by rw [Nat.add_mul];omega,List.take_append,List.take_of_length_le (by omega),show cs.length+j*T.size - cs.length=j*T.size by omega]
   exact ⟨cs,_,rfl,aB,ct⟩
 | d::r,xs,i+ 1,j+ 1,h=>by
   obtain ⟨cs,ys,rfl,aB,aR⟩:=h
   have az:=T.len aB
   have ct:=Yz i j aR
   rw [List.take_succ_cons,List.drop_succ_cons,show (j+ 1)*T.size=cs.length+j*T.size by rw [Nat.add_mul];omega,List.take_append,List.take_of_length_le (by omega),show cs.length+j*T.size - cs.length=j*T.size by omega,
    show (i+ 1)*T.size=cs.length+i*T.size by rw [Nat.add_mul];omega,List.drop_append,List.drop_of_length_le (l:=cs) (by omega),show cs.length+i*T.size - cs.length=i*T.size by omega,List.nil_append]
   exact ct
theorem Rh {α:Type} {T:fc α} {M:List Nat} {A:Option Addr} {c:Nat} {li r:List α} {i j:Int} (h:(ak.of (aH T) [.slice A li.length c] li).ok M w) (bQ:cut li i j=some r) :
 (ak.of (aH T) [.slice (if c=i.toNat then A else A.map (·.add (i.toNat*T.size))) (j.toNat - i.toNat) (c - i.toNat)] r).ok M w/\j.toNat - i.toNat=r.length:=by
 obtain ⟨⟨bJ,aB,aR⟩,rfl⟩:=Lw bQ
 obtain ⟨fZ,d_,bL,b8,dR,fT,jw⟩:=h
 simp only [List.cons.injEq,Value.slice.injEq,and_true,true_and] at bL
 obtain ⟨rfl,rfl⟩:=bL
 have hlen:((li.take j.toNat).drop i.toNat).length=j.toNat - i.toNat:=by rw [List.length_drop,List.length_take];omega
 refine ⟨?_,hlen.symm⟩
 show (aH T).rd (hK M w) w _ _
 refine ⟨_,c - i.toNat,by rw [hlen],by rw [hlen];omega,by omega,fun gf=>?_,fun eN=>?_⟩
 · split at gf
   · have:=fT gf;omega
   · cases A with
     | none=>have:=fT rfl;omega
     | some b7=>cases gf
 · have Dj:0 <((li.take j.toNat).drop i.toNat).length:=List.length_pos_iff.2 eN
   have Dh:li≠ []:=by intro e;subst e;simp at Dj
   obtain ⟨iH,jL,xs,mD,uc⟩:=jw Dh
   have pz:c≠i.toNat:=by omega
   rw [if_neg pz,iH]
   refine ⟨?_,?_⟩
   · simp only [Option.map_some,ov]
     rfl
   simp only [Option.map_some,ov]
   refine ⟨jL,_,Yz i.toNat j.toNat mD,fun q u hu=>?_⟩
   have ea:(xs.take (j.toNat*T.size))[i.toNat*T.size+q]? =some u:=by rwa [List.getElem?_drop] at hu
   rw [List.getElem?_take] at ea
   split at ea
   · have:=uc (i.toNat*T.size+q) u ea
     simpa [bG,bH,Nat.add_assoc] using this
   · cases ea
theorem Lx {α:Type} {T:fc α} {c:Nat} {A:Option Addr} {li r:List α} {i j:Int} {M:List Nat} {w:World} (b0:(ak.of (aH T) [.slice A li.length c] li).ok M w) (bQ:cut li i j=some r) :
 ∃ g' dF,(ak.of (aH T) [.slice g' r.length dF] r).ok M w/\ ∀ {P:Program} {o:Oper} {a:Act} {t e:TypeId} {x:Operand} {lo hi:Option Operand},P.underlying t=some (.slice e)->(∀ w,(Go.sizeOf e).run P w= .ok T.size w)->o.op= .slice t x lo hi none->a.eval x= .slice A li.length c ->
   ((lo=none/\i= 0)\/ ∃ z,lo=some z/\a.eval z= .int .i64 i)->((hi=none/\j=(li.length:Int))\/ ∃ z,hi=some z/\a.eval z= .int .i64 j)-> ∀ w,cf P o a w (.slice g' r.length dF) w:=by
 obtain ⟨aB,aR⟩:=Rh b0 bQ
 have bJ:=(Lw bQ).1
 have Di:li.length<=c:=by
  obtain ⟨fZ,d_,bL,b8,_⟩:=(b0:(aH T).rd _ w [.slice A li.length c] li)
  simp only [List.cons.injEq,Value.slice.injEq,and_true,true_and] at bL
  omega
 rw [aR] at aB
 refine ⟨_,_,aB,fun bP a6 br aj rm oT w=>?_⟩
 have hy:=PZ (w:=w) (i:=i) (j:=j) bP a6 br aj rm oT bJ Di
 rw [aR] at hy
 exact hy
theorem aHS {α:Type} {T:fc α} {t e c:Nat} {A:Option Addr} {li r:List α} {x:Operand} {lo hi:Option Operand} {i j:Int} (p:Nat) (hm:aw W M0 X w E D) (b0:D[p]? =some (ak.of (aH T) [.slice A li.length c] li)) (bP:P.underlying t=some (.slice e)) (a6:∀ w,(Go.sizeOf e).run P w= .ok T.size w) (bQ:cut li i j=some r)
 (hw:Region.wanted o (yielded ops a.tmps)=true) (br:o.op= .slice t x lo hi none) (aj:a.eval x= .slice A li.length c) (rm:(lo=none/\i= 0)\/ ∃ z,lo=some z/\a.eval z= .int .i64 i) (oT:(hi=none/\j=(li.length:Int))\/ ∃ z,hi=some z/\a.eval z= .int .i64 j)
 (I:Fr n l a) (bZ:o.dst=some d) (af:Nat.blt d n=true)
 (k:∀ bM g' dF,Fr n ((d,.slice g' r.length dF)::l) bM->aw W M0 X w E (ak.of (aH T) [.slice g' r.length dF] r::D)->wpList P ops Q rest bM w):wpList P ops Q (o::rest) a w:=by
 obtain ⟨aB,aR⟩:=Rh (hm.d p b0) bQ
 have bJ:=(Lw bQ).1
 have Di:li.length<=c:=by
  obtain ⟨fZ,d_,bL,b8,_⟩:=(hm.d p b0:(aH T).rd _ w [.slice A li.length c] li)
  simp only [List.cons.injEq,Value.slice.injEq,and_true,true_and] at bL
  omega
 have hy:=PZ (P:=P) (w:=w) (i:=i) (j:=j) bP a6 br aj rm oT bJ Di
 rw [aR] at hy aB
 exact bU hw hy I bZ af fun bM eX=>k bM _ _ eX (hm.more aB)
end
end a2
namespace a2
open Go Go.RowKit J
section
variable {P:Program} {ops:Array Oper} {Q:Exit->Act->World->Prop} {a:Act} {w:World} {rest:List Oper} {o:Oper} {n:ha} {d:Nat} {l:List (Nat × Value)}
 {W:World} {M0 X:List Nat} {E:List ap} {D:List ak}
theorem Fr.b1 (I:Fr n l a) (t:Nat) {b c:Bool} (az:fr l t=some (.bool b)) (aY:b=c):Fr n ((t,.bool c)::l) a:=
 ⟨I.size,I.defers,fun u v h=>by
  simp only [fr] at h
  cases Sj:Nat.beq t u with
  | true=>
    rw [Sj] at h
    simp only [Option.some.injEq] at h
    rw [<-Nat.eq_of_beq_eq_true Sj,<-h,<-aY]
    exact I.get t _ az
  | false=>rw [Sj] at h;exact I.get u v h⟩
theorem LC {κ β:Type} [DecidableEq κ] {K:tr κ} {ev:β->Value} {w aF:World} {r:Nat} {m:List (κ × β)} (h:a7 [] w aF) (hm:sd K ev w r m):sd K ev aF r m:=by
 obtain ⟨es,c,aB,aR⟩:=hm
 exact ⟨es,c,(h.block r (Array.getElem?_eq_some_iff.1 aB).1 (by simp)).trans aB,aR⟩
theorem eW {w a5 qz:World} (h:a7 [] w a5) (dN:a7 [] a5 qz):a7 [] w qz:=h.trans dN (by simp)
theorem cz {t:TypeId} {cs:List Value} (hw:Region.wanted o (yielded ops a.tmps)=true) (hy:cf P o a w (.pointer (some ⟨w.heap.size,0,none⟩)) (w.alloc (.cells cs.toArray t))) (I:Fr n l a) (hm:aw W M0 X w E D)
 (bZ:o.dst=some d) (af:Nat.blt d n=true) (k:∀ bM g aF,a7 [] w aF->Fr n ((d,.pointer (some ⟨g,0,none⟩))::l) bM->aw W M0 X aF (ap.bm g t cs::E) D->wpList P ops Q rest bM aF):wpList P ops Q (o::rest) a w:=
 bU hw hy I bZ af fun bM eX=>k bM _ _ (a7.alloc _ _ _) eX (hm.new t cs)
theorem gy {t:TypeId} {cs:List Value} {m:Nat} (hw:Region.wanted o (yielded ops a.tmps)=true) (hy:cf P o a w (.slice (some ⟨w.heap.size,0,none⟩) m m) (w.alloc (.cells cs.toArray t))) (I:Fr n l a) (hm:aw W M0 X w E D)
 (bZ:o.dst=some d) (af:Nat.blt d n=true) (k:∀ bM g aF,a7 [] w aF->Fr n ((d,.slice (some ⟨g,0,none⟩) m m)::l) bM->aw W M0 X aF (ap.bm g t cs::E) D->wpList P ops Q rest bM aF):wpList P ops Q (o::rest) a w:=
 bU hw hy I bZ af fun bM eX=>k bM _ _ (a7.alloc _ _ _) eX (hm.new t cs)
theorem M7 {κ β:Type} [DecidableEq κ] {t:TypeId} (K:tr κ) (ev:β->Value) (hw:Region.wanted o (yielded ops a.tmps)=true) (br:o.op= .makeMap t none) (I:Fr n l a) (hm:aw W M0 X w E D)
 (bZ:o.dst=some d) (af:Nat.blt d n=true) (k:∀ bM r aF,a7 [] w aF->Fr n ((d,.map (some r))::l) bM->aw W M0 X aF (ap.map K ev r ([]:List (κ × β))::E) D->wpList P ops Q rest bM aF):wpList P ops Q (o::rest) a w:=
 bU hw (aJH br) I bZ af fun bM eX=>k bM _ _ (a7.alloc _ _ _) eX (hm.aGu K ev)
theorem r5 {t e:TypeId} {sz:Nat} (hu:P.underlying t=some (.slice e)) (a6:∀ w,(Go.sizeOf e).run P w= .ok sz w) (br:o.op= .buildSlice t 0 (List.toArray [])) :
 cf P o a w (.slice (some ⟨w.heap.size,0,none⟩) 0 0) (w.alloc (.cells (List.toArray []) e)):=by
 simp only [cf,execOp,br,Instr.buildSlice,Sem.run_bind,Sem.run_pure,a6,Result.andThen_ok,run_underlying hu]
 simp [Instr.fill,newRow,go_sem]
theorem eM {S:World->Prop} {f p:Nat} {ds:List Nat} {v:Value} (i:Nat) (hi:ops[i]? =some o) (bP:(N1 ops ds i && !Nat.beq p i)=true) (hw:Region.wanted o (yielded ops a.tmps)=true) (hy:∀ aF,cf P o a aF v aF) (oP:S w)
 (I:Fr n l a) (bZ:o.dst=some d) (af:Nat.blt d n=true) (k:∀ bM,Fr n ((d,v)::l) bM->dT P ops Q p S f (i::ds) bM w):dT P ops Q p S (f+ 1) ds a w:=by
 simp only [Bool.and_eq_true,Bool.not_eq_true'] at bP
 obtain ⟨pH,uJ⟩:=bP
 have H4:p≠i:=fun e=>by rw [e] at uJ;simp at uJ
 simp only [N1,Bool.and_eq_true] at pH
 refine ⟨fun _=>oP,?_⟩
 refine ahb (v:=v) hi (Region.noSelect_spec pH.1.1) H4 (fun c a w h=>h) f _ a w (Region.free_spec hi pH.1.2) (fun _=>oP) (by simpa using pH.2) (.inl ⟨hw,fun w _=>hy w⟩) ?_
 rw [bZ]
 exact (k _ (I.put af)).2
theorem aw.swap {x y:ap} (h:aw W M0 X w (x::y::E) D):aw W M0 X w (y::x::E) D:=by
 have I:∀ k,k ∈ cQ (y::x::E) ↔ k ∈ cQ (x::y::E):=fun k=>by
  simp only [cQ,List.flatMap_cons,List.mem_append]
  exact ⟨fun h=>by rcases h with h | h | h <;> simp [h],fun h=>by rcases h with h | h | h <;> simp [h]⟩
 refine ⟨h.ev,h.l4,fun k bh=>h.lt k ((I k).1 bh),fun z cV=>h.ok z (by simp only [List.mem_cons] at cV ⊢;rcases cV with h | h | h <;> simp [h]),?_,fun z cV=>z.law _ _ w w (a7.refl _ _) (fun k bh=>.inl (by
  rcases List.mem_append.1 bh with e | e
  · exact List.mem_append.2 (.inl e)
  · exact List.mem_append.2 (.inr ((I k).1 e)))) (h.rd z cV)⟩
 have bZ:=h.dW
 have bL:cQ (x::y::E)=x.fH++(y.fH++cQ E):=by simp [cQ]
 have b8:cQ (y::x::E)=y.fH++(x.fH++cQ E):=by simp [cQ]
 rw [bL,List.nodup_append,List.nodup_append] at bZ
 rw [b8,List.nodup_append,List.nodup_append]
 obtain ⟨acV,⟨ak1,akY,ak2⟩,acX⟩:=bZ
 exact ⟨ak1,⟨acV,akY,fun a bB b aY=>acX a bB b (by simp [aY])⟩,fun a bB b aY=>by
  rcases List.mem_append.1 aY with e | e
  · exact fun dR=>acX b e a (by simp [bB]) dR.symm
  · exact ak2 a bB b e⟩
theorem M6 {K:Act->World->Prop} {i d t:Nat} {c:List Value} (hi:ops[i]? =some o) (hw:Region.wanted o (yielded ops a.tmps)=true) (hy:cf P o a w (.pointer (some ⟨w.heap.size,0,none⟩)) (w.alloc (.cells c.toArray t))) (bZ:o.dst=some d)
 (h:K (a.put (some d) (.pointer (some ⟨w.heap.size,0,none⟩))) (w.alloc (.cells c.toArray t))):wpOp P ops Q i K a w:=by
 unfold wpOp
 simp only [hi]
 rw [if_pos hw]
 refine .inl ?_
 unfold Oper.wp
 rw [show (execOp a.eval o).run P w=_ from hy]
 show K (a.put o.dst _) _
 rw [bZ]
 exact h
theorem aaI {S:World->Prop} {f p i:Nat} {ds:List Nat} (bQ:Region.ready .any ops (hF ops.size ds)= [i]) (iI:S w) (h:wpOp P ops (NoPanic Q) i (dT P ops Q p S f (i::ds)) a w):dT P ops Q p S (f+ 1) ds a w:=
 ⟨fun _=>iI,⟨fun bJ=>(by rw [bQ] at bJ;cases bJ),fun j bb=>by
  rw [bQ] at bb
  have:j=i:=by simpa using bb
  subst this
  exact h⟩⟩
theorem Qy {S:World->Prop} {f p:Nat} {ds:List Nat} {aC j3:Oper} {xH dW Bd Bf:Nat} {ci cj:List Value} (i j:Nat) (hi:ops[i]? =some aC) (bb:ops[j]? =some j3) (hc:(Region.ready .any ops (hF ops.size ds) == [i,j])=true) (pz:(Region.ready .any ops (hF ops.size (i::ds)) == [j])=true) (au6:(Region.ready .any ops (hF ops.size (j::ds)) == [i])=true)
 (mV:(hF ops.size (i::j::ds) == hF ops.size (j::i::ds))=true)
 (L1:aC.guard=none) (aed:j3.guard=none)
 (aeR:∀ (b:Act) w,cf P aC b w (.pointer (some ⟨w.heap.size,0,none⟩)) (w.alloc (.cells ci.toArray Bd))) (aeS:∀ (b:Act) w,cf P j3 b w (.pointer (some ⟨w.heap.size,0,none⟩)) (w.alloc (.cells cj.toArray Bf)))
 (I:Fr n l a) (hm:aw W M0 X w E D) (ad6:aC.dst=some xH) (Am:j3.dst=some dW) (aej:Nat.blt xH n=true) (x6:Nat.blt dW n=true) (eN:Nat.beq xH dW=false) (iI:∀ aF,a7 [] w aF->S aF)
 (k:∀ bM CS CT aF,a7 [] w aF->w.heap.size<=CS->w.heap.size<=CT->Fr n ((xH,.pointer (some ⟨CS,0,none⟩))::(dW,.pointer (some ⟨CT,0,none⟩))::l) bM->aw W M0 X aF (ap.bm CS Bd ci::ap.bm CT Bf cj::E) D->dT P ops Q p S f (i::j::ds) bM aF):dT P ops Q p S (f+ 2) ds a w:=by
 have bQ:=eq_of_beq hc
 have aCs:=eq_of_beq pz
 have aCt:=eq_of_beq au6
 have Ax:=eq_of_beq mV
 have H2:xH≠dW:=fun e=>by rw [e] at eN;simp at eN
 have aCy:∀ {CS CT:Nat} {bM:Act},Fr n ((dW,.pointer (some ⟨CT,0,none⟩))::(xH,.pointer (some ⟨CS,0,none⟩))::l) bM->Fr n ((xH,.pointer (some ⟨CS,0,none⟩))::(dW,.pointer (some ⟨CT,0,none⟩))::l) bM:=fun h=>⟨h.size,h.defers,fun t v bP=>h.get t v (by
  simp only [fr] at bP ⊢
  cases bL:Nat.beq xH t <;> cases b8:Nat.beq dW t <;> simp only [bL,b8] at bP ⊢ <;> first | exact bP | exact absurd ((Nat.eq_of_beq_eq_true bL).trans (Nat.eq_of_beq_eq_true b8).symm) H2)⟩
 refine ⟨fun _=>iI w (a7.refl _ _),⟨fun bJ=>(by rw [bQ] at bJ;cases bJ),fun m uG=>?_⟩⟩
 rw [bQ] at uG
 have L3:m=i\/m=j:=by simpa using uG
 rcases L3 with rfl | rfl
 · have bL:a7 [] w (w.alloc (.cells ci.toArray Bd)):=a7.alloc _ _ _
   refine M6 hi (D_ L1) (aeR a w) ad6 ?_
   have dR:=eW bL (a7.alloc [] (w.alloc (.cells ci.toArray Bd)) (.cells cj.toArray Bf))
   exact ⟨fun _=>iI _ bL,(aaI (f:=f) aCs (iI _ bL) (M6 bb (D_ aed) (aeS _ _) Am (by
    have:=k _ _ _ _ dR (Nat.le_refl _) (by simp) (aCy ((I.put aej).put x6)) ((hm.new Bd ci).new Bf cj).swap
    unfold dT at this ⊢
    rw [<-Ax]
    exact this))).2⟩
 · have bL:a7 [] w (w.alloc (.cells cj.toArray Bf)):=a7.alloc _ _ _
   refine M6 bb (D_ aed) (aeS a w) Am ?_
   have dR:=eW bL (a7.alloc [] (w.alloc (.cells cj.toArray Bf)) (.cells ci.toArray Bd))
   exact ⟨fun _=>iI _ bL,(aaI (f:=f) aCt (iI _ bL) (M6 hi (D_ L1) (aeR _ _) ad6 (k _ _ _ _ dR (by simp) (Nat.le_refl _) ((I.put x6).put aej) ((hm.new Bf cj).new Bd ci)))).2⟩
theorem aHF {f:FuncId} {q_:Operand} {xs:List Operand} {k9:Array TypeId} {vs cs us:List Value}
 (br:o.op= .call { callee:=.value q_,args:=xs.toArray,argTypes:=k9 }) (Aj:∀ args w,(callFunc f args).run P w= .ok (.enter f args) w) (An:a.eval q_= .func (.func f) us.toArray cs.toArray)
 (hE:xN a xs vs):(execOp a.eval o).run P w= .ok (.enter f (us++vs++cs).toArray) w:=by
 have aB:=LG hE
 simp only [execOp,br,resolve,List.map_toArray,aB,An]
 simp [Deferred.ofValue,invoke,Aj]
theorem lD {f:FuncId} {q_:Operand} {xs:List Operand} {k9:Array TypeId} {vs cs us:List Value} {R:Ending->World->Prop} (hw:Region.wanted o (yielded ops a.tmps)=true)
 (br:o.op= .call { callee:=.value q_,args:=xs.toArray,argTypes:=k9 }) (Aj:∀ args w,(callFunc f args).run P w= .ok (.enter f args) w) (An:a.eval q_= .func (.func f) us.toArray cs.toArray)
 (hE:xN a xs vs) (hc:Calls P f (us++vs++cs).toArray w R) (I:Fr n l a) (bZ:o.dst=some d) (af:Nat.blt d n=true)
 (k:∀ e aF,R e aF-> ∃ v,e= .returned v/\ ∀ bM,Fr n ((d,v)::l) bM->wpList P ops Q rest bM aF):wpList P ops Q (o::rest) a w:=by
 refine wpList_step fun K hz=>?_
 rw [if_pos hw]
 unfold Oper.wp
 rw [aHF br Aj An hE]
 refine hc.mono fun e aF bQ=>?_
 obtain ⟨v,rfl,bh⟩:=k e aF bQ
 rw [bZ]
 exact hz _ _ (bh _ (I.put af))
end
section
variable {P:Program} {o:Oper} {a:Act} {w:World} {xs ys:Array Value}
theorem ak8 {d sz:Nat} {f:Field} {l:List Field} {us vs:List Value} {e q:Prop} [Decidable e] [Decidable q] (af:(f.name != "_")=true) (di:∀ w,(isAgg f.type).run P w= .ok true w) (a6:∀ w,(Go.sizeOf f.type).run P w= .ok sz w)
 (aj:xs.extract f.offset (f.offset+sz)=us.toArray) (hy:ys.extract f.offset (f.offset+sz)=vs.toArray) (ea:(Op.equalIn (d+ 1) f.type (.agg us.toArray) (.agg vs.toArray)).run P w= .ok (decide q) w)
 (h:(Op.eqFields (d+ 1) xs ys l).run P w= .ok (decide e) w):(Op.eqFields (d+ 1) xs ys (f::l)).run P w= .ok (decide (q/\e)) w:=by
 have Ay:f.name≠ "_" :=by simpa using af
 simp only [Op.eqFields,Ay,if_true,ne_eq,not_false_iff,part,Sem.run_bind,di,a6,Result.andThen_ok,aj,hy,Sem.run_pure,ea]
 by_cases uH:q
 · simp [uH,h]
 · simp [uH]
theorem alg {d:Nat} {t:TypeId} {gP:Array Field} {q:Prop} [Decidable q] (bP:P.underlying t=some (.struct gP)) (b0:P.stoodInHeld t=false) (h:(Op.eqFields d xs ys gP.toList).run P w= .ok (decide q) w):(Op.equalIn (d+ 1) t (.agg xs) (.agg ys)).run P w= .ok (decide q) w:=by
 have I:P.fieldsOf t=gP:=by simp [Program.fieldsOf,bP]
 have dN:=run_equalIn_struct (P:=P) w d t xs ys (by rw [I];exact bP) b0
 rw [I,h] at dN
 exact dN
theorem Gi {d:Nat} {f:Field} {l:List Field} {m n:List UInt8} {e:Prop} [Decidable e] (af:(f.name != "_")=true) (hu:P.underlying f.type=some .string) (di:∀ w,(isAgg f.type).run P w= .ok false w)
 (aj:xs[f.offset]? =some (ao m)) (hy:ys[f.offset]? =some (ao n)) (h:(Op.eqFields (d+ 1) xs ys l).run P w= .ok (decide e) w):(Op.eqFields (d+ 1) xs ys (f::l)).run P w= .ok (decide (m=n/\e)) w:=by
 have Ay:f.name≠ "_" :=by simpa using af
 have heq:(Op.equalIn (d+ 1) f.type (ao m) (ao n)).run P w= .ok (decide (m=n)) w:=by
  simp only [Op.equalIn,Sem.run_bind,run_underlying hu,Result.andThen_ok]
  rw [<-QD m n]
  rfl
 simp only [Op.eqFields,Ay,if_true,ne_eq,not_false_iff,part,Sem.run_bind,di,Result.andThen_ok,aj,hy,Bool.false_eq_true,if_false,Sem.run_pure,heq]
 by_cases uH:m=n
 · subst uH;simp [h]
 · simp [uH]
end
section
variable {P:Program} {ops:Array Oper} {Q:Exit->Act->World->Prop} {a:Act} {w:World} {rest:List Oper} {o:Oper} {n:ha} {d:Nat} {l:List (Nat × Value)}
 {W:World} {M0 X:List Nat} {E:List ap} {D:List ak}
theorem agu {F:Nat->Prop} {w:World}:∀ s:List UInt8,fP N3 F w (s.map fun b=>Value.int .u8 (b.toNat:Int)) s
 | []=>rfl
 | b::r=>⟨[.int .u8 (b.toNat:Int)],_,rfl,rfl,agu r⟩
theorem aGs {t ep e:TypeId} {x:Operand} {s r:List UInt8} (bQ:bytesOf s=some r) (bP:P.underlying t=some .string) (oW:P.underlying ep=some (.slice e)) (he:P.underlying e=some (.int .u8)) (hw:Region.wanted o (yielded ops a.tmps)=true)
 (br:o.op= .convert t ep x) (aj:a.eval x=ao s) (I:Fr n l a) (hm:aw W M0 X w E D) (bZ:o.dst=some d) (af:Nat.blt d n=true)
 (k:∀ bM A c aF,a7 [] w aF->Fr n ((d,.slice A r.length c)::l) bM->aw W M0 X aF E (ak.of (aH N3) [.slice A r.length c] r::D)->wpList P ops Q rest bM aF):wpList P ops Q (o::rest) a w:=by
 unfold bytesOf at bQ
 split at bQ
 · rename_i hle
   simp only [Option.some.injEq] at bQ
   subst bQ
   have iu:=run_bytes_of_string (P:=P) w t ep e ⟨⟨s⟩⟩ bP oW he
   have iv:(⟨⟨s⟩⟩:ByteArray).size=s.length:=rfl
   have hc:=grownCap_ge w s.length 0 e
   have mQ:=grownCap_le_maxLen w s.length 0 e (by simp only [maxLen];omega)
   obtain ⟨B,i_⟩:∃ B,B=bytesRow ⟨⟨s⟩⟩ (grownCap w s.length 0 e):=⟨_,rfl⟩
   obtain ⟨zH,C1⟩:∃ zH,zH=grownCap w s.length 0 e:=⟨_,rfl⟩
   rw [iv,<-i_,<-C1] at iu
   rw [<-C1] at hc mQ
   have hy:cf P o a w (.slice (some ⟨w.heap.size,0,none⟩) s.length zH) (w.drew.alloc (.cells B e (B.size,B.size+ 1))):=by
    simp only [cf,execOp,br,aj,Sem.run_bind,iu,Result.andThen_ok]
    rfl
   have lY:a7 [] w (w.drew.alloc (.cells B e (B.size,B.size+ 1))):=(a7.drew [] w).trans (a7.alloc [] _ _) (by simp)
   have mV:=hm.dz lY
   refine bU hw hy I bZ af fun bM eX=>k bM _ _ _ lY eX (mV.more ⟨_,_,rfl,hc,mQ,(fun h=>by cases h),fun _=>⟨rfl,⟨?_,by show w.heap.size <_;simp⟩,_,agu s,fun j u bb=>?_⟩⟩)
   · intro bh
     have:w.heap.size <w.heap.size:=by
      rcases List.mem_append.1 bh with bL | bL
      · exact Nat.lt_of_lt_of_le (hm.l4 _ bL).1 hm.ev.size
      · exact (hm.lt _ bL).1
     omega
   · rw [List.getElem?_map,Option.map_eq_some_iff] at bb
     obtain ⟨b,aY,rfl⟩:=bb
     obtain ⟨HU,iK⟩:=List.getElem?_eq_some_iff.1 aY
     have:=bytesRow_at ⟨⟨s⟩⟩ (grownCap w s.length 0 e) j (by simpa using HU)
     rw [<-i_] at this
     show World.cell? _ ⟨w.heap.size,0 +j,none⟩=_
     simp only [World.cell?,World.alloc]
     rw [show (w.drew.heap.push _)[w.heap.size]? =some _ from Array.getElem?_push_size (xs:=w.heap)]
     simp only [Nat.zero_add,this]
     simp [iK]
 · cases bQ
end
end a2
namespace a2
open Go Go.RowKit J
section
variable {P:Program} {o:Oper} {a:Act} {w:World} {x y:Operand} {t ep e:TypeId}
theorem tg {A:Option Addr} {n c:Nat} (bP:P.underlying t=some (.slice e)) (br:o.op= .binOp .eql t x y ep) (aj:a.eval x= .slice A n c) (hy:a.eval y= .slice none 0 0):cf P o a w (.bool A.isNone) w:=by
 have h:∀ d:Nat,(Op.equalIn (d+ 1) t (.slice A n c) (.slice none 0 0)).run P w= .ok A.isNone w:=fun d=>by
  cases A <;> simp [Op.equalIn,run_underlying bP]
 have aR:(binOp .eql t (.slice A n c) (.slice none 0 0)).run P w= .ok (.bool A.isNone) w:=by
  simp only [binOp]
  simp [Op.equal,Op.maxDepth,h 9999]
 simp only [cf,execOp,br,aj,hy]
 simp [go_sem,aR]
theorem IE {α:Type} {T:fc α} {M:List Nat} {w:World} {n c:Nat} {l:List α} (h:(ak.of (aH T) [.slice none n c] l).ok M w):l= []/\n= 0 /\c= 0 :=by
 obtain ⟨A,dF,bL,b8,dR,fT,jw⟩:=h
 simp only [List.cons.injEq,Value.slice.injEq,and_true] at bL
 obtain ⟨rfl,rfl,rfl⟩:=bL
 have hc:=fT rfl
 have az:l.length= 0 :=by omega
 exact ⟨List.eq_nil_of_length_eq_zero az,az,hc⟩
theorem Gd {α:Type} {b:Nat} {r:List α} (h:((J.dU b [] []).bind fun l=>some l)=some r):r= []:=by
 simp [J.dU] at h
 exact h
end
section
variable {P:Program} {Q:Exit->Act->World->Prop} {a:Act} {w:World}
def Fs (P:Program) (c:Code) (Q:Exit->Act->World->Prop):Nat->Act->World->Prop
 | 0,_,_=>False
 | n+ 1,a,w=>c.wp P (Exit.then (Fs P c Q n) Q) a w
theorem bn {c:Operand} {x y:Code} {t:Bool} {ρ:Type} {p q:Option ρ} {r:ρ} (hc:a.eval c= .bool t) (h:cond t p q=some r) (bP:t=true->p=some r->x.wp P Q a w) (I:t=false->q=some r->y.wp P Q a w):(Code.cond c x y).wp P Q a w:=
 wp_cond_split hc (fun e=>bP e (c5 e h)) (fun e=>I e (c4 e h))
theorem acC {c:Code} (n:Nat) (h:Fs P c Q n a w):(Code.loop c).wp P Q a w:=by
 refine cB (fun k a w=>Fs P c Q k a w) n h (fun a w h=>h) fun k a w CU K hz=>?_
 exact wp_mono (h:=CU) fun e a w h=>by
  cases e with
  | normal=>exact hz a w h
  | _=>exact h
theorem rW {c:Code} {n:Nat} (h:c.wp P (Exit.then (Fs P c Q n) Q) a w):Fs P c Q (n+ 1) a w:=h
end
end a2
namespace a2
open Go Go.RowKit J
section
variable {P:Program} {ops:Array Oper} {Q:Exit->Act->World->Prop} {a:Act} {w iS aF:World} {rest:List Oper} {o:Oper} {n:ha} {d:Nat} {l:List (Nat × Value)}
 {W:World} {M0 X:List Nat} {E:List ap} {D:List ak}
theorem aw.DO (h:aw W M0 X w E D) {g:Nat} {t:TypeId} {cs:List Value} {x:ap} (i j:Nat) (hi:E[i]? =some (ap.bm g t cs)) (bb:E[j]? =some x) (eN:i≠j):g ∉ x.fH:=fun bh=>
 (LH h.dW i _ hi).2 j x bb eN g (by simp [ap.bm]) bh
theorem q9 {g:Nat} (h:a7 [] iS w) (dN:a7 [g] w aF) (di:iS.heap.size<=g):a7 [] iS aF:=h.trans dN (fun x aj=>.inr (by simp at aj;omega))
theorem CP {M:List Nat} {p:Addr} {cs:List Value} (h:a7 M w aF) (af:p.block ∉ M) (dP:p.block <w.heap.size) (hc:iW w p cs):iW aF p cs:=hc.law (h.block p.block dP af)
theorem aGv {t:TypeId} {cs:List Value} (hw:Region.wanted o (yielded ops a.tmps)=true) (hy:cf P o a w (.pointer (some ⟨w.heap.size,0,none⟩)) (w.alloc (.cells cs.toArray t))) (I:Fr n l a) (hm:aw W M0 X w E D)
 (bZ:o.dst=some d) (af:Nat.blt d n=true) (k:∀ bM g aF,a7 [] w aF->w.heap.size<=g->Fr n ((d,.pointer (some ⟨g,0,none⟩))::l) bM->aw W M0 X aF (ap.bm g t cs::E) D->wpList P ops Q rest bM aF):wpList P ops Q (o::rest) a w:=
 bU hw hy I bZ af fun bM eX=>k bM _ _ (a7.alloc _ _ _) (Nat.le_refl _) eX (hm.new t cs)
theorem nW {t:TypeId} {cs:List Value} {m:Nat} (hw:Region.wanted o (yielded ops a.tmps)=true) (hy:cf P o a w (.slice (some ⟨w.heap.size,0,none⟩) m m) (w.alloc (.cells cs.toArray t))) (I:Fr n l a) (hm:aw W M0 X w E D)
 (bZ:o.dst=some d) (af:Nat.blt d n=true) (k:∀ bM g aF,a7 [] w aF->w.heap.size<=g->Fr n ((d,.slice (some ⟨g,0,none⟩) m m)::l) bM->aw W M0 X aF (ap.bm g t cs::E) D->wpList P ops Q rest bM aF):wpList P ops Q (o::rest) a w:=
 bU hw hy I bZ af fun bM eX=>k bM _ _ (a7.alloc _ _ _) (Nat.le_refl _) eX (hm.new t cs)
theorem Ba {g p sz:Nat} {t pj:TypeId} {x y:Operand} {cs vs:List Value} {v:Value} (i:Nat) (hm:aw W M0 X w E D) (hi:E[i]? =some (ap.bm g pj cs)) (hw:Region.wanted o (yielded ops a.tmps)=true)
 (ad:v.cells=vs.toArray) (a6:∀ w,(Go.sizeOf t).run P w= .ok sz w) (az:Nat.beq vs.length sz=true) (aB:vs.all (·.oneCell')=true) (hle:Nat.ble (p+vs.length) cs.length=true)
 (br:o.op= .store t x y) (aj:a.eval x= .pointer (some ⟨g,p,none⟩)) (hy:a.eval y=v) (bZ:o.dst=none)
 (k:∀ aF,a7 [g] w aF->aw W M0 X aF (E.set i (ap.bm g pj (lay cs p vs))) D->wpList P ops Q rest a aF):wpList P ops Q (o::rest) a w:=by
 obtain ⟨aF,aB,aR,bT⟩:=ahX ad a6 az aB hle (hm.e i hi) br aj hy
 exact N0 hw aB bZ (k aF aR (hm.vP i hi aR bT (by simp [ap.bm]) (fun k bh=>.inl bh)))
end
end a2
namespace a2
open Go Go.RowKit J
def qs:List Oper->Bool
 | []=>true
 | o::r=>(match o.op with
   | .defer _=>false
   | _=>true) && qs r
theorem M8:∀ {l:List Oper},qs l=true-> ∀ o ∈ l,∀ c,o.op≠ .defer c
 | [],_,o,br,_=>by simp at br
 | p::r,h,o,br,c=>by
   simp only [qs,Bool.and_eq_true] at h
   rcases List.mem_cons.1 br with rfl | e
   · intro b8
     rw [b8] at h
     exact absurd h.1 (by simp)
   · exact M8 h.2 o e c
def kf (ro:Option Nat):Fence:={ Fence.wide with round:=ro }
theorem YC {ro:Option Nat} {q:Prop}:(kf ro).depth.isSome=true->q:=fun h=>by simp [kf,Fence.wide] at h
section
variable {P:Program} {ops:Array Oper} {Q:Exit->Act->World->Prop} {K:Act->World->Prop} {a:Act} {w:World} {o:Oper} {ro:Option Nat} {n:Nat}
theorem Xx (bZ:∀ c,o.op≠ .defer c) (h:o.wp P a w K Q):o.wpIn (kf ro) n P a w K Q:=by
 unfold Oper.wpIn
 refine ⟨fun _ _=>trivial,?_⟩
 rw [Oper.semAt_eq _ _ _ bZ]
 unfold Oper.wp at h
 generalize (execOp a.eval o).run P w=r at *
 cases r with
 | ok x aF=>
   cases x <;> simp only [Oper.upon,Oper.uponIn] at h ⊢ <;> first
    | exact h
    | exact ⟨YC,(callsIn_wide (n:=n - 1)).2 h⟩
    | exact ⟨YC,fun c cs _=>let ⟨v,aF,r,s⟩:=h c cs;⟨v,aF,r,stepsIn_wide.2 s⟩⟩
 | halt x aF=>cases x <;> simp only [Oper.upon,Oper.uponIn] at h ⊢ <;> exact h
theorem MY (gw:∀ a w,¬ Q .outgrown a w):∀ {os:List Oper} {a:Act} {w:World},qs os=true->wpList P ops Q os a w->wpListIn (kf ro) n P ops Q os a w
 | [],_,_,_,h=>h
 | o::r,a,w,bZ,h=>by
   have Al:=bZ
   simp only [qs,Bool.and_eq_true] at Al
   simp only [wpList] at h
   simp only [wpListIn]
   split
   · rename_i hw
     rw [if_pos hw] at h
     rcases h with h | ⟨_,bM,aF,h⟩
     · exact Xx (M8 bZ o (by simp)) (Oper.wp_mono (fun a w h=>MY gw Al.2 h) h)
     · exact absurd h (gw _ _)
   · rename_i hw
     rw [if_neg hw] at h
     exact ⟨fun _ _=>trivial,MY gw Al.2 h⟩
theorem aGa (k:Nat) {lo:List Oper} (bZ:qs (lo.take k)=true) (h:wpList P ops (Exit.then (wpListIn (kf ro) n P ops Q (lo.drop k)) (fun _ _ _=>False)) (lo.take k) a w):wpListIn (kf ro) n P ops Q lo a w:=by
 have key:∀ (os rest:List Oper) (a:Act) (w:World),qs os=true->wpList P ops (Exit.then (wpListIn (kf ro) n P ops Q rest) (fun _ _ _=>False)) os a w->wpListIn (kf ro) n P ops Q (os++rest) a w:=by
  intro os
  induction os with
  | nil=>intro rest a w _ h;exact h
  | cons o r ct=>
    intro rest a w bZ h
    have Al:=bZ
    simp only [qs,Bool.and_eq_true] at Al
    simp only [wpList] at h
    simp only [List.cons_append,wpListIn]
    split
    · rename_i hw
      rw [if_pos hw] at h
      rcases h with h | ⟨_,bM,aF,h⟩
      · have aB:=Xx (ro:=ro) (n:=n) (M8 bZ o (by simp)) (Oper.wp_mono (fun a w h=>ct rest a w Al.2 h) h)
        refine ⟨aB.1,?_⟩
        have aR:=aB.2
        revert aR
        generalize (o.semAt (kf ro).round a.eval).run P w=Nd
        intro aR
        cases Nd with
        | ok x aF=>
          cases x <;> simp only [Oper.uponIn] at aR ⊢ <;> first
           | exact aR
           | exact ⟨aR.1,CallsIn.mono aR.2 (fun e ag4 he=>by cases e <;> first | exact he | exact absurd he (by simp [Exit.then,LetsOut]))⟩
           | exact ⟨aR.1,RoundIn.mono aR.2 (fun e ag4 he=>by cases e <;> first | exact he | exact absurd he (by simp [Exit.then,LetsOut]))⟩
        | halt x aF=>cases x <;> simp only [Oper.uponIn] at aR ⊢ <;> first | exact aR | exact absurd aR (by simp [Exit.then])
      · exact absurd h (by simp [Exit.then])
    · rename_i hw
      rw [if_neg hw] at h
      exact ⟨fun _ _=>trivial,ct rest _ _ Al.2 h⟩
 have:=key (lo.take k) (lo.drop k) a w bZ h
 rwa [List.take_append_drop] at this
theorem aGG (gw:∀ a w,¬ Q .outgrown a w) (bZ:qs ops.toList=true) {i:Nat} (h:wpOp P ops Q i K a w):wpOpIn (kf ro) n P ops Q i K a w:=by
 unfold wpOp at h
 unfold wpOpIn
 split
 · rename_i bJ
   rw [bJ] at h
   exact h
 · rename_i o br
   rw [br] at h
   have hm:o ∈ ops.toList:=by
    have:=List.mem_of_getElem? (l:=ops.toList) (i:=i) (a:=o) (by rw [Array.getElem?_toList];exact br)
    exact this
   simp only at h
   split
   · rename_i hw
     rw [if_pos hw] at h
     rcases h with h | ⟨_,bM,aF,h⟩
     · exact Xx (M8 bZ o hm) h
     · exact absurd h (gw _ _)
   · rename_i hw
     rw [if_neg hw] at h
     exact ⟨fun _ _=>trivial,h⟩
theorem aaJ (gw:∀ a w,¬ Q .outgrown a w) (bZ:qs ops.toList=true):∀ {f:Nat} {gR:Array Bool} {a:Act} {w:World},wpAny P .any ops Q f gR a w->wpAnyIn (kf ro) n P .any ops Q f gR a w
 | 0,_,_,_,h=>h
 | f+ 1,gR,a,w,h=>⟨h.1,fun i hi=>aGG gw bZ (wpOp_mono (fun a w h=>aaJ gw bZ h) (h.2 i hi))⟩
end
def iY (ro:Option Nat) (n:Nat) (P:Program) (c:Code) (Q:Exit->Act->World->Prop) (a:Act) (w:World):Prop:=(∀ a w,¬ Q .outgrown a w)->c.wpIn (kf ro) n P Q a w
section
variable {P:Program} {Q:Exit->Act->World->Prop} {a:Act} {w:World} {ro:Option Nat} {n:Nat}
theorem N_ (h:Q .normal a w):iY ro n P .skip Q a w:=fun _=>wpIn_skip h
theorem Y6 {id:Nat} (h:Q (.exit id) a w):iY ro n P (.exit id) Q a w:=fun _=>wpIn_exit h
theorem nn {x y:Code} (h:∀ K:Act->World->Prop,(∀ a w,iY ro n P y Q a w->K a w)->iY ro n P x (Exit.then K Q) a w):iY ro n P (.seq x y) Q a w:=
 fun gw=>wpIn_seq (h _ (fun _ _ h=>h gw) gw)
theorem Y5 {c:Operand} {x y:Code} {t:Bool} (hc:a.eval c= .bool t) (bP:t=true->iY ro n P x Q a w) (I:t=false->iY ro n P y Q a w):iY ro n P (.cond c x y) Q a w:=
 fun gw=>wpIn_cond_split hc (fun e=>bP e gw) (fun e=>I e gw)
theorem aIy {c:Operand} {x y:Code} {b:Bool} (hc:a.eval c= .bool b) (aY:b=false) (h:iY ro n P y Q a w):iY ro n P (.cond c x y) Q a w:=fun gw=>wpIn_cond_false (by rw [hc,aY]) (h gw)
theorem Y3 {id:Nat} {c:Code} (h:iY ro n P c (Exit.inBlock id Q) a w):iY ro n P (.block id c) Q a w:=fun gw=>wpIn_block (h gw)
theorem Y4 {id:Nat} {c:Code} (lM:Act->World->Prop) (aj:∀ K:Act->World->Prop,(∀ a w,lM a w->K a w)->iY ro n P c (Exit.inBlock id (Exit.then K Q)) a w) (hy:∀ a w,lM a w->Q .normal a w):iY ro n P (.block id c) Q a w:=by
 intro gw
 refine wpIn_block (wpIn_mono (aj _ hy gw) ?_)
 intro e a w h
 cases e with
 | exit i=>
   by_cases hi:i=id
   · simpa [Exit.inBlock,Exit.then,hi] using h
   · simpa [Exit.inBlock,Exit.then,hi] using h
 | _=>exact h
theorem ahf {c:Code} (ol:Nat->Act->World->Prop) (k:Nat) (h:ol k a w) (bJ:∀ a w,¬ ol 0 a w)
 (round:∀ k a w,ol (k+ 1) a w-> ∀ K:Act->World->Prop,(∀ a w,ol k a w->K a w)->iY ro n P c (Exit.then K Q) a w):iY ro n P (.loop c) Q a w:=by
 intro gw
 refine wpIn_loop (fun a w=>∃ n,ol n a w) (fun a w=>leastOf (fun n=>ol n a w)) ⟨k,h⟩ ?_
 intro a w CU
 have aB:=(leastOf_spec CU).1
 cases bh:leastOf (fun n=>ol n a w) with
 | zero=>rw [bh] at aB;exact absurd aB (bJ a w)
 | succ m=>
   rw [bh] at aB
   exact round m a w aB _ (fun bM aF dN=>⟨⟨m,dN⟩,Nat.lt_succ_of_le ((leastOf_spec ⟨m,dN⟩).2 m dN)⟩) gw
theorem pn {id:Nat} {l:List Oper} (bZ:qs l=true) (h:wpList P l.toArray Q l a w):iY ro n P (.region id l.toArray false) Q a w:=fun gw=>wpIn_region_lit (MY gw bZ h)
theorem ahe {id m:Nat} {lo:List Oper} (p:Nat) (S:World->World->Prop) (hm:P.follows .mixedOrders=true) (az:Nat.beq lo.length m=true) (bZ:qs lo=true) (h:∀ aF,a7 [] w aF->dT P lo.toArray Q p (S aF) m [] a aF):iY ro n P (.region id lo.toArray true) Q a w:=by
 have az:=Nat.eq_of_beq_eq_true az
 subst az
 intro gw
 exact wpIn_mono (Q:=NoPanic Q) (wpIn_region_any hm (aaJ (Q:=NoPanic Q) (fun a w=>gw a w) bZ (h _ (a7.drew [] w)).wpAny)) NoPanic.imp
theorem aIz {id:Nat} {l:List Oper} (h:(∀ a w,¬ Q .outgrown a w)->wpListIn (kf ro) n P l.toArray Q l a w):iY ro n P (.region id l.toArray false) Q a w:=fun gw=>wpIn_region_lit (h gw)
end
def ap.obj (g:Nat) (o:Obj):ap where
 fH:=[g]
 ok w:=w.heap[g]? =some o
 law w aF h bh:=(h g (by simp)).trans bh
section
variable {W w:World} {M0 X:List Nat} {E:List ap} {D:List ak}
theorem alm (w:World) (g:Nat) (o:Obj):a7 [g] w (w.putObj g o):=
 ⟨rfl,rfl,rfl,by simp,fun k _ af=>World.putObj_heap_other (by simpa using af)⟩
theorem aw.putObj {g:Nat} {o:Obj} (hm:aw W M0 X w E D) (i:Nat) (hi:E[i]? =some (ap.obj g o)) (lC:Obj):aw W M0 X (w.putObj g lC) (E.set i (ap.obj g lC)) D:=
 hm.vP i hi (alm w g lC) (by
   have h:w.heap[g]? =some o:=hm.e i hi
   exact World.putObj_heap_same (Array.getElem?_eq_some_iff.1 h).1) (by simp [ap.obj]) (fun k bh=>.inl bh)
theorem aw.newObj (hm:aw W M0 X w E D) (o:Obj):aw W M0 X (w.alloc o) (ap.obj w.heap.size o::E) D:=
 hm.push _ (a7.alloc _ _ _) (World.alloc_heap_new w o) (fun k bh=>by simp [ap.obj] at bh;subst bh;exact ⟨Nat.le_refl _,by simp⟩) (by simp [ap.obj])
end
def mark (r:Nat):Deferred:={ target:=.collected r,args:=#[] }
theorem ac0 {P:Program} {f:FuncId} {fn:Func} {c:Code} {vs:List Value} {w:World} {R:Ending->World->Prop} {n:Nat}
 (I:P.funcs[f]? =some fn) (aY:fn.body=some c) (af:fn.ntmps=n) (az:Nat.ble vs.length n=true)
 (h:∀ a,Fr ⟨n,[]⟩ (xI 0 vs) a->c.wp P (bodyPostM Fence.wide 0 P fn R) a w):Calls P f vs.toArray w R:=by
 refine (callsIn_wide (n:=0)).1 (callsIn_of_wp_marks I aY trivial (wpIn_wide.2 ?_))
 rw [af]
 exact h _ (Fr.init vs n az)
section
variable {P:Program} {a:Act} {w:World} {W:World} {M0 X:List Nat} {E:List ap} {D:List ak} {fn:Func} {R:Ending->World->Prop} {l:List (Nat × Value)} {n g t u:Nat} {v iR:Value}
theorem af1 (i:Nat) (I:Fr ⟨n,[mark g]⟩ l a) (hm:aw W M0 X w E D) (hi:E[i]? =some (ap.obj g (.deferred (some [])))) (h:∀ aF,aw W M0 X aF (E.set i (ap.obj g (.deferred none))) D-> ∃ v,(results fn a.tmps).run P aF= .ok v aF/\R (.returned v) aF) :
 bodyPostM Fence.wide 0 P fn R .ret a w:=by
 show LeavesInM Fence.wide 0 P fn a.tmps R a.defers .returning w
 rw [I.defers]
 exact ⟨by simp,.inl ⟨g,_,rfl,run_takeDeferred (hm.e i hi),h _ (hm.putObj i hi _)⟩⟩
theorem aGf (i:Nat) (bQ:fn.results= #[.tmp t]) (I:Fr ⟨n,[mark g]⟩ l a) (hm:aw W M0 X w E D) (hi:E[i]? =some (ap.obj g (.deferred (some [])))) (az:fr l t=some v)
 (h:∀ aF,aw W M0 X aF (E.set i (ap.obj g (.deferred none))) D->R (.returned v) aF):bodyPostM Fence.wide 0 P fn R .ret a w:=
 af1 i I hm hi fun aF gG=>⟨_,results_tmp bQ _ _ _,by rw [I.get _ _ az];exact h aF gG⟩
theorem aGg (i:Nat) (bQ:fn.results= #[.tmp t,.tmp u]) (I:Fr ⟨n,[mark g]⟩ l a) (hm:aw W M0 X w E D) (hi:E[i]? =some (ap.obj g (.deferred (some [])))) (az:fr l t=some v) (pG:fr l u=some iR)
 (h:∀ aF,aw W M0 X aF (E.set i (ap.obj g (.deferred none))) D->R (.returned (.tuple #[v,iR])) aF):bodyPostM Fence.wide 0 P fn R .ret a w:=
 af1 i I hm hi fun aF gG=>⟨_,results_tmp2 bQ _ _ _,by rw [I.get _ _ az,I.get _ _ pG];exact h aF gG⟩
end
theorem ak6 {P:Program} {f:FuncId} {fn:Func} {c:Code} {vs:List Value} {w:World} {R:Ending->World->Prop} {n:Nat}
 (I:P.funcs[f]? =some fn) (aY:fn.body=some c) (af:fn.ntmps=n) (az:Nat.ble vs.length n=true) (g4:∀ w,¬ R .outgrown w)
 (h:∀ a,Fr ⟨n,[]⟩ (xI 0 vs) a->iY none 1 P c (bodyPost P fn R) a w):CallsIn (kf none) 1 P f vs.toArray w R:=by
 refine callsIn_of_wp I aY trivial ?_
 rw [af]
 exact h _ (Fr.init vs n az) (fun a w h=>g4 w h)
theorem zF {P:Program} {fn:Func} {R:Ending->World->Prop} {a:Act} {w:World} (h:bodyPost P fn R .ret a w):bodyPost P fn R .normal a w:=h
theorem ag5 {n:Nat} (h:n<=maxLen):J.av ((n:Int) - 1)=(n:Int) - 1 :=by
 unfold J.av
 simp only [maxLen] at h
 omega
theorem aFC {jV pre rem:List Int} {x:Int} (h:jV=(x::rem).reverse++pre):J.idx jV (rem.length:Int)=some x:=by
 subst h
 unfold J.idx
 rw [if_pos (by omega)]
 simp
def aaE (P:Program) (f:FuncId):Prop:=∀ (lM:List Int->World->Prop) (jV:List Int) (A:Option Addr) (c km L:Nat) (iS:World),
 (∀ rem w,lM rem w-> ∃ W M0 X E,aw W M0 X w E [ak.cZ km [.slice A jV.length c],ak.of (aH (ai .i64)) [.slice A jV.length c] jV]) ->
 (∀ x rem w,lM (x::rem) w->YieldAt (kf none) 0 P L #[.int .i64 (rem.length:Int),.int .i64 x] w (fun e aF=>e= .returned (.bool true)/\lM rem aF)) ->
 lM jV.reverse iS->CallsIn (kf none) 1 P f #[.func (.yield L) #[] #[],.pointer (some ⟨km,0,none⟩)] iS (fun e aF=>(∃ v,e= .returned v)/\lM [] aF)
section
variable {P:Program} {ops:Array Oper} {Q:Exit->Act->World->Prop} {a:Act} {w:World} {rest:List Oper} {o:Oper} {n:ha} {d L:Nat} {l:List (Nat × Value)}
theorem aHL {q_:Operand} {xs:List Operand} {k9:Array TypeId} {vs:List Value} (br:o.op= .call { callee:=.value q_,args:=xs.toArray,argTypes:=k9 }) (An:a.eval q_= .func (.yield L) #[] #[]) (hE:xN a xs vs) :
 (execOp a.eval o).run P w=(Instr.yield L vs.toArray).run P w:=by
 have aB:=LG hE
 simp only [execOp,br,resolve,List.map_toArray,aB,An]
 simp [Deferred.ofValue,invoke]
theorem aJY {q_:Operand} {xs:List Operand} {k9:Array TypeId} {vs:List Value} {R:Ending->World->Prop} (hw:Region.wanted o (yielded ops a.tmps)=true) (br:o.op= .call { callee:=.value q_,args:=xs.toArray,argTypes:=k9 })
 (An:a.eval q_= .func (.yield L) #[] #[]) (hE:xN a xs vs) (hy:YieldAt (kf none) 0 P L vs.toArray w R) (I:Fr n l a) (bZ:o.dst=some d) (af:Nat.blt d n=true)
 (k:∀ e aF,R e aF-> ∃ v,e= .returned v/\ ∀ bM,Fr n ((d,v)::l) bM->wpListIn (kf none) 1 P ops Q rest bM aF):wpListIn (kf none) 1 P ops Q (o::rest) a w:=by
 refine wpListIn_step fun K hz=>?_
 rw [if_pos hw]
 refine ⟨fun _ _=>trivial,?_⟩
 obtain ⟨fn,tmps,assign,body,aB,aR⟩:=hy
 rw [Oper.semAt_eq _ _ _ (by rw [br];simp),aHL br An hE,aB]
 refine ⟨YC,RoundIn.mono aR ?_⟩
 intro e aF bQ
 obtain ⟨v,rfl,bh⟩:=k e aF bQ
 rw [bZ]
 exact hz _ _ (bh _ (I.put af))
end
section
variable {P:Program} {Q:Exit->Act->World->Prop} {a:Act} {w:World} {W:World} {M0 X:List Nat} {E:List ap} {D:List ak}
theorem ach {β:Type} {Dr agT ig hr n km c:Nat} {A:Option Addr} {l:List (Nat × Value)} {l1:Int->Int->List (Nat × Value)} {assign body:Code} (B4:β->List ap) (wA:β->List ak) (rel:List Int->β->Prop) (jV:List Int) (xi:β) (hH iy:Nat)
 (azp:aaE P Dr) (acZ:∀ args w,(callFunc Dr args).run P w= .ok (.enter Dr args) w)
 (I:Fr ⟨n,[]⟩ l a) (di:fr l agT=some (.func (.func Dr) #[] #[.pointer (some ⟨km,0,none⟩)])) (aAt:Nat.blt ig n=true) (aAu:Nat.blt hr n=true)
 (hm:aw W M0 X w (B4 xi) (wA xi)) (bJ:rel jV.reverse xi)
 (aAx:∀ b,(wA b)[hH]? =some (ak.cZ km [.slice A jV.length c])) (aAz:∀ b,(wA b)[iy]? =some (ak.of (aH (ai .i64)) [.slice A jV.length c] jV))
 (bB:∀ L i x w bM (K:Act->World->Prop),Fr ⟨n,[]⟩ ((hr,.int .i64 x)::(ig,.int .i64 i)::l) bM->(∀ Cf,Fr ⟨n,[]⟩ (l1 i x) Cf->K Cf w)->iY (some L) 0 P assign (Exit.then K (fun _ _ _=>False)) bM w)
 (aY:∀ L g qt jL qu b i x rem w bM (K:Exit->Act->World->Prop),rel (x::rem) b->Fr ⟨n,[]⟩ (l1 i x) bM->aw W M0 X w (ap.obj g qt::ap.obj jL qu::B4 b) (wA b) ->
  (∀ tK Cf aF,rel rem tK->aw W M0 X aF (ap.obj g qt::ap.obj jL qu::B4 tK) (wA tK)->K .normal Cf aF)->iY (some L) 0 P body K bM w)
 (awy:∀ g b bM aF,rel [] b->Fr ⟨n,[mark g]⟩ l bM->aw W M0 X aF (ap.obj g (.deferred (some []))::B4 b) (wA b)->Q .normal bM aF) :
 (Code.rangeFunc (.tmp agT) #[ig,hr] assign body).wp P Q a w:=by
 refine (wpIn_wide (n:=2)).1 (wpIn_rangeFunc fun fn _=>?_)
 obtain ⟨rec,x9⟩:∃ rec:LoopState->Loop,rec=fun st=>{ state:=st,pending:=none,fn,tmps:=a.tmps,params:=#[ig,hr],assign,body,defers:=w.heap.size }:=⟨_,rfl⟩
 obtain ⟨zD,adG⟩:∃ zD,(w.alloc (.deferred (some []))).alloc (.loop (rec .ready))=zD:=⟨_,rfl⟩
 have aAh:aw W M0 X zD (ap.obj (w.heap.size+ 1) (.loop (rec .ready))::ap.obj w.heap.size (.deferred (some []))::B4 xi) (wA xi):=by
  have:=(hm.newObj (.deferred (some []))).newObj (.loop (rec .ready))
  rw [adG] at this
  simpa using this
 refine ⟨w.heap.size+ 1,[mark w.heap.size],zD,{ target:=.fn (.func Dr) #[.pointer (some ⟨km,0,none⟩)],args:=#[.func (.yield (w.heap.size+ 1)) #[] #[]] },zD,Dr,
  #[.func (.yield (w.heap.size+ 1)) #[] #[],.pointer (some ⟨km,0,none⟩)],zD,?_,?_,fun _ _=>trivial,?_,fun _=>by decide,?_⟩
 · rw [<-adG,x9];exact run_enterLoop_outer _ _ _ _ _
 · have SN:=I.g di
   simp only [resolve,SN]
   simp [go_sem]
 · simp [invoke,go_sem,acZ]
 · refine CallsIn.mono (azp (fun rem aF=>∃ b,rel rem b/\aw W M0 X aF (ap.obj (w.heap.size+ 1) (.loop (rec .ready))::ap.obj w.heap.size (.deferred (some []))::B4 b) (wA b)) jV A c km (w.heap.size+ 1) zD ?_ ?_ ⟨xi,bJ,aAh⟩) ?_
   · rintro rem aF ⟨b,_,gG⟩
     exact ⟨_,_,_,_,gG.less fun y hy=>by
      simp only [List.mem_cons,List.not_mem_nil,or_false] at hy
      rcases hy with rfl | rfl
      · exact List.mem_of_getElem? (aAx b)
      · exact List.mem_of_getElem? (aAz b)⟩
   · rintro x rem aF ⟨b,bQ,gG⟩
     have az:aF.heap[w.heap.size+ 1]? =some (.loop (rec .ready)):=gG.e 0 rfl
     have hy:=run_yield (P:=P) (args:=#[.int .i64 (rem.length:Int),.int .i64 x]) az (by rw [x9];rfl)
     rw [x9] at hy
     refine ⟨fn,_,assign,body,hy,roundIn_of_wpIn trivial ?_⟩
     have awF:Fr ⟨n,[]⟩ ((hr,.int .i64 x)::(ig,.int .i64 (rem.length:Int))::l) ⟨((#[ig,hr]:Array Tmp).zip #[Value.int .i64 (rem.length:Int),.int .i64 x]).foldl (fun tmps (x:Tmp × Value)=>tmps.setIfInBounds x.1 x.2) a.tmps,[]⟩:=by
      have aB:=(I.put (v:=.int .i64 (rem.length:Int)) aAt).put (v:=.int .i64 x) aAu
      have e:((#[ig,hr]:Array Tmp).zip #[Value.int .i64 (rem.length:Int),.int .i64 x]).foldl (fun tmps (x:Tmp × Value)=>tmps.setIfInBounds x.1 x.2) a.tmps=((a.put (some ig) (.int .i64 (rem.length:Int))).put (some hr) (.int .i64 x)).tmps:=by simp [Act.put]
      refine ⟨?_,rfl,?_⟩
      · simp only [e];exact aB.size
      · simp only [e];exact aB.get
     refine bB (w.heap.size+ 1) _ _ aF _ _ awF ?_ (fun a w h=>h)
     intro Cf awE
     have mV:=gG.putObj 0 rfl (.loop { rec .ready with state:=.busy })
     refine ⟨_,run_beginRound az (by rw [x9]),?_⟩
     refine aY (w.heap.size+ 1) _ _ _ _ b _ x rem _ Cf _ bQ awE mV ?_ (fun a w h=>h)
     intro tK a3 pk H7 HZ
     have UI:pk.heap[w.heap.size+ 1]? =some (.loop { rec .ready with state:=.busy }):=HZ.e 0 rfl
     refine ⟨_,_,run_endRound none UI,rfl,tK,H7,?_⟩
     have H0:=HZ.putObj 0 rfl (.loop (rec .ready))
     rw [x9] at H0 ⊢
     exact H0
   · rintro e pk ⟨⟨v,rfl⟩,b,bQ,HZ⟩
     have UI:pk.heap[w.heap.size+ 1]? =some (.loop (rec .ready)):=HZ.e 0 rfl
     have he:=run_endLoop (P:=P) UI (by rw [x9];simp)
     rw [x9] at he
     refine ⟨none,_,he,?_⟩
     have H0:=HZ.putObj 0 rfl (.loop { rec .ready with state:=.exhausted })
     rw [x9] at H0
     refine awy w.heap.size b _ _ bQ ⟨I.size,?_,I.get⟩ (H0.drop (List.sublist_cons_self _ _))
     show [mark w.heap.size]++a.defers= [mark w.heap.size]
     rw [I.defers];rfl
end
end a2
namespace a2
open Go Go.RowKit J
def ak.Bg:ak:=⟨fun _ _=>True,fun _ _ _ _ _ _ _=>trivial⟩
def ak.ew {α:Type} (o:Option α) (f:α->ak):ak:=match o with
 | none=>ak.Bg
 | some x=>f x
def j2 {α:Type} (o:Option α) (g:Nat):Option Addr:=match o with
 | none=>none
 | some _=>some ⟨g,0,none⟩
section
variable {P:Program} {ops:Array Oper} {Q:Exit->Act->World->Prop} {a:Act} {w:World} {rest:List Oper} {o:Oper} {n:ha} {d:Nat} {l:List (Nat × Value)}
 {W:World} {M0 X:List Nat} {E:List ap} {D:List ak}
theorem aw.none (h:aw W M0 X w E D) {α:Type} (f:α->ak):aw W M0 X w E (ak.ew (Option.none:Option α) f::D):=h.more (y:=ak.ew (Option.none:Option α) f) trivial
theorem aH1 {α:Type} {T:fc α} {t e:TypeId} {x y:Operand} {z:Value} {bytes:Nat} {k:Int} {z0:α} {r:List α}
 (hm:aw W M0 X w E D) (iJ:P.underlying t=some (.slice e)) (kr:(P.info? e).map (fun i=>(i.zero,i.size,i.bytes))=some (some z,1,bytes)) (Dm:z.cells= #[z]) (z7:T.size= 1)
 (Dk:∀ F w,T.rd F w [z] z0) (i':Nat.ble 1 bytes=true) (bQ:M3 z0 bytes k=some r) (hw:Region.wanted o (yielded ops a.tmps)=true) (br:o.op= .makeSlice t x y) (aj:a.eval x= .int .i64 k) (hy:a.eval y= .int .i64 k)
 (I:Fr n l a) (bZ:o.dst=some d) (af:Nat.blt d n=true)
 (next:∀ bM A c xs aF,a7 [] w aF->Fr n ((d,.slice A r.length c)::l) bM->aw W M0 X aF (ap.row e T.size (.slice A r.length c) r xs::E) (ak.rows T xs r::D)->wpList P ops Q rest bM aF):wpList P ops Q (o::rest) a w:=by
 obtain ⟨bJ,aB,rfl⟩:=aGo bQ
 obtain ⟨m,rfl⟩:=Int.eq_ofNat_of_zero_le bJ
 simp only [Int.toNat_natCast] at *
 have i':=Nat.le_of_ble_eq_true i'
 have hle:m<=bytes*m:=Nat.le_mul_of_pos_left m i'
 have iu:=run_make_row' (P:=P) t e z bytes iJ kr Dm .i64 .i64 m (by omega) (by omega) w
 have AK:cf P o a w (.slice (some ⟨w.heap.size,0,none⟩) m m) (w.alloc (.cells (madeCells #[z] m) e)):=by
  simp only [cf,execOp,br,aj,hy,Sem.run_bind,iu,Result.andThen_ok,Sem.run_pure]
 have ku:(ap.row e T.size (.slice (some ⟨w.heap.size,0,none⟩) m m) (List.replicate m z0) (List.replicate m z)).ok (w.alloc (.cells (madeCells #[z] m) e)):=by
  refine ⟨by simp [z7],.inr ⟨w.heap.size,m,madeCells #[z] m,by simp,Nat.zero_le _,heap_alloc_new w _,by simp,by simp only [maxLen];omega,by simp [size_madeCells,z7],?_⟩⟩
  rw [toList_madeCells_one]
  simp [z7]
 have aCq:∀ (F:Nat->Prop) (w:World) (q:Nat),fP T F w (List.replicate q z) (List.replicate q z0):=by
  intro F w q
  induction q with
  | zero=>rfl
  | succ q ct=>exact ⟨[z],List.replicate q z,rfl,Dk F w,ct⟩
 have mV:=hm.push (ap.row e T.size (.slice (some ⟨w.heap.size,0,none⟩) m m) (List.replicate m z0) (List.replicate m z)) (a7.alloc [] w _) ku (fun q ea=>by
  have:q=w.heap.size:=by simpa [ap.row,Value.ownBlock,eq_comm] using ea
  subst this;simp) (by simp [ap.row,Value.ownBlock])
 refine bU hw AK I bZ af fun bM eX=>next bM (some ⟨w.heap.size,0,none⟩) m (List.replicate m z) _ (a7.alloc [] w _) ?_ ?_
 · simpa using eX
 · have:=mV.D1 (T:=T) (xs:=List.replicate m z) (li:=List.replicate m z0) (aCq _ _ m)
   simpa using this
theorem agx {α:Type} {T:fc α} {z:Value} {z0:α} (Dk:∀ F w,T.rd F w [z] z0) (F:Nat->Prop) (w:World):∀ q:Nat,fP T F w (List.replicate q z) (List.replicate q z0)
 | 0 =>rfl
 | q+ 1 =>⟨[z],List.replicate q z,rfl,Dk F w,agx Dk F w q⟩
theorem aHR {α:Type} {T:fc α} {t YS e:TypeId} {x y:Operand} {z:Value} {bytes:Nat} {k:Int} {z0:α} {r:List α}
 (hm:aw W M0 X w E D) (iJ:P.underlying t=some (.slice e)) (app:P.underlying YS=some (.int .i64)) (kr:(P.info? e).map (fun i=>(i.zero,i.size,i.bytes))=some (some z,1,bytes)) (Dm:z.cells= #[z]) (z7:T.size= 1)
 (Dk:∀ F w,T.rd F w [z] z0) (i':Nat.ble 1 bytes=true) (bQ:Fu z0 bytes k=some r) (hw:Region.wanted o (yielded ops a.tmps)=true) (br:o.op= .call { callee:=.builtin .append,args:=#[x,y],argTypes:=#[t,YS] })
 (aj:a.eval x= .slice none 0 0) (hy:a.eval y= .int .i64 k) (I:Fr n l a) (bZ:o.dst=some d) (af:Nat.blt d n=true)
 (next:∀ bM A c xs aF,a7 [] w aF->Fr n ((d,.slice A r.length c)::l) bM->aw W M0 X aF (ap.row e T.size (.slice A r.length c) r xs::E) (ak.rows T xs r::D)->wpList P ops Q rest bM aF):wpList P ops Q (o::rest) a w:=by
 obtain ⟨bJ,aB,rfl⟩:=aiD bQ
 obtain ⟨m,rfl⟩:=Int.eq_ofNat_of_zero_le (Int.le_of_lt bJ)
 simp only [Int.toNat_natCast] at *
 have i':=Nat.le_of_ble_eq_true i'
 have hle:m<=bytes*m:=Nat.le_mul_of_pos_left m i'
 obtain ⟨i0,hi,aeU⟩:=Option.map_eq_some_iff.1 kr
 simp only [Prod.mk.injEq] at aeU
 obtain ⟨cV,a6,aY⟩:=aeU
 have iu:=Lib.run_append_nil_zeros (P:=P) w t YS o.type e i0 z .i64 .i64 iJ app hi cV m (by omega) (by omega) (by omega) (by rw [aY,Nat.mul_comm];omega)
 let cap:=grownCap w m 0 e
 have adJ:m<=cap:=grownCap_ge w m 0 e
 have HB:cap<=maxLen:=grownCap_le_maxLen w m 0 e (by simp only [maxLen];omega)
 have aFy:∀ q,(Builtin.zeroCells z.cells q).toList=List.replicate q z:=by
  intro q
  rw [Dm]
  apply List.ext_getElem
  · simp [Builtin.zeroCells]
  · intro j aB aR
    simp [Builtin.zeroCells,Nat.mod_one]
 let cur:=Builtin.zeroCells z.cells m++Builtin.zeroCells z.cells (cap - m)
 have hcs:cur.size=cap:=by simp only [cur,Array.size_append,size_zeroCells,Dm];simp;omega
 have AK:cf P o a w (.slice (some ⟨w.heap.size,0,none⟩) m cap) (w.drew.alloc (.cells cur e)):=by
  simp only [cf,execOp,br,resolve,invoke,builtin,Sem.run_bind,Sem.run_pure,Result.andThen_ok,List.map_toArray,List.map_cons,List.map_nil,aj,hy,iu,cap,cur]
 have lY:a7 [] w (w.drew.alloc (.cells cur e)):=(a7.drew [] w).trans (a7.alloc [] w.drew (.cells cur e)) (by simp)
 have L2:w.drew.heap.size=w.heap.size:=rfl
 have ku:(ap.row e T.size (.slice (some ⟨w.heap.size,0,none⟩) m cap) (List.replicate m z0) (List.replicate m z)).ok (w.drew.alloc (.cells cur e)):=by
  refine ⟨by simp [z7],.inr ⟨w.heap.size,cap,cur,by simp,Nat.zero_le _,?_,by simpa using adJ,HB,by simp [hcs,z7],?_⟩⟩
  · rw [<-L2];exact heap_alloc_new w.drew _
  · simp only [cur,Array.toList_append,aFy,z7,List.length_replicate,Nat.mul_one]
    rw [List.take_append_of_le_length (by simp),List.take_of_length_le (by simp)]
 have mV:=hm.push (ap.row e T.size (.slice (some ⟨w.heap.size,0,none⟩) m cap) (List.replicate m z0) (List.replicate m z)) lY ku (fun q ea=>by
  have:q=w.heap.size:=by simpa [ap.row,Value.ownBlock,eq_comm] using ea
  subst this;simp) (by simp [ap.row,Value.ownBlock])
 refine bU hw AK I bZ af fun bM eX=>next bM (some ⟨w.heap.size,0,none⟩) cap (List.replicate m z) _ lY ?_ ?_
 · simpa using eX
 · have:=mV.D1 (T:=T) (xs:=List.replicate m z) (li:=List.replicate m z0) (agx Dk _ _ m)
   simpa using this
theorem aHT {α:Type} {T:fc α} {t e c:Nat} {A:Option Addr} {li:List α} {xs:List Value} {x:Operand} {lo hi:Option Operand} (i:Nat) (hm:aw W M0 X w E D) (x1:E[i]? =some (ap.row e T.size (.slice A li.length c) li xs))
 (bP:P.underlying t=some (.slice e)) (a6:∀ w,(Go.sizeOf e).run P w= .ok T.size w) (hw:Region.wanted o (yielded ops a.tmps)=true) (br:o.op= .slice t x lo hi none) (aj:a.eval x= .slice A li.length c)
 (rm:(lo=none/\(0 :Int)= 0)\/ ∃ z,lo=some z/\a.eval z= .int .i64 0) (oT:∃ z,hi=some z/\a.eval z= .int .i64 0) (I:Fr n l a) (bZ:o.dst=some d) (af:Nat.blt d n=true)
 (next:∀ bM,Fr n ((d,.slice A ([]:List α).length c)::l) bM->aw W M0 X w (E.set i (ap.row e T.size (.slice A ([]:List α).length c) ([]:List α) [])) (ak.rows T [] ([]:List α)::D)->wpList P ops Q rest bM w):wpList P ops Q (o::rest) a w:=by
 have UQ:w.ownsRow 0 e T.size (.slice A li.length c) li.length xs:=hm.e i x1
 obtain ⟨g',dF,ad,hle,_,Mj,gf⟩:=NL (hm.e i x1)
 simp only [Value.slice.injEq,true_and] at ad
 obtain ⟨rfl,rfl⟩:=ad
 have hy:=PZ (P:=P) (w:=w) (a:=a) (o:=o) bP a6 br aj rm (.inr oT) (i:=0) (j:=0) ⟨Int.le_refl _,Int.le_refl _,by omega⟩ hle
 have hAdd:(if c=(0 :Int).toNat then A else A.map (·.add ((0 :Int).toNat*T.size)))=A:=by
  split
  · rfl
  · cases adx:A with
    | none=>rfl
    | some b7=>
      have:=gf (by rw [adx];simp)
      rw [adx] at this
      simp only [Option.some.injEq] at this
      rw [this,Option.map_some,ov]
      simp
 rw [hAdd] at hy
 have hy:cf P o a w (.slice A ([]:List α).length c) w:=by simpa using hy
 have ku:(ap.row e T.size (.slice A ([]:List α).length c) ([]:List α) []).ok w:=by
  refine ⟨by simp,?_⟩
  rcases UQ.2 with ⟨bL,b8⟩ | ⟨g,cap,cur,bL,b8,dR,fT,jw,zR,_⟩
  · left
    simp only [Value.slice.injEq] at bL
    obtain ⟨rfl,_,rfl⟩:=bL
    exact ⟨rfl,rfl⟩
  · right
    simp only [Value.slice.injEq] at bL
    obtain ⟨rfl,_,rfl⟩:=bL
    exact ⟨g,c,cur,rfl,b8,dR,Nat.zero_le _,jw,zR,by simp⟩
 refine bU hw hy I bZ af fun bM eX=>next bM eX ?_
 refine (hm.more (y:=ak.rows T [] ([]:List α)) rfl).vP i x1 (a7.refl _ _) ku (M' _) (fun q ea=>.inl (by
  cases A with
  | none=>simp [ap.row,Value.ownBlock] at ea
  | some b7=>simpa [ap.row,Value.ownBlock] using ea))
theorem aJq {t e:TypeId} {sz:Nat} {x:Operand} {lo hi:Option Operand} (bP:P.underlying t=some (.slice e)) (a6:∀ w,(Go.sizeOf e).run P w= .ok sz w) (br:o.op= .slice t x lo hi none) (aj:a.eval x= .slice none 0 0)
 (rm:(lo=none/\(0 :Int)= 0)\/ ∃ z,lo=some z/\a.eval z= .int .i64 0) (oT:(hi=none/\(0 :Int)=(0 :Nat))\/ ∃ z,hi=some z/\a.eval z= .int .i64 0):cf P o a w (.slice none 0 0) w:=by
 have h:=PZ (P:=P) (w:=w) bP a6 br aj rm oT (i:=0) (j:=0) ⟨Int.le_refl _,Int.le_refl _,by omega⟩ (Nat.le_refl 0)
 simpa using h
theorem ahU {t e:TypeId} {A:Option Addr} {m c:Nat} {x:Operand} (bP:P.underlying t=some (.slice e)) (br:o.op= .call { callee:=.builtin .cap,args:=#[x],argTypes:=#[t] }) (aj:a.eval x= .slice A m c):cf P o a w (.int .i64 c) w:=by
 simp [cf,execOp,br,resolve,invoke,builtin,Builtin.cap_,aj,run_underlying bP,goInt]
theorem aJo {t ep:TypeId} {x:Operand} {m:Int} (bP:P.underlying t=some (.int .i64)) (oW:P.underlying ep=some (.int .u64)) (br:o.op= .convert t ep x) (aj:a.eval x= .int .i64 m):cf P o a w (.int .u64 (n9 m)) w:=by
 have h:=PY (P:=P) (w:=w) bP oW br aj
 rwa [show IntKind.u64.wrap m=n9 m by rw [IntKind.wrap_u64];rfl] at h
theorem aJm {t ep:TypeId} {x:Operand} {m:Int} (bP:P.underlying t=some (.int .u64)) (oW:P.underlying ep=some (.int .i64)) (br:o.op= .convert t ep x) (aj:a.eval x= .int .u64 m):cf P o a w (.int .i64 (av m)) w:=by
 have h:=PY (P:=P) (w:=w) bP oW br aj
 rwa [y9] at h
theorem aJV {t ep:TypeId} {x y:Operand} {k:IntKind} {m:Int} {n:Nat} (af:Nat.ble n 64 =true) (br:o.op= .binOp .shr t x y ep) (aj:a.eval x= .int .u64 m) (hy:a.eval y= .int k (n:Int)):cf P o a w (.int .u64 (n5 m n)) w:=by
 have hle:=Nat.le_of_ble_eq_true af
 unfold n5
 simp only [cf,execOp,br,aj,hy]
 simp [go_sem,hle]
end
end a2
namespace a2
open Go Go.RowKit J Go.Shelf Go.Proofs
theorem CQ (b:Nat):∀ (vs:List Value) (o:Nat) (w:World),a7 [b] w (w.setCells b o vs)
 | [],_,w=>a7.refl _ w
 | v::r,o,w=>(a7.set w ⟨b,o,none⟩ v).trans (CQ b r (o+ 1) _) (fun x aj=>.inl aj)
theorem D5 (b:Nat) (e:TypeId) (LJ:Nat × Nat):∀ (vs:List Value) (o:Nat) (w:World) (cur:List Value),w.heap[b]? =some (.cells cur.toArray e LJ)->o+vs.length<=cur.length ->
 (w.setCells b o vs).heap[b]? =some (.cells (cur.take o++vs++cur.drop (o+vs.length)).toArray e LJ)
 | [],o,w,cur,h,_=>by simpa [World.setCells] using h
 | v::r,o,w,cur,h,az=>by
   simp only [List.length_cons] at az
   have aY:b <w.heap.size:=by
    rcases Nat.lt_or_ge b w.heap.size with dN | dN
    · exact dN
    · rw [Array.getElem?_eq_none dN] at h;cases h
   have aB:(w.setCell ⟨b,o,none⟩ v).heap[b]? =some (.cells (cur.set o v).toArray e LJ):=by
    simp only [World.setCell,Array.getElem?_modify,if_pos,h,Option.map_some]
    simp
   have:=D5 b e LJ r (o+ 1) _ (cur.set o v) aB (by simp;omega)
   show ((w.setCell ⟨b,o,none⟩ v).setCells b (o+ 1) r).heap[b]? =_
   rw [this]
   have Ig:cur.set o v=cur.take o++v::cur.drop (o+ 1):=by rw [List.set_eq_take_append_cons_drop,if_pos (by omega)]
   have bP:(cur.take o).length=o:=by rw [List.length_take];omega
   have bL:(cur.set o v).take (o+ 1)=cur.take o++[v]:=by
    rw [Ig,List.take_append,bP,List.take_of_length_le (by rw [bP];omega)]
    simp
   have b8:(cur.set o v).drop (o+ 1 +r.length)=cur.drop (o+(v::r).length):=by
    rw [List.drop_set_of_lt (by omega)]
    congr 1
    simp;omega
   rw [bL,b8]
   simp
theorem aHY {cur xs:List Value} {x:Value} {n m:Nat} (bP:cur.take n=xs) (af:xs.length=n) (hm:m<=n) (hc:n+ 1 <=cur.length) :
 ((cur.take (m+ 1)++xs.drop m++cur.drop (m+ 1 +(xs.drop m).length)).take m++[x]++(cur.take (m+ 1)++xs.drop m++cur.drop (m+ 1 +(xs.drop m).length)).drop (m+ 1)).take (n+ 1)=xs.take m++[x]++xs.drop m:=by
 have aB:(cur.take (m+ 1)).length=m+ 1 :=by rw [List.length_take];omega
 have aR:(cur.take (m+ 1)++xs.drop m++cur.drop (m+ 1 +(xs.drop m).length)).take m=xs.take m:=by
  rw [List.append_assoc,List.take_append_of_le_length (by omega),List.take_take,Nat.min_eq_left (by omega),<-bP,List.take_take,Nat.min_eq_left hm]
 have bT:(cur.take (m+ 1)++xs.drop m++cur.drop (m+ 1 +(xs.drop m).length)).drop (m+ 1)=xs.drop m++cur.drop (m+ 1 +(xs.drop m).length):=by
  rw [List.append_assoc,List.drop_append,aB,List.drop_eq_nil_of_le (by omega)]
  simp
 rw [aR,bT,<-List.append_assoc,List.take_append_of_le_length (by simp;omega),List.take_of_length_le (by simp;omega)]
theorem alO {z0 xs:List Value} {x:Value} {n m:Nat} (af:xs.length=n) (hm:m<=n) (cV:z0.take m=xs.take m) (az:n+ 1 <=z0.length) :
 ((z0.take m++[x]++z0.drop (m+ 1)).take (m+ 1)++xs.drop m++(z0.take m++[x]++z0.drop (m+ 1)).drop (m+ 1 +(xs.drop m).length)).take (n+ 1)=xs.take m++[x]++xs.drop m:=by
 have aB:(z0.take m++[x]).length=m+ 1 :=by simp;omega
 rw [List.take_append_of_le_length (l₁:=z0.take m++[x]) (by omega),List.take_of_length_le (l:=z0.take m++[x]) (by omega),cV,List.take_append_of_le_length (by simp;omega),List.take_of_length_le (by simp;omega)]
section
variable {P:Program} {ρ:Ren} {w:World} {W:World} {M0 X:List Nat} {E:List ap} {D:List ak}
theorem agv {F:Nat->Prop}:∀ {li:List Int} {xs:List Value},fP (ai .i64) F w xs li->xs=li.map (Value.int .i64)
 | [],_,h=>h
 | b::r,_,⟨cs,ys,e,aB,aR⟩=>by
   have aB:cs= [.int .i64 b]:=aB
   rw [e,aB,agv aR]
   rfl
theorem agw {F:Nat->Prop}:∀ li:List Int,fP (ai .i64) F w (li.map (Value.int .i64)) li
 | []=>rfl
 | b::r=>⟨[.int .i64 b],r.map (Value.int .i64),rfl,rfl,agw r⟩
theorem aj2 (L:Lays2.n21 P ρ) {A:Option Addr} {c g:Nat} {li r:List Int} {xs:List Value} {n x:Int} (i j q:Nat) (L3:Nat.beq i j=false) (hm:aw W M0 X w E D) (hi:E[i]? =some (ap.row (ρ.t 3) 1 (.slice A li.length c) li xs))
 (bb:E[j]? =some (ap.bm g (ρ.t 3) [.int .i64 x])) (ea:D[q]? =some (ak.rows (ai .i64) xs li)) (bQ:Im li n x=some r) :
 Calls P (ρ.f 21) [.slice A li.length c,.int .i64 n,.slice (some ⟨g,0,none⟩) 1 1].toArray w (fun e aF=>∃ g' dF ft,e= .returned (.slice g' r.length dF)/\aw W M0 X aF (E.set i (ap.row (ρ.t 3) 1 (.slice g' r.length dF) r ft)) (ak.rows (ai .i64) ft r::D)):=by
 obtain ⟨bJ,aB,sA,rfl⟩:=aFM bQ
 obtain ⟨m,rfl⟩:=Int.eq_ofNat_of_zero_le bJ
 have gG:m<=li.length:=by omega
 simp only [Int.toNat_natCast]
 have hE:xs=li.map (Value.int .i64):=agv (hm.d q ea)
 have ku:w.ownsRow 0 (ρ.t 3) 1 (.slice A li.length c) li.length xs:=hm.e i hi
 have asl:w.heap[g]? =some (.cells [Value.int .i64 x].toArray (ρ.t 3) (0,0)):=hm.e j bb
 have yb:∀ q v,[Value.int .i64 x][q]? =some v->w.cell? ⟨g,0 +q,none⟩=some v:=fun q v ea=>by
  have:=Ci (hm.e j bb) ea
  simpa using this
 have Gs:∀ v ∈ [Value.int .i64 x],v.oneCell'=true:=fun v ad=>by simp at ad;subst ad;rfl
 have adw:∀ v ∈ xs,v.oneCell'=true:=fun v ad=>by rw [hE] at ad;simp at ad;obtain ⟨_,_,rfl⟩:=ad;rfl
 have nO:xs.length=li.length:=by rw [hE];simp
 have hlen:(li.take m++x::li.drop m).length=li.length+ 1 :=by simp;omega
 have Az:(li.take m++x::li.drop m).map (Value.int .i64)=xs.take m++[Value.int .i64 x]++xs.drop m:=by rw [hE];simp [List.map_take,List.map_drop]
 have go:∀ (g':Option Addr) (dF:Nat) (aF:World),a7 (Value.slice A li.length c).ownBlock.toList w aF->aF.ownsRow 0 (ρ.t 3) 1 (.slice g' (li.length+ 1) dF) (li.length+ 1) (xs.take m++[Value.int .i64 x]++xs.drop m) ->
  (∀ k,(Value.slice g' (li.length+ 1) dF).ownBlock=some k->(Value.slice A li.length c).ownBlock=some k\/(w.heap.size<=k/\k <aF.heap.size)) ->
  ∃ Zq aaT ft,Ending.returned (.slice g' (li.length+ 1) dF)= .returned (.slice Zq (li.take m++x::li.drop m).length aaT)/\aw W M0 X aF (E.set i (ap.row (ρ.t 3) 1 (.slice Zq (li.take m++x::li.drop m).length aaT) (li.take m++x::li.drop m) ft)) (ak.rows (ai .i64) ft (li.take m++x::li.drop m)::D):=by
  intro g' dF aF ad rp I
  have UQ:(ap.row (ρ.t 3) 1 (.slice g' (li.take m++x::li.drop m).length dF) (li.take m++x::li.drop m) ((li.take m++x::li.drop m).map (Value.int .i64))).ok aF:=by
   show aF.ownsRow 0 (ρ.t 3) 1 _ (li.take m++x::li.drop m).length _
   rw [hlen,Az]
   exact rp
  refine ⟨g',dF,(li.take m++x::li.drop m).map (Value.int .i64),by rw [hlen],?_⟩
  refine (hm.D1 (T:=ai .i64) (agw (li.take m++x::li.drop m))).vP i hi ad UQ (M' _) (fun k bh=>?_)
  have ks:(Value.slice g' (li.length+ 1) dF).ownBlock=some k:=by
   have:(Value.slice g' (li.take m++x::li.drop m).length dF).ownBlock=some k:=by simpa [ap.row] using bh
   rwa [hlen] at this
  rcases I k ks with e | e
  · exact .inl (by simpa [ap.row] using e)
  · exact .inr e
 have SP:grownCap w (li.length+ 1) c (ρ.t 3)<=maxLen:=grownCap_le_maxLen _ _ _ _ (by simp only [maxLen];omega)
 have Aq:li.length+ 1 <=grownCap w (li.length+ 1) c (ρ.t 3):=grownCap_ge _ _ _ _
 rcases ku.2 with ⟨ad,aAl⟩ | ⟨b,cap,cur,ad,_,aY,Mj,mQ,hcs,Vc⟩
 ·
   simp only [Value.slice.injEq] at ad
   obtain ⟨rfl,_,rfl⟩:=ad
   have Dh:li= []:=List.eq_nil_of_length_eq_zero aAl
   subst Dh
   have a8:m= 0 :=by simpa using gG
   subst a8
   have aFq:xs= []:=by simpa using hE
   subst aFq
   have hc:=Any2.slices_Insert_int_end_grow L none 0 0 g 0 1 1 [] [Value.int .i64 x] w (by decide) (by decide) (by decide) (by decide) rfl rfl (fun _=>rfl) (fun a bB=>by cases bB) yb Gs
   refine Calls.mono hc ?_
   rintro e aF ⟨rfl,rfl⟩
   refine go (some ⟨w.heap.size,0,none⟩) (grownCap w 1 0 (ρ.t 3)) _ ((a7.drew [] w).trans (a7.alloc [] w.drew _) (by simp) |>.mono (by simp)) ?_ (fun k bh=>.inr ?_)
   · refine ⟨by simp,.inr ⟨w.heap.size,_,_,rfl,Nat.zero_le _,heap_alloc_new w.drew _,Aq,SP,?_,?_⟩⟩
     · simp only [Array.size_append,List.size_toArray,size_zeroCells];simp at Aq ⊢;simp [Value.cells];omega
     · simp
   · have:w.heap.size=k:=by simpa [Value.ownBlock] using bh
     subst this;simp
 · simp only [Value.slice.injEq,true_and] at ad
   obtain ⟨rfl,rfl⟩:=ad
   have St:cur.size=c:=by simpa using hcs
   have nM:cur.toList.length=c:=by simpa using St
   have bP:cur.toList.take li.length=xs:=by simpa using Vc
   have iK:w.heap[b]? =some (.cells cur.toList.toArray (ρ.t 3) (0,0)):=by simpa using aY
   have lk:∀ j v,xs[j]? =some v->w.cell? ⟨b,0 +j,none⟩=some v:=fun j v bb=>by
    have:=(ku.cells (g:=b) rfl) j v bb
    rw [Nat.zero_add]
    have e:(⟨b,j,none⟩:Addr)=if j= 0 then ⟨b,0,none⟩ else ⟨b,j,none⟩:=by split <;> simp_all
    rw [e]
    simpa [Addr.add] using this
   have eN:g≠b:=by
    intro e
    have bZ:=LH hm.dW
    have H2:i≠j:=by intro h;subst h;simp at L3
    exact (bZ i _ hi).2 j _ bb H2 b (by simp [ap.row,Value.ownBlock]) (by simp [ap.bm,e])
   have sK:∀ j,j <c->(w.cell? ⟨b,0 +j,none⟩).isSome=true:=fun j bb=>by
    simp [World.cell?,aY,St,bb]
   have SE:∀ j,w.frozen? ⟨b,0 +j,none⟩=false:=fun j=>by simp [World.frozen?,aY]
   by_cases Mk:li.length+ 1 <=c
   · by_cases uC:m=li.length
     · subst uC
       have hc:=Any2.slices_Insert_int_end_room L b 0 li.length c g 0 1 1 [Value.int .i64 x] w (by decide) Mk (by simp only [maxLen] at mQ;omega) rfl (fun j bb=>by rw [Nat.add_assoc];exact sK _ (by omega)) (fun j bb=>by rw [Nat.add_assoc];exact SE _) yb Gs
       refine Calls.mono hc ?_
       rintro e aF ⟨rfl,rfl⟩
       refine go (some ⟨b,0,none⟩) c _ ((CQ b _ _ w).mono (by simp [Value.ownBlock])) ?_ (fun k bh=>.inl (by simpa [Value.ownBlock] using bh))
       have hb:=D5 b (ρ.t 3) (0,0) [Value.int .i64 x] (0 +li.length) w cur.toList iK (by simp;omega)
       refine ⟨by simp;omega,.inr ⟨b,c,_,rfl,Nat.zero_le _,hb,Mk,mQ,?_,?_⟩⟩
       · simp;omega
       · simp only [Nat.zero_add,Nat.mul_one,bP]
         rw [List.take_append_of_le_length (by simp;omega),List.take_of_length_le (by simp;omega),List.take_of_length_le (by omega),List.drop_eq_nil_of_le (by omega)]
         simp
     · have hc:=Any2.slices_Insert_int_shift L b 0 li.length c m g 0 1 1 xs [Value.int .i64 x] w (by omega) (by decide) Mk (by simp only [maxLen] at mQ;omega) eN nO rfl lk (fun j bb=>sK j (by omega)) (fun j _=>SE j) yb adw Gs
        (ρ.t 3) (ρ.t 3) 1 c (by simp [World.shape?,asl]) (by simp [World.shape?,aY,St]) (by omega) (aaS (hm.e j bb) 0) (aaS (hm.e j bb) 1)
       refine Calls.mono hc ?_
       rintro e aF ⟨rfl,rfl⟩
       have nE:=CQ b (xs.drop m) (0 +(m+ 1)) w.drew
       have LB:=CQ b [Value.int .i64 x] (0 +m) (w.drew.setCells b (0 +(m+ 1)) (xs.drop m))
       refine go (some ⟨b,0,none⟩) c _ ((((a7.drew [b] w).trans nE (fun x aj=>.inl aj)).trans LB (fun x aj=>.inl aj)).mono (by simp [Value.ownBlock])) ?_ (fun k bh=>.inl (by simpa [Value.ownBlock] using bh))
       have awJ:=D5 b (ρ.t 3) (0,0) (xs.drop m) (0 +(m+ 1)) w.drew cur.toList iK (by simp;omega)
       have hb:=D5 b (ρ.t 3) (0,0) [Value.int .i64 x] (0 +m) _ _ awJ (by simp;omega)
       refine ⟨by simp;omega,.inr ⟨b,c,_,rfl,Nat.zero_le _,hb,Mk,mQ,?_,?_⟩⟩
       · simp;omega
       · have:=aHY (x:=Value.int .i64 x) bP nO gG (by omega)
         simpa using this
   · have adJ:li.length=c:=by omega
     by_cases uC:m=li.length
     · subst uC
       have hc:=Any2.slices_Insert_int_end_grow L (some ⟨b,0,none⟩) li.length c g 0 1 1 xs [Value.int .i64 x] w (by decide) (by omega) (by omega) (by omega) nO rfl (fun h=>by cases h) (fun a bB j v bb=>by
        cases bB
        have:=(ku.cells (g:=b) rfl) j v bb
        simpa [Addr.add] using this) yb Gs
       refine Calls.mono hc ?_
       rintro e aF ⟨rfl,rfl⟩
       refine go (some ⟨w.heap.size,0,none⟩) (grownCap w (li.length+ 1) c (ρ.t 3)) _ (((a7.drew [] w).trans (a7.alloc [] w.drew _) (by simp)).mono (by simp)) ?_ (fun k bh=>.inr ?_)
       · refine ⟨by simp;omega,.inr ⟨w.heap.size,_,_,rfl,Nat.zero_le _,heap_alloc_new w.drew _,Aq,SP,?_,?_⟩⟩
         · simp only [Array.size_append,List.size_toArray,size_zeroCells,List.length_append,nO];simp [Value.cells];omega
         · simp only [Nat.mul_one,List.drop_zero,Array.toList_append]
           rw [List.take_append_of_le_length (by simp [nO]),List.take_of_length_le (by simp [nO]),List.take_of_length_le (l:=xs) (by omega),List.drop_eq_nil_of_le (by omega)]
           simp
       · have:w.heap.size=k:=by simpa [Value.ownBlock] using bh
         subst this;simp
     · have hc:=Any2.slices_Insert_int_grow L b 0 li.length c m g 0 1 1 xs [Value.int .i64 x] w (by omega) (by decide) (by omega) (by omega) (by omega) nO rfl lk yb adw Gs
       refine Calls.mono hc ?_
       rintro e aF ⟨rfl,rfl⟩
       have apx:=heap_alloc_new w (.cells ((xs.take m).toArray++Builtin.zeroCells (Value.int .i64 0).cells (li.length+ 1 - m)++Builtin.zeroCells (Value.int .i64 0).cells (grownCap w (li.length+ 1) c (ρ.t 3) - (li.length+ 1))) (ρ.t 3))
       have Dm:∀ q,(Builtin.zeroCells (Value.int .i64 0).cells q).toList.length=q:=fun q=>by rw [Array.length_toList,size_zeroCells];simp [Value.cells]
       have azt:((xs.take m)++(Builtin.zeroCells (Value.int .i64 0).cells (li.length+ 1 - m)).toList++(Builtin.zeroCells (Value.int .i64 0).cells (grownCap w (li.length+ 1) c (ρ.t 3) - (li.length+ 1))).toList).length=grownCap w (li.length+ 1) c (ρ.t 3):=by
        simp only [List.length_append,Dm,List.length_take,nO];omega
       have RZ:(w.alloc (.cells ((xs.take m).toArray++Builtin.zeroCells (Value.int .i64 0).cells (li.length+ 1 - m)++Builtin.zeroCells (Value.int .i64 0).cells (grownCap w (li.length+ 1) c (ρ.t 3) - (li.length+ 1))) (ρ.t 3))).drew.heap[w.heap.size]? =some (.cells ((xs.take m)++(Builtin.zeroCells (Value.int .i64 0).cells (li.length+ 1 - m)).toList++(Builtin.zeroCells (Value.int .i64 0).cells (grownCap w (li.length+ 1) c (ρ.t 3) - (li.length+ 1))).toList).toArray (ρ.t 3) (0,0)):=by
        refine apx.trans ?_
        congr 2
        apply Array.toList_inj.mp
        simp
       generalize yd:(xs.take m)++(Builtin.zeroCells (Value.int .i64 0).cells (li.length+ 1 - m)).toList++(Builtin.zeroCells (Value.int .i64 0).cells (grownCap w (li.length+ 1) c (ρ.t 3) - (li.length+ 1))).toList=z0 at azt RZ
       have aFz:z0.take m=xs.take m:=by
        rw [<-yd,List.append_assoc,List.take_append_of_le_length (by simp;omega),List.take_of_length_le (by simp;omega)]
       have lY:a7 [] w (w.alloc (.cells ((xs.take m).toArray++Builtin.zeroCells (Value.int .i64 0).cells (li.length+ 1 - m)++Builtin.zeroCells (Value.int .i64 0).cells (grownCap w (li.length+ 1) c (ρ.t 3) - (li.length+ 1))) (ρ.t 3))).drew:=(a7.alloc [] w _).trans (a7.drew [] _) (by simp)
       generalize aCS:(w.alloc (.cells ((xs.take m).toArray++Builtin.zeroCells (Value.int .i64 0).cells (li.length+ 1 - m)++Builtin.zeroCells (Value.int .i64 0).cells (grownCap w (li.length+ 1) c (ρ.t 3) - (li.length+ 1))) (ρ.t 3))).drew=a5 at RZ lY
       have x':w.heap.size <a5.heap.size:=by rw [<-aCS];simp
       have nE:=CQ w.heap.size [Value.int .i64 x] m a5
       have LB:=a7.drew [] (a5.setCells w.heap.size m [Value.int .i64 x])
       have ac7:=CQ w.heap.size (xs.drop m) (m+ 1) (a5.setCells w.heap.size m [Value.int .i64 x]).drew
       have alj:=((lY.trans nE (fun x aj=>.inr (by simp at aj;omega))).trans LB (by simp)).trans ac7 (fun x aj=>.inr (by simp at aj;omega))
       have aR:=D5 w.heap.size (ρ.t 3) (0,0) [Value.int .i64 x] m a5 z0 RZ (by simp;omega)
       have bT:=D5 w.heap.size (ρ.t 3) (0,0) (xs.drop m) (m+ 1) (a5.setCells w.heap.size m [Value.int .i64 x]).drew _ aR (by simp;omega)
       refine go (some ⟨w.heap.size,0,none⟩) (grownCap w (li.length+ 1) c (ρ.t 3)) _ (alj.mono (by simp)) ?_ (fun k bh=>.inr ?_)
       · refine ⟨by simp;omega,.inr ⟨w.heap.size,_,_,rfl,Nat.zero_le _,bT,Aq,SP,?_,?_⟩⟩
         · simp;omega
         · have:=alO (x:=Value.int .i64 x) nO gG aFz (by omega)
           simpa using this
       · have:w.heap.size=k:=by simpa [Value.ownBlock] using bh
         subst this
         exact ⟨Nat.le_refl _,Nat.lt_of_lt_of_le x' (Nat.le_trans nE.size (Nat.le_trans LB.size ac7.size))⟩
end
end a2
namespace Go.Proofs.YtpkhpagplommoaaGreat
open Go Go.Shelf
def aFO:Ren:=⟨fun f=>match f with | 21 =>116 | 27 =>141 | 28 =>142 | 35 =>150 | 39 =>151 | f=>f,fun t=>t,fun g=>g⟩
theorem aFN:Lays2.n21 Tryz.prog aFO:={
 mixed:=by kernel_rfl,f21:=by kernel_rfl,f27:=by kernel_rfl,f28:=by kernel_rfl,f35:=by kernel_rfl,f39:=by kernel_rfl
 t0:=by kernel_rfl,a0:=fun w=>by kernel_rfl,z0:=fun w=>by kernel_rfl,v0:=fun w=>by kernel_rfl
 t3:=by kernel_rfl,a3:=fun w=>by kernel_rfl,z3:=fun w=>by kernel_rfl,v3:=fun w=>by kernel_rfl
 t4:=by kernel_rfl,a4:=fun w=>by kernel_rfl,z4:=fun w=>by kernel_rfl,v4:=fun w=>by kernel_rfl
 t22:=by kernel_rfl,a22:=fun w=>by kernel_rfl,z22:=fun w=>by kernel_rfl,v22:=fun w=>by kernel_rfl
 i3:=by kernel_rfl }
end Go.Proofs.YtpkhpagplommoaaGreat
