/- Part 1 of the proof that is ended in the last text: small logic, what the functions compute, walks, plain laws. -/
import Derived.WalkKit
import Derived.Deep.LoopGhost
import Derived.Deep.Quiet
import Derived.Maps.AppendAt
import Derived.KernelRfl
import Derived.Deep.RegionHeld3
import Derived.Laws.StructEq
import Derived.Carry
import Derived.ChangeSame
import Derived.OpenShut
import Derived.Deep.Slices
import Derived.Deep.Fields
import Derived.ChangeMaps5
import Derived.Lib.LaidTab
import Derived.OrdersHeld
import Derived.MapKept
import Derived.Laws.OwnMore
import Derived.Laws.IdiomStrings
import Derived.RangeFuncRecord
import Derived.RangeFuncSeq
import Derived.RangeFuncIn
import Derived.RangeFuncLeaves
import Derived.OrdersIn
import Derived.TacticsIn
import Derived.Deep.OwnRows
import Derived.Lib.AppendZeros
import Derived.Shelf.Spec.SlicesInsert
import Derived.Shelf.Spec.SlicesInsertGrow
import Derived.Test.YtpkhpagplommoaaProg
namespace Cin
def ay (n:Int):Int:=(n+ 9223372036854775808) % 18446744073709551616 - 9223372036854775808
def kE (n:Int):Int:=n % 18446744073709551616
def LK (a b:Int):Int:=ay ((BitVec.ofInt 64 a ||| BitVec.ofInt 64 b).toNat:Int)
def G4 (a b:Int):Int:=ay ((BitVec.ofInt 64 a &&& BitVec.ofInt 64 b).toNat:Int)
def kD (a:Int) (n:Nat):Int:=a / 2 ^ n
def zv (n:Int):UInt8:=UInt8.ofNat (n % 256).toNat
def idx {α:Type} (l:List α) (i:Int):Option α:=if 0 <=i then l[i.toNat]? else none
def ei {α:Type} (bytes:Nat) (l m:List α):Option (List α):=if (l.length+m.length)*bytes<= 140737488355328 then some (l++m) else none
def bytesOf (s:List UInt8):Option (List UInt8):=if s.length<= 140737488355328 then some s else none
def EE {α:Type} (z:α) (bytes:Nat) (n:Int):Option (List α):=if 0 <=n/\bytes*n.toNat<= 140737488355328 then some (List.replicate n.toNat z) else none
def zt {α:Type} (z:α) (bytes:Nat) (n:Int):Option (List α):=if 0 <n/\bytes*n.toNat<= 140737488355328 then some (List.replicate n.toNat z) else none
def Bu (l:List Int) (n x:Int):Option (List Int):=if 0 <=n/\n<=l.length/\(l.length+ 1)* 8 <= 140737488355328 then some (l.take n.toNat++x::l.drop n.toNat) else none
def cut {α:Type} (l:List α) (i j:Int):Option (List α):=if 0 <=i/\i<=j/\j<=l.length then some ((l.take j.toNat).drop i.toNat) else none
theorem ew {α:Type} {b:Bool} {x y:Option α} {r:α} (aM:b=true) (h:cond b x y=some r):x=some r:=by subst aM;exact h
theorem eu {α:Type} {b:Bool} {x y:Option α} {r:α} (aM:b=false) (h:cond b x y=some r):y=some r:=by subst aM;exact h
theorem aV {α β:Type} {o:Option α} {f:α->Option β} {r:β} (h:o.bind f=some r):∃ x,o=some x/\f x=some r:=by
 cases o with
 | none=>cases h
 | some x=>exact ⟨x,rfl,h⟩
theorem ti {α:Type} {l:List α} {i:Int} {d:α} (h:idx l i=some d):0 <=i/\i.toNat <l.length/\l[i.toNat]? =some d:=by
 unfold idx at h
 split at h
 · rename_i bk
   exact ⟨bk,(List.getElem?_eq_some_iff.1 h).1,h⟩
 · cases h
theorem N3 {α:Type} {bytes:Nat} {l m r:List α} (h:ei bytes l m=some r):(l.length+m.length)*bytes<= 140737488355328 /\r=l++m:=by
 unfold ei at h
 split at h
 · rename_i bk;exact ⟨bk,by simpa using h.symm⟩
 · cases h
theorem aia {α:Type} {z:α} {bytes:Nat} {n:Int} {r:List α} (h:EE z bytes n=some r):0 <=n/\bytes*n.toNat<= 140737488355328 /\r=List.replicate n.toNat z:=by
 unfold EE at h
 split at h
 · rename_i bk;exact ⟨bk.1,bk.2,by simpa using h.symm⟩
 · cases h
theorem TN {α:Type} {z:α} {bytes:Nat} {n:Int} {r:List α} (h:zt z bytes n=some r):0 <n/\bytes*n.toNat<= 140737488355328 /\r=List.replicate n.toNat z:=by
 unfold zt at h
 split at h
 · rename_i bk;exact ⟨bk.1,bk.2,by simpa using h.symm⟩
 · cases h
theorem agS {l r:List Int} {n x:Int} (h:Bu l n x=some r):0 <=n/\n<=l.length/\(l.length+ 1)* 8 <= 140737488355328 /\r=l.take n.toNat++x::l.drop n.toNat:=by
 unfold Bu at h
 split at h
 · rename_i bk;exact ⟨bk.1,bk.2.1,bk.2.2,by simpa using h.symm⟩
 · cases h
theorem TR (n:Int):((zv n).toNat:Int)=n % 256 :=by
 unfold zv
 have bk:0 <=n % 256 :=Int.emod_nonneg _ (by omega)
 have aq:n % 256 < 256 :=Int.emod_lt_of_pos _ (by omega)
 simp only [UInt8.toNat_ofNat']
 omega
end Cin
namespace Cin
end Cin
namespace Cin
section
variable {κ β:Type} [DecidableEq κ]
def cW:List (κ × β)->κ->Option β
 | [],_=>none
 | p::r,k=>if p.1 =k then some p.2 else cW r k
def gW:List (κ × β)->κ->β->List (κ × β)
 | [],k,v=>[(k,v)]
 | p::r,k,v=>if p.1 =k then (k,v)::r else p::gW r k v
def jz:List (κ × β)->κ->Option Nat
 | [],_=>none
 | p::r,k=>if p.1 =k then some 0 else (jz r k).map (· + 1)
end
end Cin
namespace Cin
inductive Way (ρ α:Type)
 | go (a:α)
 | out (r:ρ)
def dp {ρ α:Type} (x:Option (Way ρ α)) (k:α->Option ρ):Option ρ:=match x with
 | none=>none
 | some (.go a)=>k a
 | some (.out r)=>some r
def dG {ρ α β:Type} (x:Option (Way ρ α)) (k:α->Option (Way ρ β)):Option (Way ρ β):=match x with
 | none=>none
 | some (.go a)=>k a
 | some (.out r)=>some (.out r)
def fm {ρ α:Type} (k:α->Option ρ):Way ρ α->Option ρ
 | .go a=>k a
 | .out r=>some r
def kX {ρ α β:Type} (k:α->Option (Way ρ β)):Way ρ α->Option (Way ρ β)
 | .go a=>k a
 | .out r=>some (.out r)
theorem fA {ρ α:Type} {x:Option (Way ρ α)} {k:α->Option ρ} {r:ρ} (h:dp x k=some r):∃ y,x=some y/\fm k y=some r:=by
 cases x with
 | none=>cases h
 | some y=>cases y <;> exact ⟨_,rfl,h⟩
theorem lZ {ρ α β:Type} {x:Option (Way ρ α)} {k:α->Option (Way ρ β)} {r:Way ρ β} (h:dG x k=some r):∃ y,x=some y/\kX k y=some r:=by
 cases x with
 | none=>cases h
 | some y=>cases y <;> exact ⟨_,rfl,h⟩
@[simp] theorem oJ {ρ α:Type} (a:α) (k:α->Option ρ):dp (some (.go a)) k=k a:=rfl
@[simp] theorem ajW {ρ α:Type} (r:ρ) (k:α->Option ρ):dp (some (.out r)) k=some r:=rfl
@[simp] theorem lY {ρ α β:Type} (a:α) (k:α->Option (Way ρ β)):dG (some (.go a)) k=k a:=rfl
@[simp] theorem anK {ρ α β:Type} (r:ρ) (k:α->Option (Way ρ β)):dG (some (.out r)) k=some (.out r):=rfl
end Cin
namespace Cin
end Cin
namespace Gg
open Go Go.RowKit
def fQ:List (Nat × Value)->Nat->Option Value
 | [],_=>none
 | p::r,t=>match Nat.beq p.1 t with
   | true=>some p.2
   | false=>fQ r t
structure gE where
 n:Nat
 ds:List Deferred
instance:Coe gE Nat:=⟨gE.n⟩
structure Fr (n:gE) (l:List (Nat × Value)) (a:Act):Prop where
 size:a.tmps.size=n.n
 defers:a.defers=n.ds
 get:∀ t v,fQ l t=some v->a.tmps.getD t undef=v
theorem Fr.g {n:gE} {l:List (Nat × Value)} {a:Act} {t:Nat} {v:Value} (I:Fr n l a) (h:fQ l t=some v):a.eval (.tmp t)=v:=I.get t v h
theorem Fr.put {n:gE} {d:Nat} {l:List (Nat × Value)} {a:Act} {v:Value} (I:Fr n l a) (bG:Nat.blt d n=true):Fr n ((d,v)::l) (a.put (some d) v):=by
 have dO:d <n:=Nat.le_of_ble_eq_true bG
 refine ⟨by simpa [Act.put] using I.size,I.defers,fun t u h=>?_⟩
 have aY:=I.size
 simp only [fQ] at h
 cases aM:Nat.beq d t with
 | true=>
   rw [aM] at h
   simp only [Option.some.injEq] at h
   have e:d=t:=Nat.eq_of_beq_eq_true aM
   subst e;subst h
   simp [Act.put,aY,dO]
 | false=>
   rw [aM] at h
   have e:d≠t:=by intro e;subst e;simp at aM
   have:=I.get t u h
   simp only [Act.put,Array.getD_eq_getD_getElem?] at this ⊢
   rw [Array.getElem?_setIfInBounds,if_neg e]
   exact this
def Cl (l:List (Nat × Value)):List (Nat × Value)->Prop
 | []=>True
 | p::r=>fQ l p.1 =some p.2 /\Cl l r
theorem ahT {l l':List (Nat × Value)} (h:Cl l l'):∀ t v,fQ l' t=some v->fQ l t=some v:=by
 induction l' with
 | nil=>intro t v bt;simp [fQ] at bt
 | cons p r cb=>
   intro t v bt
   simp only [fQ] at bt
   cases aM:Nat.beq p.1 t with
   | true=>
     rw [aM] at bt
     have e:p.1 =t:=Nat.eq_of_beq_eq_true aM
     simp only [Option.some.injEq] at bt
     rw [<-e,<-bt];exact h.1
   | false=>rw [aM] at bt;exact cb h.2 t v bt
theorem Fr.sub {n:gE} {l l':List (Nat × Value)} {a:Act} (I:Fr n l a) (h:Cl l l'):Fr n l' a:=
 ⟨I.size,I.defers,fun t v bt=>I.get t v (ahT h t v bt)⟩
def sP:Nat->List Value->List (Nat × Value)
 | _,[]=>[]
 | k,v::r=>(k,v)::sP (k+ 1) r
theorem ahS (vs:List Value):∀ k t v,fQ (sP k vs) t=some v->k<=t/\vs[t - k]? =some v:=by
 induction vs with
 | nil=>intro k t v h;simp [sP,fQ] at h
 | cons u r cb=>
   intro k t v h
   simp only [sP,fQ] at h
   cases aM:Nat.beq k t with
   | true=>
     rw [aM] at h
     have e:k=t:=Nat.eq_of_beq_eq_true aM
     subst e
     simpa using h
   | false=>
     rw [aM] at h
     have e:k≠t:=by intro e;subst e;simp at aM
     obtain ⟨aq,aC⟩:=cb (k+ 1) t v h
     refine ⟨by omega,?_⟩
     have:t - k=(t - (k+ 1))+ 1 :=by omega
     rw [this];simpa using aC
theorem Fr.init (vs:List Value) (n:Nat) (h:Nat.ble vs.length n=true):Fr ⟨n,[]⟩ (sP 0 vs) { tmps:=vs.toArray++Array.replicate (n - vs.toArray.size) undef,defers:=[] }:=by
 have hle:vs.length<=n:=by simpa using h
 refine ⟨by simp;omega,rfl,fun t v bt=>?_⟩
 obtain ⟨_,aC⟩:=ahS vs 0 t v bt
 have dO:t <vs.length:=by
  rcases Nat.lt_or_ge t vs.length with h | h
  · exact h
  · rw [List.getElem?_eq_none (by simpa using h)] at aC;cases aC
 have bw:vs[t]? =some v:=by simpa using aC
 rw [Array.getD_eq_getD_getElem?]
 rw [List.getElem?_eq_getElem dO,Option.some.injEq] at bw
 simp [Array.getElem?_append,dO,bw]
theorem enter {P:Program} {f:FuncId} {fn:Func} {c:Code} {vs:List Value} {w:World} {R:Ending->World->Prop} {n:Nat}
 (I:P.funcs[f]? =some fn) (aM:fn.body=some c) (ad:fn.ntmps=n) (ag:Nat.ble vs.length n=true)
 (h:∀ a,Fr ⟨n,[]⟩ (sP 0 vs) a->c.wp P (bodyPost P fn R) a w):Calls P f vs.toArray w R:=by
 refine calls_of_wp I aM ?_
 rw [ad]
 exact h _ (Fr.init vs n ag)
structure aX (M:List Nat) (w az:World):Prop where
 os:az.os=w.os
 tape:az.tape=w.tape
 output:az.output=w.output
 size:w.heap.size<=az.heap.size
 block:∀ k,k <w.heap.size->k ∉ M->az.heap[k]? =w.heap[k]?
theorem aX.refl (M:List Nat) (w:World):aX M w w:=⟨rfl,rfl,rfl,Nat.le_refl _,fun _ _ _=>rfl⟩
theorem aX.trans {M hG:List Nat} {a b c:World} (h:aX M a b) (k:aX hG b c) (hm:∀ x ∈ hG,x ∈ M\/a.heap.size<=x):aX M a c:=
 ⟨k.os.trans h.os,k.tape.trans h.tape,k.output.trans h.output,Nat.le_trans h.size k.size,fun i hi ad=>
   (k.block i (Nat.lt_of_lt_of_le hi h.size) (fun af=>by rcases hm i af with e | e;exact ad e;omega)).trans (h.block i hi ad)⟩
theorem aX.drew (M:List Nat) (w:World):aX M w w.drew:=⟨rfl,rfl,rfl,Nat.le_refl _,fun _ _ _=>rfl⟩
theorem aX.alloc (M:List Nat) (w:World) (o:Obj):aX M w (w.alloc o):=⟨rfl,rfl,rfl,by simp,fun k aZ _=>Below.heap_alloc _ _ _ aZ⟩
theorem aX.set (w:World) (a:Addr) (u:Value):aX [a.block] w (w.setCell a u):=
 ⟨rfl,rfl,rfl,by simp [World.setCell],fun k _ ad=>Below.heap_setCell _ _ _ _ (by simpa using ad)⟩
theorem aX.mono {M hG:List Nat} {a b:World} (h:aX M a b) (hm:∀ x ∈ M,x ∈ hG):aX hG a b:=⟨h.os,h.tape,h.output,h.size,fun k aZ ad=>h.block k aZ (fun af=>ad (hm k af))⟩
theorem aX.grown {w az:World} {row:Option Nat} (h:w.grownBy az row):aX row.toList w az:=
 ⟨h.os,h.tape,h.output,h.size,fun k aZ ad=>h.block k aZ (fun e=>ad (by rw [<-e];simp))⟩
theorem aX.below {w az:World} (h:aX [] w az):Below w.heap.size w az:=⟨h.os,h.tape,h.output,h.size,fun k aZ=>h.block k aZ (by simp)⟩
structure aw where
 fv:List Nat
 ok:World->Prop
 law:∀ w az,(∀ k ∈ fv,az.heap[k]? =w.heap[k]?)->ok w->ok az
structure ap where
 ok:List Nat->World->Prop
 law:∀ M hG w az,aX M w az->(∀ k ∈ hG,k ∈ M\/w.heap.size<=k)->ok M w->ok hG az
def aT (E:List aw):List Nat:=E.flatMap aw.fv
structure aD (W:World) (aR X:List Nat) (w:World) (E:List aw) (D:List ap):Prop where
 ev:aX aR W w
 lj:∀ k ∈ X,k <W.heap.size/\k ∉ aR
 lt:∀ k ∈ aT E,k <w.heap.size/\(k ∈ aR\/W.heap.size<=k)
 ok:∀ x ∈ E,x.ok w
 dM:(aT E).Nodup
 rd:∀ y ∈ D,y.ok (X++aT E) w
section
variable {W w az:World} {aR X:List Nat} {E:List aw} {D:List ap}
theorem aD.eD (h:aD W aR X w E D) (U:aX [] w az):aD W aR X az E D:=
 ⟨h.ev.trans U (by simp),h.lj,fun k aZ=>⟨Nat.lt_of_lt_of_le (h.lt k aZ).1 U.size,(h.lt k aZ).2⟩,
  fun x af=>x.law w az (fun k aZ=>U.block k (h.lt k (List.mem_flatMap.2 ⟨x,af,aZ⟩)).1 (by simp)) (h.ok x af),h.dM,
  fun y hy=>y.law (X++aT E) _ w az (U.mono (by simp)) (fun k aZ=>.inl aZ) (h.rd y hy)⟩
theorem aD.drew (h:aD W aR X w E D):aD W aR X w.drew E D:=h.eD (aX.drew _ _)
theorem aD.push (h:aD W aR X w E D) (x:aw) (U:aX [] w az) (af:x.ok az) (I:∀ k ∈ x.fv,w.heap.size<=k/\k <az.heap.size) (ad:x.fv.Nodup):aD W aR X az (x::E) D:=by
 have aq:=h.eD U
 refine ⟨aq.ev,h.lj,fun k aZ=>?_,fun y hy=>?_,?_,fun y hy=>?_⟩
 · rcases List.mem_append.1 (by simpa [aT] using aZ:k ∈ x.fv++aT E) with e | e
   · exact ⟨(I k e).2,.inr (Nat.le_trans h.ev.size (I k e).1)⟩
   · exact aq.lt k e
 · rcases List.mem_cons.1 hy with rfl | e
   · exact af
   · exact aq.ok y e
 · have:aT (x::E)=x.fv++aT E:=by simp [aT]
   rw [this,List.nodup_append]
   refine ⟨ad,h.dM,fun a a' b aM e=>?_⟩
   subst e
   have:=(I a a').1
   have:=(h.lt a aM).1
   omega
 · refine y.law (X++aT E) _ w az (U.mono (by simp)) (fun k aZ=>?_) (h.rd y hy)
   have ji:k ∈ X++(x.fv++aT E):=by simpa [aT] using aZ
   simp only [List.mem_append] at ji
   rcases ji with e | e | e
   · exact .inl (by simp [e])
   · exact .inr (I k e).1
   · exact .inl (by simp [e])
theorem aD.drop (h:aD W aR X w E D) {mc:List aw} (aY:List.Sublist mc E):aD W aR X w mc D:=by
 have I:List.Sublist (aT mc) (aT E):=by
  unfold aT
  clear h
  induction aY with
  | slnil=>simp
  | cons a _ cb=>simpa using cb.trans (List.sublist_append_right _ _)
  | cons_cons a _ cb=>simpa using List.Sublist.append_left cb a.fv
 exact ⟨h.ev,h.lj,fun k aZ=>h.lt k (I.subset aZ),fun x af=>h.ok x (aY.subset af),h.dM.sublist I,
  fun y hy=>y.law (X++aT E) _ w w (aX.refl _ _) (fun k aZ=>.inl (by rcases List.mem_append.1 aZ with e | e;exact List.mem_append.2 (.inl e);exact List.mem_append.2 (.inr (I.subset e)))) (h.rd y hy)⟩
theorem aD.aki (h:aD W aR X w E D) {A B:List aw} {x nw:aw} (fO:E=A++x::B) (U:aX x.fv w az) (af:nw.ok az) (ad:nw.fv.Nodup)
 (I:∀ k ∈ nw.fv,k ∈ x.fv\/(w.heap.size<=k/\k <az.heap.size)):aD W aR X az (A++nw::B) D:=by
 subst fO
 have bn:aT (A++x::B)=aT A++(x.fv++aT B):=by simp [aT]
 have bI:aT (A++nw::B)=aT A++(nw.fv++aT B):=by simp [aT]
 have D4:=h.dM
 rw [bn,List.nodup_append,List.nodup_append] at D4
 obtain ⟨Vn,⟨anb,Vo,PE⟩,HG⟩:=D4
 have lN:∀ k ∈ x.fv,k <w.heap.size/\(k ∈ aR\/W.heap.size<=k):=fun k aZ=>h.lt k (by rw [bn];simp [aZ])
 refine ⟨h.ev.trans U (fun k aZ=>(lN k aZ).2),h.lj,fun k aZ=>?_,fun y hy=>?_,?_,fun y hy=>?_⟩
 · rw [bI] at aZ
   simp only [List.mem_append] at aZ
   rcases aZ with aZ | aZ | aZ
   · have:=h.lt k (by rw [bn];simp [aZ]);exact ⟨Nat.lt_of_lt_of_le this.1 U.size,this.2⟩
   · rcases I k aZ with e | e
     · exact ⟨Nat.lt_of_lt_of_le (lN k e).1 U.size,(lN k e).2⟩
     · exact ⟨e.2,.inr (Nat.le_trans h.ev.size e.1)⟩
   · have:=h.lt k (by rw [bn];simp [aZ]);exact ⟨Nat.lt_of_lt_of_le this.1 U.size,this.2⟩
 · have Rl:∀ z,z ∈ A\/z ∈ B->z.ok az:=fun z cT=>by
    have QU:z ∈ A++x::B:=by rcases cT with e | e <;> simp [e]
    refine z.law w az (fun k aZ=>U.block k (h.lt k (List.mem_flatMap.2 ⟨z,QU,aZ⟩)).1 (fun Ea=>?_)) (h.ok z QU)
    rcases cT with e | e
    · exact HG k (List.mem_flatMap.2 ⟨z,e,aZ⟩) k (by simp [Ea]) rfl
    · exact PE k Ea k (List.mem_flatMap.2 ⟨z,e,aZ⟩) rfl
   simp only [List.mem_append,List.mem_cons] at hy
   rcases hy with hy | rfl | hy
   · exact Rl y (.inl hy)
   · exact af
   · exact Rl y (.inr hy)
 · rw [bI,List.nodup_append,List.nodup_append]
   have eS:∀ k ∈ nw.fv,∀ b,(b ∈ aT A\/b ∈ aT B)->k≠b:=fun k aZ b aM e=>by
    subst e
    rcases I k aZ with e | e
    · rcases aM with aM | aM
      · exact HG k aM k (by simp [e]) rfl
      · exact PE k e k aM rfl
    · have:=(h.lt k (by rw [bn];rcases aM with aM | aM <;> simp [aM])).1
      omega
   exact ⟨Vn,⟨ad,Vo,fun a a' b aM=>eS a a' b (.inr aM)⟩,fun a a' b aM=>by
    rcases List.mem_append.1 aM with aM | aM
    · exact fun e=>eS b aM a (.inl a') e.symm
    · exact HG a a' b (by simp [aM])⟩
 · refine y.law (X++aT (A++x::B)) _ w az (U.mono (fun k aZ=>by rw [bn];simp [aZ])) (fun k aZ=>?_) (h.rd y hy)
   rw [bI] at aZ
   simp only [List.mem_append] at aZ
   rcases aZ with aZ | aZ | aZ | aZ
   · exact .inl (by simp [aZ])
   · exact .inl (by rw [bn];simp [aZ])
   · rcases I k aZ with e | e
     · exact .inl (by rw [bn];simp [e])
     · exact .inr e.1
   · exact .inl (by rw [bn];simp [aZ])
theorem aD.more (h:aD W aR X w E D) {y:ap} (hy:y.ok (X++aT E) w):aD W aR X w E (y::D):=
 ⟨h.ev,h.lj,h.lt,h.ok,h.dM,fun z cT=>by rcases List.mem_cons.1 cT with rfl | e;exact hy;exact h.rd z e⟩
theorem aD.less (h:aD W aR X w E D) {i_:List ap} (aY:∀ y ∈ i_,y ∈ D):aD W aR X w E i_:=⟨h.ev,h.lj,h.lt,h.ok,h.dM,fun y hy=>h.rd y (aY y hy)⟩
theorem aD.e (h:aD W aR X w E D) (i:Nat) {x:aw} (hi:E[i]? =some x):x.ok w:=h.ok x (List.mem_of_getElem? hi)
theorem aD.d (h:aD W aR X w E D) (i:Nat) {y:ap} (hi:D[i]? =some y):y.ok (X++aT E) w:=h.rd y (List.mem_of_getElem? hi)
theorem ap.less {y:ap} {M hG:List Nat} (h:y.ok M w) (hm:∀ k ∈ hG,k ∈ M):y.ok hG w:=y.law M hG w w (aX.refl _ _) (fun k aZ=>.inl (hm k aZ)) h
theorem aD.rR (h:aD W aR X w E D) (i:Nat) {x nw:aw} (hi:E[i]? =some x) (U:aX x.fv w az) (af:nw.ok az) (ad:nw.fv.Nodup)
 (I:∀ k ∈ nw.fv,k ∈ x.fv\/(w.heap.size<=k/\k <az.heap.size)):aD W aR X az (E.set i nw) D:=by
 obtain ⟨ag,rfl⟩:=List.getElem?_eq_some_iff.1 hi
 have fO:E=E.take i++E[i]::E.drop (i+ 1):=by simp
 have:=h.aki fO U af ad I
 rwa [List.set_eq_take_append_cons_drop,if_pos ag]
end
end Gg
namespace Gg
open Go Go.RowKit Cin
abbrev au (l:List UInt8):Value:=.string ⟨⟨l⟩⟩
structure eJ (α:Type) where
 size:Nat
 rd:(Nat->Prop)->World->List Value->α->Prop
 len:∀ {F w cs d},rd F w cs d->cs.length=size
 one:∀ {F w cs d},rd F w cs d-> ∀ v ∈ cs,v.oneCell'=true
 law:∀ {F uG w az cs d},(∀ k,F k->uG k/\az.heap[k]? =w.heap[k]?)->rd F w cs d->rd uG az cs d
def hp (M:List Nat) (w:World):Nat->Prop:=fun k=>k ∉ M/\k <w.heap.size
def ap.of {α:Type} (T:eJ α) (cs:List Value) (d:α):ap where
 ok M w:=T.rd (hp M w) w cs d
 law M hG w az U hm h:=T.law (fun k aZ=>⟨⟨fun af=>by rcases hm k af with e | e;exact aZ.1 e;exact absurd aZ.2 (by omega),Nat.lt_of_lt_of_le aZ.2 U.size⟩,U.block k aZ.2 aZ.1⟩) h
def ax (k:IntKind):eJ Int where
 size:=1
 rd _ _ cs d:=cs= [.int k d]
 len h:=by subst h;rfl
 one h v U:=by subst h;simp at U;subst U;rfl
 law _ h:=h
def Fv:eJ UInt8 where
 size:=1
 rd _ _ cs d:=cs= [.int .u8 (d.toNat:Int)]
 len h:=by subst h;rfl
 one h v U:=by subst h;simp at U;subst U;rfl
 law _ h:=h
def akj:eJ Bool where
 size:=1
 rd _ _ cs d:=cs= [.bool d]
 len h:=by subst h;rfl
 one h v U:=by subst h;simp at U;subst U;rfl
 law _ h:=h
def bZ:eJ (List UInt8) where
 size:=1
 rd _ _ cs d:=cs= [au d]
 len h:=by subst h;rfl
 one h v U:=by subst h;simp at U;subst U;rfl
 law _ h:=h
section
variable {α:Type} (T:eJ α)
def fl (F:Nat->Prop) (w:World):List Value->List α->Prop
 | xs,[]=>xs= []
 | xs,d::r=>∃ cs ys,xs=cs++ys/\T.rd F w cs d/\fl F w ys r
theorem Mk {F:Nat->Prop} {w:World}:∀ {l:List α} {xs:List Value},fl T F w xs l->xs.length=l.length*T.size
 | [],xs,h=>by simp only [fl] at h;subst h;simp
 | d::r,xs,h=>by
   obtain ⟨cs,ys,rfl,aq,aC⟩:=h
   rw [List.length_append,T.len aq,Mk aC,List.length_cons,Nat.add_mul];omega
theorem R8 {F:Nat->Prop} {w:World}:∀ {l:List α} {xs:List Value},fl T F w xs l-> ∀ v ∈ xs,v.oneCell'=true
 | [],xs,h=>by simp only [fl] at h;subst h;simp
 | d::r,xs,h=>by
   obtain ⟨cs,ys,rfl,aq,aC⟩:=h
   intro v U
   rcases List.mem_append.1 U with e | e
   · exact T.one aq v e
   · exact R8 aC v e
theorem Mj {F uG:Nat->Prop} {w az:World} (bu:∀ k,F k->uG k/\az.heap[k]? =w.heap[k]?):∀ {l:List α} {xs:List Value},fl T F w xs l->fl T uG az xs l
 | [],xs,h=>h
 | d::r,xs,h=>by
   obtain ⟨cs,ys,rfl,aq,aC⟩:=h
   exact ⟨cs,ys,rfl,T.law bu aq,Mj bu aC⟩
theorem R_ {F:Nat->Prop} {w:World} {d:α} {cs:List Value} (bG:T.rd F w cs d):∀ {l:List α} {xs:List Value},fl T F w xs l->fl T F w (xs++cs) (l++[d])
 | [],xs,h=>by simp only [fl] at h;subst h;exact ⟨cs,[],by simp,bG,rfl⟩
 | e::r,xs,h=>by
   obtain ⟨c,ys,rfl,aq,aC⟩:=h
   exact ⟨c,ys++cs,by simp,aq,R_ bG aC⟩
theorem R7 {F:Nat->Prop} {w:World} {l':List α} {fD:List Value} (dh:fl T F w fD l'):∀ {l:List α} {xs:List Value},fl T F w xs l->fl T F w (xs++fD) (l++l')
 | [],xs,h=>by simp only [fl] at h;subst h;simpa using dh
 | e::r,xs,h=>by
   obtain ⟨c,ys,rfl,aq,aC⟩:=h
   exact ⟨c,ys++fD,by simp,aq,R7 dh aC⟩
theorem Mh {F:Nat->Prop} {w:World}:∀ {l:List α} {xs:List Value} {i:Nat} {d:α},fl T F w xs l->l[i]? =some d ->
 ∃ cs,T.rd F w cs d/\ ∀ j u,cs[j]? =some u->xs[i*T.size+j]? =some u
 | [],_,i,d,_,hi=>by simp at hi
 | e::r,xs,0,d,h,hi=>by
   obtain ⟨cs,ys,rfl,aq,_⟩:=h
   simp only [List.getElem?_cons_zero,Option.some.injEq] at hi
   subst hi
   refine ⟨cs,aq,fun j u bf=>?_⟩
   have ag:j <cs.length:=by
    rcases Nat.lt_or_ge j cs.length with h | h
    · exact h
    · rw [List.getElem?_eq_none h] at bf;cases bf
   simpa [List.getElem?_append,ag] using bf
 | e::r,xs,i+ 1,d,h,hi=>by
   obtain ⟨cs,ys,rfl,aq,aC⟩:=h
   obtain ⟨c,hc,bf⟩:=Mh (i:=i) aC (by simpa using hi)
   refine ⟨c,hc,fun j u JE=>?_⟩
   have hlen:=T.len aq
   have bn:(i+ 1)*T.size+j=cs.length+(i*T.size+j):=by rw [Nat.add_mul];omega
   rw [bn,List.getElem?_append_right (by omega)]
   simpa using bf j u JE
def hY (w:World) (a:Addr) (xs:List Value):Prop:=∀ j u,xs[j]? =some u->w.cell? ⟨a.block,a.off+j,none⟩=some u
theorem hY.law {w az:World} {a:Addr} {xs:List Value} (h:hY w a xs) (aM:az.heap[a.block]? =w.heap[a.block]?):hY az a xs:=
 fun j u bf=>(World.cell?_of_block (a:=⟨a.block,a.off+j,none⟩) aM).trans (h j u bf)
def ct (A:Option Addr):Nat:=(A.getD ⟨0,0,none⟩).block
def cy (A:Option Addr):Nat:=(A.getD ⟨0,0,none⟩).off
def aU:eJ (List α) where
 size:=1
 rd F w cs l:=∃ A c,cs= [.slice A l.length c]/\l.length<=c/\c<=maxLen/\(A=none->c= 0) /\
  (l≠ []->A=some ⟨ct A,cy A,none⟩/\F (ct A)/\ ∃ xs,fl T F w xs l/\hY w ⟨ct A,cy A,none⟩ xs)
 len h:=by obtain ⟨A,c,rfl,_⟩:=h;rfl
 one h v U:=by obtain ⟨A,c,rfl,_⟩:=h;simp at U;subst U;rfl
 law bu h:=by
  obtain ⟨A,c,aq,bw,dz,jx,qq⟩:=h
  refine ⟨A,c,aq,bw,dz,jx,fun ag=>?_⟩
  obtain ⟨bn,bI,xs,df,fu⟩:=qq ag
  exact ⟨bn,(bu _ bI).1,xs,Mj T bu df,fu.law (bu _ bI).2⟩
theorem da {F:Nat->Prop} {w:World} {A:Option Addr} {n c:Nat} {l:List α} {i:Int} {d:α} (h:(aU T).rd F w [.slice A n c] l) (hi:idx l i=some d) :
 A=some ⟨ct A,cy A,none⟩/\(0 <=i/\i <n)/\ ∃ cs,T.rd F w cs d/\hY w ⟨ct A,cy A+i.toNat*T.size,none⟩ cs:=by
 obtain ⟨bk,aq,aC⟩:=ti hi
 obtain ⟨iD,dw,bn,df,fu,ii,u3⟩:=h
 simp only [List.cons.injEq,Value.slice.injEq,and_true] at bn
 obtain ⟨rfl,rfl,rfl⟩:=bn
 obtain ⟨h1,jL,xs,u5,u6⟩:=u3 (fun adF=>by rw [adF] at aq;simp at aq)
 obtain ⟨cs,hc,s0⟩:=Mh T u5 aC
 refine ⟨h1,⟨bk,by omega⟩,cs,hc,fun j u bf=>?_⟩
 have:=u6 (i.toNat*T.size+j) u (s0 j u bf)
 simpa [Nat.add_assoc] using this
end
def aw.br (g:Nat) (t:TypeId) (cs:List Value):aw where
 fv:=[g]
 ok w:=w.heap[g]? =some (.cells cs.toArray t (0,0))
 law w az h aZ:=(h g (by simp)).trans aZ
def aw.row {α:Type} (e:TypeId) (size:Nat) (v:Value) (l:List α) (xs:List Value):aw where
 fv:=v.ownBlock.toList
 ok w:=w.ownsRow 0 e size v l.length xs
 law w az h aZ:=by
  refine ⟨aZ.1,?_⟩
  rcases aZ.2 with ad | ⟨g,cap,cur,rfl,aM,Ix,rest⟩
  · exact .inl ad
  · exact .inr ⟨g,cap,cur,rfl,aM,(h g (by simp [Value.ownBlock])).trans Ix,rest⟩
def ap.rows {α:Type} (T:eJ α) (xs:List Value) (l:List α):ap where
 ok M w:=fl T (hp M w) w xs l
 law M hG w az U hm h:=Mj T (fun k aZ=>⟨⟨fun af=>by rcases hm k af with e | e;exact aZ.1 e;exact absurd aZ.2 (by omega),Nat.lt_of_lt_of_le aZ.2 U.size⟩,U.block k aZ.2 aZ.1⟩) h
theorem Ms {α:Type} {w:World} {e:TypeId} {size:Nat} {v:Value} {l:List α} {xs:List Value} (h:(aw.row e size v l xs).ok w):∃ A c,v= .slice A l.length c/\l.length<=c/\c<=maxLen/\(A=none->c= 0)/\(A≠none->A=some ⟨ct A,0,none⟩):=by
 have dh:w.ownsRow 0 e size v l.length xs:=h
 rcases dh.2 with ⟨rfl,bk⟩ | ⟨g,cap,cur,rfl,_,_,aq,aC,_⟩
 · exact ⟨none,0,by rw [bk],by omega,Nat.zero_le _,fun _=>rfl,fun h=>absurd rfl h⟩
 · exact ⟨some ⟨g,0,none⟩,cap,rfl,aq,aC,(fun h=>by cases h),fun _=>rfl⟩
theorem ajw {α:Type} {T:eJ α} {M:List Nat} {w:World} {e:TypeId} {A:Option Addr} {n c:Nat} {l:List α} {xs:List Value} (h:(aw.row e T.size (.slice A n c) l xs).ok w) (bm:(ap.rows T xs l).ok M w)
 (fP:∀ k ∈ (Value.slice A n c).ownBlock.toList,k ∉ M):(ap.of (aU T) [.slice A n c] l).ok M w:=by
 have dh:w.ownsRow 0 e T.size (.slice A n c) l.length xs:=h
 have Bd:fl T (hp M w) w xs l:=bm
 show (aU T).rd (hp M w) w _ l
 rcases dh.2 with ⟨aq,bk⟩ | ⟨g,cap,cur,aq,_,c0,hle,hm,aY,af⟩
 · have ag:l= []:=List.eq_nil_of_length_eq_zero bk
   simp only [Value.slice.injEq] at aq
   obtain ⟨rfl,rfl,rfl⟩:=aq
   subst ag
   exact ⟨none,0,rfl,by simp,Nat.zero_le _,fun _=>rfl,fun h=>absurd rfl h⟩
 · simp only [Value.slice.injEq] at aq
   obtain ⟨rfl,rfl,rfl⟩:=aq
   refine ⟨_,_,rfl,hle,hm,(fun h=>by cases h),fun _=>⟨rfl,⟨fP g (by simp [Value.ownBlock]),(Array.getElem?_eq_some_iff.1 c0).1⟩,xs,Bd,fun j u bf=>?_⟩⟩
   have mA:=dh.cells (g:=g) rfl j u bf
   simpa [Addr.add,ct,cy] using (by
    have e:(⟨g,0,none⟩:Addr).add j=⟨g,0 +j,none⟩:=by unfold Addr.add;split <;> simp_all
    rw [e] at mA;exact mA:w.cell? ⟨g,0 +j,none⟩=some u)
theorem wY {w:World} {g:Nat} {t:TypeId} {cs:List Value} (h:(aw.br g t cs).ok w) {j:Nat} {v:Value} (bf:cs[j]? =some v):w.cell? ⟨g,j,none⟩=some v:=by
 have dh:w.heap[g]? =some (.cells cs.toArray t (0,0)):=h
 simp [World.cell?,dh,bf]
theorem N9 {w:World} {g:Nat} {t:TypeId} {cs:List Value} (h:(aw.br g t cs).ok w) (j:Nat):w.frozen? ⟨g,j,none⟩=false:=by
 have dh:w.heap[g]? =some (.cells cs.toArray t (0,0)):=h
 simp [World.frozen?,dh]
theorem uR {w:World} {g:Nat} {t:TypeId} {cs:List Value} (h:(aw.br g t cs).ok w):g <w.heap.size:=by
 have dh:w.heap[g]? =some (.cells cs.toArray t (0,0)):=h
 exact (Array.getElem?_eq_some_iff.1 dh).1
theorem TT (w:World) (t:TypeId) (cs:List Value):(aw.br w.heap.size t cs).ok (w.alloc (.cells cs.toArray t)):=heap_alloc_new w _
def ap.cF (g:Nat) (cs:List Value):ap where
 ok M w:=g ∉ M/\g <w.heap.size/\hY w ⟨g,0,none⟩ cs
 law M hG w az U hm h:=⟨fun af=>by rcases hm g af with e | e;exact h.1 e;exact absurd h.2.1 (by omega),Nat.lt_of_lt_of_le h.2.1 U.size,h.2.2.law (U.block g h.2.1 h.1)⟩
theorem np {α:Type} (T:eJ α) (M:List Nat) (w:World):(ap.of (aU T) [.slice none 0 0] ([]:List α)).ok M w:=
 ⟨none,0,rfl,by simp,Nat.zero_le _,fun _=>rfl,fun h=>absurd rfl h⟩
def MC (cs:List Value):Nat->List Value->Prop
 | _,[]=>True
 | k,v::r=>cs[k]? =some v/\MC cs (k+ 1) r
theorem Su {cs:List Value}:∀ {k:Nat} {l:List Value},MC cs k l-> ∀ j u,l[j]? =some u->cs[k+j]? =some u
 | _,[],_,j,u,bf=>by simp at bf
 | k,v::r,h,0,u,bf=>by
   simp only [List.getElem?_cons_zero,Option.some.injEq] at bf
   subst bf;exact h.1
 | k,v::r,h,j+ 1,u,bf=>by
   have:=Su h.2 j u (by simpa using bf)
   rwa [Nat.add_assoc,Nat.add_comm 1 j] at this
theorem hH {w:World} {g:Nat} {t:TypeId} {cs l:List Value} (h:(aw.br g t cs).ok w) (k:Nat) (aY:MC cs k l):hY w ⟨g,k,none⟩ l:=fun j u bf=>wY h (Su aY j u bf)
theorem ia {α:Type} {T:eJ α} {F:Nat->Prop} {w:World} {cs:List Value} {l:List α} (h:(aU T).rd F w cs l):∃ A c,cs= [.slice A l.length c]:=by
 obtain ⟨A,c,aq,_⟩:=h
 exact ⟨A,c,aq⟩
theorem h' {α:Type} {T:eJ α} {M:List Nat} {w:World} {e:TypeId} {A:Option Addr} {n c:Nat} {l:List α} {xs:List Value} {i:Int} {d:α} (h:(aw.row e T.size (.slice A n c) l xs).ok w) (bm:(ap.rows T xs l).ok M w) (hi:idx l i=some d) :
 A=some ⟨ct A,cy A,none⟩/\(0 <=i/\i <n)/\ ∃ cs,T.rd (hp M w) w cs d/\hY w ⟨ct A,cy A+i.toNat*T.size,none⟩ cs:=by
 obtain ⟨bk,aq,aC⟩:=ti hi
 have dh:w.ownsRow 0 e T.size (.slice A n c) l.length xs:=h
 have Bd:fl T (hp M w) w xs l:=bm
 rcases dh.2 with ⟨bn,gQ⟩ | ⟨g,cap,cur,bn,_,c0,_⟩
 · omega
 · simp only [Value.slice.injEq] at bn
   obtain ⟨rfl,rfl,rfl⟩:=bn
   obtain ⟨cs,hc,s0⟩:=Mh T Bd aC
   refine ⟨rfl,⟨bk,by omega⟩,cs,hc,fun j u bf=>?_⟩
   have mA:=dh.cells (g:=g) rfl _ u (s0 j u bf)
   have bI:(⟨g,0,none⟩:Addr).add (i.toNat*T.size+j)=⟨g,0 +(i.toNat*T.size+j),none⟩:=by unfold Addr.add;split <;> simp_all
   rw [bI] at mA
   show w.cell? ⟨g,0 +i.toNat*T.size+j,none⟩=some u
   rw [Nat.add_assoc];exact mA
end Gg
namespace Gg
open Go Go.RowKit Cin
theorem Ry (p q:List UInt8):(p == q)=decide (p=q):=by
 rw [Bool.eq_iff_iff];simp
section
variable {P:Program} {o:Oper} {a:Act} {w:World}
abbrev b5 (P:Program) (o:Oper) (a:Act) (w:World) (v:Value) (az:World):Prop:=(execOp a.eval o).run P w= .ok (.value v) az
abbrev sq (P:Program) (o:Oper) (a:Act) (w:World) (az:World):Prop:=(execOp a.eval o).run P w= .ok .skip az
theorem amr {x:Operand} {v:Value} (bc:o.op= .move x) (af:a.eval x=v):b5 P o a w v w:=by
 simp only [b5,execOp,bc,af];rfl
theorem al7 {x:Operand} {v:Value} (bc:o.op= .assign x) (af:a.eval x=v):b5 P o a w v w:=by
 simp only [b5,execOp,bc,af];rfl
theorem Ty {c x y:Operand} {v:Value} (bc:o.op= .pick c x y) (hc:a.eval c= .bool true) (af:a.eval x=v):b5 P o a w v w:=by
 simp only [b5,execOp,bc,hc,af];rfl
theorem Tx {c x y:Operand} {v:Value} (bc:o.op= .pick c x y) (hc:a.eval c= .bool false) (hy:a.eval y=v):b5 P o a w v w:=by
 simp only [b5,execOp,bc,hc,hy];rfl
section
variable {x y:Operand} {t dH:TypeId} {k:IntKind} {m n:Int}
theorem al3 (bc:o.op= .binOp .add t x y dH) (af:a.eval x= .int k m) (hy:a.eval y= .int k n):b5 P o a w (.int k (k.wrap (m+n))) w:=by
 simp only [b5,execOp,bc,af,hy]
 simp [go_sem]
theorem amE (bc:o.op= .binOp .sub t x y dH) (af:a.eval x= .int k m) (hy:a.eval y= .int k n):b5 P o a w (.int k (k.wrap (m - n))) w:=by
 simp only [b5,execOp,bc,af,hy]
 simp [go_sem]
theorem ams (bc:o.op= .binOp .mul t x y dH) (af:a.eval x= .int k m) (hy:a.eval y= .int k n):b5 P o a w (.int k (k.wrap (m*n))) w:=by
 simp only [b5,execOp,bc,af,hy]
 simp [go_sem]
theorem amA (bc:o.op= .binOp .quo t x y dH) (af:a.eval x= .int k m) (hy:a.eval y= .int k n) (bk:n≠ 0):b5 P o a w (.int k (k.wrap (m.tdiv n))) w:=by
 simp only [b5,execOp,bc,af,hy]
 simp [go_sem,bk]
theorem amo (bc:o.op= .binOp .lss t x y dH) (af:a.eval x= .int k m) (hy:a.eval y= .int k n):b5 P o a w (.bool (decide (m <n))) w:=by
 simp only [b5,execOp,bc,af,hy]
 simp [go_sem]
theorem aml (bc:o.op= .binOp .leq t x y dH) (af:a.eval x= .int k m) (hy:a.eval y= .int k n):b5 P o a w (.bool (decide (m<=n))) w:=by
 simp only [b5,execOp,bc,af,hy]
 simp [go_sem]
theorem ami (bc:o.op= .binOp .gtr t x y dH) (af:a.eval x= .int k m) (hy:a.eval y= .int k n):b5 P o a w (.bool (decide (n <m))) w:=by
 simp only [b5,execOp,bc,af,hy]
 simp [go_sem]
theorem amh (bc:o.op= .binOp .geq t x y dH) (af:a.eval x= .int k m) (hy:a.eval y= .int k n):b5 P o a w (.bool (decide (n<=m))) w:=by
 simp only [b5,execOp,bc,af,hy]
 simp [go_sem]
theorem amd (bt:P.underlying t=some (.int k)) (bc:o.op= .binOp .eql t x y dH) (af:a.eval x= .int k m) (hy:a.eval y= .int k n):b5 P o a w (.bool (decide (m=n))) w:=by
 have:=run_underlying (P:=P) bt
 simp only [b5,execOp,bc,af,hy]
 simp [go_sem,this]
 rfl
theorem amv (bt:P.underlying t=some (.int k)) (bc:o.op= .binOp .neq t x y dH) (af:a.eval x= .int k m) (hy:a.eval y= .int k n):b5 P o a w (.bool (!decide (m=n))) w:=by
 have:=run_underlying (P:=P) bt
 simp only [b5,execOp,bc,af,hy]
 simp [go_sem,this]
 rfl
end
section
variable {x y:Operand} {t dH:TypeId} {p q:Bool}
theorem ajK (bt:P.underlying t=some .bool) (p q:Bool) (w:World):(binOp .eql t (.bool p) (.bool q)).run P w= .ok (.bool (p == q)) w:=by
 have h:∀ d:Nat,(Op.equalIn (d+ 1) t (.bool p) (.bool q)).run P w= .ok (p == q) w:=fun d=>by
  simp [Op.equalIn,run_underlying bt]
 simp only [binOp]
 simp [Op.equal,Op.maxDepth,h 9999]
theorem ajL (bt:P.underlying t=some .bool) (p q:Bool) (w:World):(binOp .neq t (.bool p) (.bool q)).run P w= .ok (.bool (!(p == q))) w:=by
 have h:∀ d:Nat,(Op.equalIn (d+ 1) t (.bool p) (.bool q)).run P w= .ok (p == q) w:=fun d=>by
  simp [Op.equalIn,run_underlying bt]
 simp only [binOp]
 simp [Op.equal,Op.maxDepth,h 9999]
theorem amb (bt:P.underlying t=some .bool) (bc:o.op= .binOp .eql t x y dH) (af:a.eval x= .bool p) (hy:a.eval y= .bool q):b5 P o a w (.bool (p == q)) w:=by
 simp only [b5,execOp,bc,af,hy]
 simp [go_sem,ajK bt]
theorem amu (bt:P.underlying t=some .bool) (bc:o.op= .binOp .neq t x y dH) (af:a.eval x= .bool p) (hy:a.eval y= .bool q):b5 P o a w (.bool (!(p == q))) w:=by
 simp only [b5,execOp,bc,af,hy]
 simp [go_sem,ajL bt]
theorem amy (bc:o.op= .unOp .not t x) (af:a.eval x= .bool p):b5 P o a w (.bool (!p)) w:=by
 simp only [b5,execOp,bc,af]
 simp [go_sem]
end
section
variable {x y:Operand} {t dH:TypeId} {p q:List UInt8}
theorem ame (bt:P.underlying t=some .string) (bc:o.op= .binOp .eql t x y dH) (af:a.eval x=au p) (hy:a.eval y=au q):b5 P o a w (.bool (decide (p=q))) w:=by
 have:=run_underlying (P:=P) bt
 simp only [b5,execOp,bc,af,hy]
 simp [go_sem,this]
 exact Ry p q
theorem amw (bt:P.underlying t=some .string) (bc:o.op= .binOp .neq t x y dH) (af:a.eval x=au p) (hy:a.eval y=au q):b5 P o a w (.bool (!decide (p=q))) w:=by
 have:=run_underlying (P:=P) bt
 simp only [b5,execOp,bc,af,hy]
 simp [go_sem,this]
 exact Ry p q
theorem amk {jI:TypeId} (bt:P.underlying jI=some .string) (bc:o.op= .call { callee:=.builtin .len,args:=#[x],argTypes:=#[jI] }) (af:a.eval x=au p):b5 P o a w (.int .i64 p.length) w:=by
 simp only [b5,execOp,bc,resolve,invoke,List.map_toArray,List.map_cons,List.map_nil,af]
 simp [go_sem,Builtin.len_,run_underlying bt,goInt]
theorem amj {jI:TypeId} {A:Option Addr} {n c:Nat} {e:TypeId} (bt:P.underlying jI=some (.slice e)) (bc:o.op= .call { callee:=.builtin .len,args:=#[x],argTypes:=#[jI] }) (af:a.eval x= .slice A n c):b5 P o a w (.int .i64 n) w:=by
 simp only [b5,execOp,bc,resolve,invoke,List.map_toArray,List.map_cons,List.map_nil,af]
 simp [go_sem,Builtin.len_,run_underlying bt,goInt]
theorem Gk {k k':IntKind} {n:Int} (bt:P.underlying t=some (.int k)) (kn:P.underlying dH=some (.int k')) (bc:o.op= .convert t dH x) (af:a.eval x= .int k n):b5 P o a w (.int k' (k'.wrap n)) w:=by
 simp only [b5,execOp,bc,af]
 simp [go_sem,convert,run_underlying bt,run_underlying kn]
end
end
theorem ug (n:Int):IntKind.i64.wrap n=ay n:=by rw [IntKind.wrap_i64];rfl
theorem akn (n:Int):IntKind.u8.wrap n=((zv n).toNat:Int):=by rw [TR,IntKind.wrap_u8]
section
variable {P:Program} {o:Oper} {a:Act} {w:World} {x y:Operand} {t dH:TypeId} {m n:Int}
theorem al4 (bc:o.op= .binOp .add t x y dH) (af:a.eval x= .int .i64 m) (hy:a.eval y= .int .i64 n):b5 P o a w (.int .i64 (ay (m+n))) w:=by rw [<-ug];exact al3 bc af hy
theorem amF (bc:o.op= .binOp .sub t x y dH) (af:a.eval x= .int .i64 m) (hy:a.eval y= .int .i64 n):b5 P o a w (.int .i64 (ay (m - n))) w:=by rw [<-ug];exact amE bc af hy
theorem amt (bc:o.op= .binOp .mul t x y dH) (af:a.eval x= .int .i64 m) (hy:a.eval y= .int .i64 n):b5 P o a w (.int .i64 (ay (m*n))) w:=by rw [<-ug];exact ams bc af hy
theorem amC (bc:o.op= .binOp .rem t x y dH) (af:a.eval x= .int .i64 m) (hy:a.eval y= .int .i64 n) (bk:(!decide (n= 0))=true):b5 P o a w (.int .i64 (m.tmod n)) w:=by
 have bk:n≠ 0 :=by simpa using bk
 simp only [b5,execOp,bc,af,hy]
 simp [go_sem,bk]
theorem amB (bc:o.op= .binOp .quo t x y dH) (af:a.eval x= .int .i64 m) (hy:a.eval y= .int .i64 n) (bk:(!decide (n= 0))=true):b5 P o a w (.int .i64 (ay (m.tdiv n))) w:=by rw [<-ug];exact amA bc af hy (by simpa using bk)
theorem al9 (bt:P.underlying t=some (.int .i64)) (kn:P.underlying dH=some (.int .i64)) (bc:o.op= .convert t dH x) (af:a.eval x= .int .i64 m):b5 P o a w (.int .i64 (ay m)) w:=by
 have h:=Gk (P:=P) (w:=w) bt kn bc af
 rwa [ug] at h
theorem al' (bt:P.underlying t=some (.int .i64)) (kn:P.underlying dH=some (.int .u8)) (bc:o.op= .convert t dH x) (af:a.eval x= .int .i64 m):b5 P o a w (.int .u8 ((zv m).toNat:Int)) w:=by
 have h:=Gk (P:=P) (w:=w) bt kn bc af
 rwa [akn] at h
theorem dg (a:Act) (v:Value):a.eval (.const v)=v:=rfl
theorem PG (a:Act) (g:Nat):a.eval (.global g)= .pointer (some ⟨g,0,none⟩):=rfl
theorem amf {vs:List Value} {i:Nat} {v:Value} (bc:o.op= .extract x i) (af:a.eval x= .tuple vs.toArray) (U:vs[i]? =some v):b5 P o a w v w:=by
 simp only [b5,execOp,bc,af]
 simp [go_sem,Instr.extract,U]
theorem amx {p:Addr} (bc:o.op= .nilCheck x) (af:a.eval x= .pointer (some p)):b5 P o a w (.pointer (some p)) w:=by
 simp only [b5,execOp,bc,af]
 rfl
end
end Gg
namespace Gg
open Go Go.RowKit Cin
theorem nL (b o n:Nat):(⟨b,o,none⟩:Addr).add n=⟨b,o+n,none⟩:=by
 unfold Addr.add;split <;> simp_all
section
variable {P:Program} {o:Oper} {a:Act} {w:World} {x y:Operand} {t e s:TypeId}
theorem cv {A:Option Addr} {n c sz:Nat} {i:Int} (bt:P.underlying t=some (.slice e)) (aY:∀ w,(Go.sizeOf e).run P w= .ok sz w)
 (bc:o.op= .indexAddr t x y) (af:a.eval x= .slice A n c) (hy:a.eval y= .int .i64 i) (hx:A=some ⟨ct A,cy A,none⟩) (hi:0 <=i/\i <n) :
 b5 P o a w (.pointer (some ⟨ct A,cy A+i.toNat*sz,none⟩)) w:=by
 obtain ⟨bk,aq⟩:=hi
 obtain ⟨k,rfl⟩:=Int.eq_ofNat_of_zero_le bk
 have dO:k <n:=by omega
 rw [hx] at af
 simp only [b5,execOp,bc,af,hy]
 simp [go_sem,Instr.indexAt,run_underlying bt,dO,aY,nL]
theorem amg {fV:Array Field} {f:Field} {j b p sz:Nat} (bt:P.underlying s=some (.struct fV)) (I:fV[j]? =some f) (aY:∀ w,(Go.sizeOf f.type).run P w= .ok sz w) (bk:Nat.beq sz 0 =false)
 (bc:o.op= .fieldAddr s x j) (af:a.eval x= .pointer (some ⟨b,p,none⟩)):b5 P o a w (.pointer (some ⟨b,p+f.offset,none⟩)) w:=by
 have Wh:sz≠ 0 :=by intro e;subst e;simp at bk
 simp only [b5,execOp,bc,af]
 simp [go_sem,Instr.fieldAt,run_underlying bt,I,fieldPlace,aY,Wh,nL]
theorem amm {b p:Nat} {v:Value} (c0:∀ w,(isAgg t).run P w= .ok false w) (bc:o.op= .load t x) (af:a.eval x= .pointer (some ⟨b,p,none⟩)) (hc:w.cell? ⟨b,p,none⟩=some v):b5 P o a w v w:=by
 simp only [b5,execOp,bc,af]
 simp [go_sem,Instr.loadAt,loadVar,c0,hc]
theorem amn {b p sz:Nat} {cs:List Value} (c0:∀ w,(isAgg t).run P w= .ok true w) (aY:∀ w,(Go.sizeOf t).run P w= .ok sz w) (ag:cs.length=sz) (bc:o.op= .load t x)
 (af:a.eval x= .pointer (some ⟨b,p,none⟩)) (hc:hY w ⟨b,p,none⟩ cs):b5 P o a w (.agg cs.toArray) w:=by
 have h:=run_loadCells_list (P:=P) w ⟨b,p,none⟩ cs (fun j u bf=>by rw [nL];exact hc j u bf)
 rw [ag] at h
 unfold loadCells at h
 simp only [b5,execOp,bc,af]
 simp [go_sem,Instr.loadAt,loadVar,c0,aY,h]
theorem eY {v:Value} {cs:List Value} (U:v.cells=cs.toArray) (bc:o.op= .box t x) (af:a.eval x=v):b5 P o a w (.pointer (some ⟨w.heap.size,0,none⟩)) (w.alloc (.cells cs.toArray t)):=by
 have ob:=U
 unfold Value.cells at ob
 simp only [b5,execOp,bc,af]
 simp [go_sem,Instr.box,newVar,newRow,ob]
theorem e3 {z:Value} {cs:List Value} (cT:∀ w,(zeroValue t).run P w= .ok z w) (U:z.cells=cs.toArray) (bc:o.op= .alloc t):b5 P o a w (.pointer (some ⟨w.heap.size,0,none⟩)) (w.alloc (.cells cs.toArray t)):=by
 have ob:=U
 unfold Value.cells at ob
 simp only [b5,execOp,bc]
 simp [go_sem,Instr.alloc,newVar,newRow,cT,ob]
end
def lay:List Value->Nat->List Value->List Value
 | l,0,cs=>cs++l.drop cs.length
 | [],_+ 1,_=>[]
 | u::l,n+ 1,cs=>u::lay l n cs
theorem Ld:∀ (l:List Value) (n:Nat) (cs:List Value),n+cs.length<=l.length->lay l n cs=l.take n++cs++l.drop (n+cs.length)
 | l,0,cs,_=>by simp [lay]
 | [],n+ 1,cs,h=>by simp at h
 | u::l,n+ 1,cs,h=>by
   have:=Ld l n cs (by simp at h;omega)
   simp only [lay,this,List.take_succ_cons,List.cons_append]
   have e:n+ 1 +cs.length=(n+cs.length)+ 1 :=by omega
   rw [e,List.drop_succ_cons]
section
variable {P:Program} {o:Oper} {a:Act} {w:World} {x y:Operand} {t e s:TypeId}
theorem Tz {g p sz:Nat} {mN:TypeId} {cs vs:List Value} {v:Value} (U:v.cells=vs.toArray) (aY:∀ w,(Go.sizeOf t).run P w= .ok sz w) (ag:Nat.beq vs.length sz=true) (aq:vs.all (·.oneCell')=true)
 (hle:Nat.ble (p+vs.length) cs.length=true) (aM:(aw.br g mN cs).ok w) (bc:o.op= .store t x y) (af:a.eval x= .pointer (some ⟨g,p,none⟩)) (hy:a.eval y=v) :
 ∃ az,sq P o a w az/\aX [g] w az/\(aw.br g mN (lay cs p vs)).ok az:=by
 have hN:w.heap[g]? =some (.cells cs.toArray mN (0,0)):=aM
 have hlen:vs.length=sz:=Nat.eq_of_beq_eq_true ag
 have Ec:p+vs.length<=cs.length:=Nat.le_of_ble_eq_true hle
 have h:=run_storeCells_at P g p mN vs 0 cs.toArray w hN (by simpa using Ec) (fun u hu=>List.all_eq_true.1 aq u hu)
 simp only [Nat.add_zero] at h
 refine ⟨w.setRow g (lay cs p vs).toArray,?_,?_,?_⟩
 · simp only [sq,execOp,bc,af,hy]
   rw [Ld _ _ _ Ec]
   simp only [List.append_assoc,hlen] at h
   have ob:=U
   unfold Value.cells at ob
   simp [go_sem,Instr.storeAt,storeVar,aY,ob,hlen,h]
 · refine ⟨rfl,rfl,rfl,by simp [World.setRow],fun k _ ad=>?_⟩
   simp only [World.setRow,Array.getElem?_modify]
   rw [if_neg (by simpa [eq_comm] using ad)]
 · show (w.setRow g _).heap[g]? =_
   simp [World.setRow,Array.getElem?_modify,hN]
end
section
variable {P:Program} {o:Oper} {a:Act} {w:World} {x y:Operand} {t e:TypeId}
def DV (a:Act):List (Nat × Operand)->List (Nat × Value)->Prop
 | [],[]=>True
 | (i,x)::xs,(j,v)::vs=>(a.eval x=v/\i=j)/\DV a xs vs
 | _,_=>False
theorem HL:∀ {xs:List (Nat × Operand)} {vs:List (Nat × Value)},DV a xs vs->xs.map (fun p=>(p.1,a.eval p.2))=vs
 | [],[],_=>rfl
 | (i,x)::xs,(j,v)::vs,h=>by
   obtain ⟨⟨aq,rfl⟩,aC⟩:=h
   rw [List.map_cons,HL aC,aq]
def placesOf (P:Program) (t:TypeId):Sem (Array (Nat × Nat)):=(match P.underlying t with | some (.struct fV)=>fV | _=>#[]).mapM fun (f:Field)=>do pure (f.offset,<-Go.sizeOf f.type)
theorem gP {z:Value} {fV:Array Field} {pl:Array (Nat × Nat)} {xs:List (Nat × Operand)} {vs:List (Nat × Value)} {cs:List Value} (cT:∀ w,(zeroValue t).run P w= .ok z w) (hu:P.underlying t=some (.struct fV))
 (bD:∀ w,(placesOf P t).run P w= .ok pl w) (bc:o.op= .build t xs.toArray) (af:DV a xs vs) (Ir:Instr.fill (fun i=>pl[i]?) z.cells vs=some cs.toArray):b5 P o a w (.agg cs.toArray) w:=by
 have s':=bD w
 simp only [placesOf,hu] at s'
 have aq:=HL af
 simp only [b5,execOp,bc,Instr.build,Sem.run_bind,cT,Result.andThen_ok,run_underlying hu,s',List.map_toArray]
 have e:(xs.map fun (i,x)=>(i,a.eval x))=vs:=aq
 simp only [e,Ir]
 rfl
theorem ho {z:Value} {sz n:Nat} {xs:List (Nat × Operand)} {vs:List (Nat × Value)} {cs:List Value} (hu:P.underlying t=some (.slice e)) (aY:∀ w,(Go.sizeOf e).run P w= .ok sz w) (cT:∀ w,(zeroValue e).run P w= .ok z w)
 (hle:Nat.ble (n*sz) 16777216 =true) (eS:Nat.beq (n*sz) 0 =false) (bc:o.op= .buildSlice t n xs.toArray) (af:DV a xs vs)
 (Ir:Instr.fill (fun i=>some (i*sz,sz)) ((Array.range (n*sz)).map (z.cells[· % z.cells.size]!)) vs=some cs.toArray) :
 b5 P o a w (.slice (some ⟨w.heap.size,0,none⟩) n n) (w.alloc (.cells cs.toArray e)):=by
 have aq:=HL af
 have bn:(xs.map fun (i,x)=>(i,a.eval x))=vs:=aq
 have aC: ¬ (n*sz > 2 ^ 24):=by have:=Nat.le_of_ble_eq_true hle;omega
 have bw:n*sz≠ 0 :=by intro bk;rw [bk] at eS;simp at eS
 simp only [b5,execOp,bc,Instr.buildSlice,Sem.run_bind,Sem.run_pure,aY,cT,Result.andThen_ok,run_underlying hu,List.map_toArray,bn,if_neg aC,if_neg bw,Ir]
 rfl
theorem amz {dH:TypeId} {m n:Int} (bc:o.op= .binOp .or t x y dH) (af:a.eval x= .int .i64 m) (hy:a.eval y= .int .i64 n):b5 P o a w (.int .i64 (LK m n)) w:=by
 unfold LK
 rw [<-ug]
 simp only [b5,execOp,bc,af,hy]
 rfl
theorem al5 {dH:TypeId} {m n:Int} (bc:o.op= .binOp .and t x y dH) (af:a.eval x= .int .i64 m) (hy:a.eval y= .int .i64 n):b5 P o a w (.int .i64 (G4 m n)) w:=by
 unfold G4
 rw [<-ug]
 simp only [b5,execOp,bc,af,hy]
 rfl
end
end Gg
namespace Gg
open Go Go.RowKit Cin
section
variable {P:Program} {ops:Array Oper} {Q:Exit->Act->World->Prop} {a:Act} {w az:World} {rest:List Oper} {o:Oper} {n:gE} {d:Nat} {l:List (Nat × Value)} {v:Value}
theorem av (c0:o.guard=none):Region.wanted o (yielded ops a.tmps)=true:=by simp [Region.wanted,c0]
theorem bW (hw:Region.wanted o (yielded ops a.tmps)=true) (hy:b5 P o a w v az) (I:Fr n l a) (bG:o.dst=some d) (ad:Nat.blt d n=true) (k:∀ bQ,Fr n ((d,v)::l) bQ->wpList P ops Q rest bQ az):wpList P ops Q (o::rest) a w:=by
 refine wpList_step fun K g2=>?_
 rw [if_pos hw]
 unfold Oper.wp
 rw [show (execOp a.eval o).run P w=_ from hy]
 show K (a.put o.dst v) az
 rw [bG]
 exact g2 _ _ (k _ (I.put ad))
theorem Fs (hw:Region.wanted o (yielded ops a.tmps)=true) (hy:sq P o a w az) (bG:o.dst=none) (k:wpList P ops Q rest a az):wpList P ops Q (o::rest) a w:=by
 refine wpList_step fun K g2=>?_
 rw [if_pos hw]
 unfold Oper.wp
 rw [show (execOp a.eval o).run P w=_ from hy]
 show K (a.put o.dst undef) az
 rw [bG]
 exact g2 _ _ k
theorem ep {j dM:Nat} {b:Bool} (I:Fr n l a) (c0:o.guard=some (j,b)) (bf:(ops[j]?).bind (·.dst)=some dM) (ag:fQ l dM=some (.bool b)) (ad:Nat.blt dM n=true):Region.wanted o (yielded ops a.tmps)=true:=by
 have dO:dM <n:=Nat.le_of_ble_eq_true ad
 have h:=I.get dM _ ag
 have aY:=I.size
 have aC:a.tmps[dM]? =some (.bool b):=by
  rw [Array.getElem?_eq_getElem (by omega)]
  simpa [Array.getD_eq_getD_getElem?,aY,dO] using h
 simp [Region.wanted,c0,yielded,bf,aC]
theorem aks {j dM:Nat} {b p9:Bool} (I:Fr n l a) (c0:o.guard=some (j,b)) (bf:(ops[j]?).bind (·.dst)=some dM) (ag:fQ l dM=some (.bool p9)) (eS:(p9 == b)=false) (ad:Nat.blt dM n=true):Region.wanted o (yielded ops a.tmps)=false:=by
 have dO:dM <n:=Nat.le_of_ble_eq_true ad
 have h:=I.get dM _ ag
 have aY:=I.size
 have aC:a.tmps[dM]? =some (.bool p9):=by
  rw [Array.getElem?_eq_getElem (by omega)]
  simpa [Array.getD_eq_getD_getElem?,aY,dO] using h
 simpa [Region.wanted,c0,yielded,bf,aC] using eS
theorem akt {j dM:Nat} {b:Bool} (I:Fr n l a) (c0:o.guard=some (j,b)) (bf:(ops[j]?).bind (·.dst)=some dM) (ag:fQ l dM=some undef) (ad:Nat.blt dM n=true):Region.wanted o (yielded ops a.tmps)=false:=by
 have dO:dM <n:=Nat.le_of_ble_eq_true ad
 have h:=I.get dM _ ag
 have aY:=I.size
 have aC:a.tmps[dM]? =some undef:=by
  rw [Array.getElem?_eq_getElem (by omega)]
  simpa [Array.getD_eq_getD_getElem?,aY,dO] using h
 simp [Region.wanted,c0,yielded,bf,aC,undef]
def sS (a:Act):List Operand->List Value->Prop
 | [],[]=>True
 | x::xs,v::vs=>a.eval x=v/\sS a xs vs
 | _,_=>False
theorem DW:∀ {xs:List Operand} {vs:List Value},sS a xs vs->xs.map a.eval=vs
 | [],[],_=>rfl
 | x::xs,v::vs,h=>by rw [List.map_cons,h.1,DW h.2]
theorem akx {f:FuncId} {xs:List Operand} {jI:Array TypeId} {vs:List Value} {R:Ending->World->Prop} {K:Act->World->Prop}
 (bc:o.op= .call { callee:=.value (.func f),args:=xs.toArray,argTypes:=jI }) (vn:∀ args w,(callFunc f args).run P w= .ok (.enter f args) w)
 (gJ:sS a xs vs) (hc:Calls P f vs.toArray w R) (k:∀ e az,R e az-> ∃ v,e= .returned v/\K (a.put o.dst v) az):o.wp P a w K Q:=by
 unfold Oper.wp
 have e:(execOp a.eval o).run P w= .ok (.enter f vs.toArray) w:=by
  have aq:=DW gJ
  simp only [execOp,bc,resolve,List.map_toArray,aq]
  simp [go_sem,Act.eval,Deferred.ofValue,invoke,vn]
 rw [e]
 exact hc.mono fun e az bm=>by
  obtain ⟨v,rfl,aZ⟩:=k e az bm
  exact aZ
theorem b4 {f:FuncId} {xs:List Operand} {jI:Array TypeId} {vs:List Value} {R:Ending->World->Prop} (hw:Region.wanted o (yielded ops a.tmps)=true)
 (bc:o.op= .call { callee:=.value (.func f),args:=xs.toArray,argTypes:=jI }) (vn:∀ args w,(callFunc f args).run P w= .ok (.enter f args) w)
 (gJ:sS a xs vs) (hc:Calls P f vs.toArray w R) (I:Fr n l a) (bG:o.dst=some d) (ad:Nat.blt d n=true)
 (k:∀ e az,R e az-> ∃ v,e= .returned v/\ ∀ bQ,Fr n ((d,v)::l) bQ->wpList P ops Q rest bQ az):wpList P ops Q (o::rest) a w:=by
 refine wpList_step fun K g2=>?_
 rw [if_pos hw]
 refine akx bc vn gJ hc fun e az bm=>?_
 obtain ⟨v,he,aZ⟩:=k e az bm
 rw [bG]
 exact ⟨v,he,g2 _ _ (aZ _ (I.put ad))⟩
end
section
variable {P:Program} {Q:Exit->Act->World->Prop} {a:Act} {w:World}
theorem dV {c:Code} (mg:Nat->Act->World->Prop) (k:Nat) (h:mg k a w) (bk:∀ a w,¬ mg 0 a w)
 (round:∀ k a w,mg (k+ 1) a w-> ∀ K:Act->World->Prop,(∀ a w,mg k a w->K a w)->c.wp P (Exit.then K Q) a w):(Code.loop c).wp P Q a w:=
 wp_loop_ghost mg k h fun m a w xg=>by
  cases m with
  | zero=>exact absurd xg (bk a w)
  | succ m=>exact round m a w xg _ fun bQ az dh=>⟨m,Nat.lt_succ_self m,dh⟩
theorem w8 {x y:Code} (j_:Act->World->Prop) (af:∀ K:Act->World->Prop,(∀ a w,j_ a w->K a w)->x.wp P (Exit.then K Q) a w) (hy:∀ a w,j_ a w->y.wp P Q a w):(Code.seq x y).wp P Q a w:=
 wp_seq (af _ hy)
theorem wg {fn:Func} {R:Ending->World->Prop} {n:Nat} {l:List (Nat × Value)} (bm:fn.results= #[]) (I:Fr ⟨n,[]⟩ l a) (h:R (.returned (.tuple #[])) w):bodyPost P fn R .ret a w:=
 ⟨I.defers,_,results_none bm _ _ _,h⟩
theorem bE {fn:Func} {R:Ending->World->Prop} {n:Nat} {t:Nat} {l:List (Nat × Value)} {v:Value} (bm:fn.results= #[.tmp t]) (I:Fr ⟨n,[]⟩ l a) (ag:fQ l t=some v) (h:R (.returned v) w):bodyPost P fn R .ret a w:=
 ⟨I.defers,_,results_tmp bm _ _ _,by rw [I.get _ _ ag];exact h⟩
theorem gM {fn:Func} {R:Ending->World->Prop} {n:Nat} {t u:Nat} {l:List (Nat × Value)} {v oN:Value} (bm:fn.results= #[.tmp t,.tmp u]) (I:Fr ⟨n,[]⟩ l a) (ag:fQ l t=some v) (xy:fQ l u=some oN)
 (h:R (.returned (.tuple #[v,oN])) w):bodyPost P fn R .ret a w:=
 ⟨I.defers,_,results_tmp2 bm _ _ _,by rw [I.get _ _ ag,I.get _ _ xy];exact h⟩
def Sj (P:Program) (a:Act) (w:World):ResultVar->Value->Prop
 | .tmp t,v=>a.tmps.getD t undef=v
 | .cell ka ty,v=>∃ b p,a.tmps.getD ka undef= .pointer (some ⟨b,p,none⟩) /\
  ((∃ cs:List Value,(∀ w,(isAgg ty).run P w= .ok true w)/\(∀ w,(Go.sizeOf ty).run P w= .ok cs.length w)/\hY w ⟨b,p,none⟩ cs/\v= .agg cs.toArray) \/
   ((∀ w,(isAgg ty).run P w= .ok false w)/\w.cell? ⟨b,p,none⟩=some v))
def Mp (P:Program) (a:Act) (w:World):List ResultVar->List Value->Prop
 | [],[]=>True
 | r::rL,v::vs=>Sj P a w r v/\Mp P a w rL vs
 | _,_=>False
def pack:List Value->Value
 | [v]=>v
 | vs=>.tuple vs.toArray
def Fc (a:Act):ResultVar->Sem Value
 | .tmp t=>pure (a.tmps.getD t undef)
 | .cell ka t=>do loadVar t (<-asAddr (a.tmps.getD ka undef))
theorem ajM {r:ResultVar} {v:Value} (h:Sj P a w r v):(Fc a r).run P w= .ok v w:=by
 cases r with
 | tmp t=>exact congrArg (fun x=>Result.ok x w) h
 | cell ka ty=>
   obtain ⟨b,p,aq,aC⟩:=h
   simp only [Fc,aq]
   rcases aC with ⟨cs,c0,aY,hc,rfl⟩ | ⟨c0,hc⟩
   · have ag:=run_loadCells_list (P:=P) w ⟨b,p,none⟩ cs (fun j u bf=>by rw [nL];exact hc j u bf)
     unfold loadCells at ag
     simp [go_sem,loadVar,asAddr,c0,aY,ag]
   · simp [go_sem,loadVar,asAddr,c0,hc]
theorem Sm:∀ {rL:List ResultVar} {vs:List Value},Mp P a w rL vs->(rL.mapM (Fc a)).run P w= .ok vs w
 | [],[],_=>rfl
 | r::rL,v::vs,h=>by
   have aq:=ajM h.1
   have aC:=Sm h.2
   rw [List.mapM_cons]
   simp only [Sem.run_bind,aq,aC,Result.andThen_ok]
   rfl
theorem hU {fn:Func} {R:Ending->World->Prop} {n:Nat} {l:List (Nat × Value)} {rL:List ResultVar} {vs:List Value} (bm:fn.results=rL.toArray) (I:Fr ⟨n,[]⟩ l a) (U:Mp P a w rL vs)
 (h:R (.returned (pack vs)) w):bodyPost P fn R .ret a w:=by
 refine ⟨I.defers,pack vs,?_,h⟩
 have aq:=Sm U
 unfold results
 have e:(fun x=>match x with | .tmp t=>pure (a.tmps.getD t undef) | .cell ka t=>do loadVar t (<-asAddr (a.tmps.getD ka undef)):ResultVar->Sem Value)=Fc a:=by
  funext x;cases x <;> rfl
 rw [bm,List.mapM_toArray]
 simp only [Sem.run_bind]
 show Result.andThen (((List.toArray <$> rL.mapM (fun x=>match x with | .tmp t=>pure (a.tmps.getD t undef) | .cell ka t=>do loadVar t (<-asAddr (a.tmps.getD ka undef)):ResultVar->Sem Value))).run P w) _=_
 rw [e,map_eq_pure_bind,Sem.run_bind,aq]
 match vs with
 | []=>rfl
 | [v]=>rfl
 | v::u::r=>rfl
end
section
variable {P:Program} {ops:Array Oper} {Q:Exit->Act->World->Prop} {a:Act} {w:World} {rest:List Oper} {o:Oper} {n:gE} {d:Nat} {l:List (Nat × Value)}
 {W:World} {aR X:List Nat} {E:List aw} {D:List ap}
theorem aD.new (hm:aD W aR X w E D) (t:TypeId) (cs:List Value):aD W aR X (w.alloc (.cells cs.toArray t)) (aw.br w.heap.size t cs::E) D:=
 hm.push _ (aX.alloc _ _ _) (TT w t cs) (fun k aZ=>by simp [aw.br] at aZ;subst aZ;exact ⟨Nat.le_refl _,by simp⟩) (by simp [aw.br])
theorem c1 {g p sz:Nat} {t mN:TypeId} {x y:Operand} {cs vs:List Value} {v:Value} (i:Nat) (hm:aD W aR X w E D) (hi:E[i]? =some (aw.br g mN cs)) (hw:Region.wanted o (yielded ops a.tmps)=true)
 (U:v.cells=vs.toArray) (aY:∀ w,(Go.sizeOf t).run P w= .ok sz w) (ag:Nat.beq vs.length sz=true) (aq:vs.all (·.oneCell')=true) (hle:Nat.ble (p+vs.length) cs.length=true)
 (bc:o.op= .store t x y) (af:a.eval x= .pointer (some ⟨g,p,none⟩)) (hy:a.eval y=v) (bG:o.dst=none)
 (k:∀ az,aD W aR X az (E.set i (aw.br g mN (lay cs p vs))) D->wpList P ops Q rest a az):wpList P ops Q (o::rest) a w:=by
 obtain ⟨az,aq,aC,bw⟩:=Tz U aY ag aq hle (hm.e i hi) bc af hy
 exact Fs hw aq bG (k az (hm.rR i hi aC bw (by simp [aw.br]) (fun k aZ=>.inl aZ)))
theorem aD.c7 {α:Type} (hm:aD W aR X w E D) (e:TypeId) (size:Nat):aD W aR X w (aw.row e size (.slice none 0 0) ([]:List α) []::E) D:=
 hm.push _ (aX.refl _ _) (World.ownsRow_nil w 0 e size) (fun k aZ=>by simp [aw.row,Value.ownBlock] at aZ) (by simp [aw.row,Value.ownBlock])
theorem LJ (o:Option Nat):o.toList.Nodup:=by cases o <;> simp
theorem QY {e:TypeId} {z:Value} {sz bytes:Nat} (h:(P.info? e).map (fun i=>(i.zero,i.size,i.bytes))=some (some z,sz,bytes)):∃ i,P.info? e=some i/\i.zero=some z/\i.size=sz/\i.bytes=bytes:=by
 cases hi:P.info? e with
 | none=>rw [hi] at h;cases h
 | some i=>
   rw [hi] at h
   simp only [Option.map_some,Option.some.injEq,Prod.mk.injEq] at h
   exact ⟨i,rfl,h.1,h.2.1,h.2.2⟩
end
end Gg
namespace Gg
open Go Go.RowKit Cin
section
variable {P:Program} {ops:Array Oper} {C:World->Prop} {nG:Act->Prop} {a:Act} {w:World} {rest:List Oper} {o:Oper} {n:gE} {d:Nat} {l:List (Nat × Value)} {v:Value}
theorem ix (hw:Region.wanted o (yielded ops a.tmps)=true) (hy:∀ w,C w->b5 P o a w v w) (I:Fr n l a) (bG:o.dst=some d) (ad:Nat.blt d n=true) (k:∀ bQ,Fr n ((d,v)::l) bQ->wpQuiet P ops C nG rest bQ):wpQuiet P ops C nG (o::rest) a:=by
 unfold wpQuiet
 rw [if_pos hw]
 refine ⟨v,fun w hc=>?_,?_⟩
 · unfold Oper.quietAt
   rw [show (execOp a.eval o).run P w=_ from hy w hc]
   exact ⟨rfl,rfl⟩
 · rw [bG];exact k _ (I.put ad)
theorem lG {id:Nat} {Q:Exit->Act->World->Prop} {l:List Oper} (hm:P.follows .mixedOrders=true) (jg:Region.lexB .any l.toArray=true)
 (h:wpQuiet P l.toArray (fun az=>aX [] w az) (fun a=>∀ az,aX [] w az->Q .normal a az) l a):(Code.region id l.toArray true).wp P Q a w:=
 wp_region_quiet (C:=fun az=>aX [] w az) hm jg (aX.drew [] w) (by
  refine Eq.mp ?_ h
  rw [List.toList_toArray]) |> fun h=>wp_mono h (fun e a w q=>q)
end
theorem VM {w az:World} {p:Addr} {v:Value} (h:aX [] w az) (hc:w.cell? p=some v):az.cell? p=some v:=
 (World.cell?_of_block (h.block p.block (World.block_lt_of_cell? w p hc) (by simp))).trans hc
theorem dZ {w az:World} {p:Addr} {cs:List Value} (h:aX [] w az) (hc:hY w p cs):hY az p cs:=fun j u bf=>VM h (hc j u bf)
section
variable {P:Program} {Q:Exit->Act->World->Prop} {K:Act->World->Prop} {a:Act} {w:World}
theorem b9 {i:Nat} (h:Q (.exit i) a w):Exit.then K Q (.exit i) a w:=h
theorem dF {i:Nat} (h:Q .normal a w):Exit.inBlock i Q (.exit i) a w:=by simpa [Exit.inBlock] using h
theorem alx {i j:Nat} (aM:Nat.beq j i=false) (h:Q (.exit j) a w):Exit.inBlock i Q (.exit j) a w:=by
 have:j≠i:=by intro e;subst e;simp at aM
 simpa [Exit.inBlock,this] using h
theorem aW (h:Q .ret a w):Exit.then K Q .ret a w:=h
theorem bO {i:Nat} (h:Q .ret a w):Exit.inBlock i Q .ret a w:=h
theorem dj {id:Nat} {c:Code} (j_:Act->World->Prop) (af:∀ K:Act->World->Prop,(∀ a w,j_ a w->K a w)->c.wp P (Exit.inBlock id (Exit.then K Q)) a w) (hy:∀ a w,j_ a w->Q .normal a w):(Code.block id c).wp P Q a w:=by
 refine wp_block (wp_mono (af _ hy) ?_)
 intro e a w h
 cases e with
 | exit i=>
   by_cases hi:i=id
   · simpa [Exit.inBlock,Exit.then,hi] using h
   · simpa [Exit.inBlock,Exit.then,hi] using h
 | _=>exact h
theorem a5 {id:Nat} {l:List Oper} (h:wpList P l.toArray Q l a w):(Code.region id l.toArray false).wp P Q a w:=wp_region_lit h
theorem ft {c:Operand} {x y:Code} {b:Bool} (hc:a.eval c= .bool b) (aM:b=true) (h:x.wp P Q a w):(Code.cond c x y).wp P Q a w:=wp_cond_true (by rw [hc,aM]) h
theorem jK {c:Operand} {x y:Code} {b:Bool} (hc:a.eval c= .bool b) (aM:b=false) (h:y.wp P Q a w):(Code.cond c x y).wp P Q a w:=wp_cond_false (by rw [hc,aM]) h
end
section
variable {W w:World} {aR X:List Nat} {E:List aw} {D:List ap}
def LO (D:List ap):List ap->Prop
 | []=>True
 | y::r=>(∃ i:Nat,D[i]? =some y)/\LO D r
theorem RR {D:List ap}:∀ {i_:List ap},LO D i_-> ∀ y ∈ i_,y ∈ D
 | [],_,y,hy=>by simp at hy
 | z::r,h,y,hy=>by
   rcases List.mem_cons.1 hy with rfl | e
   · obtain ⟨i,hi⟩:=h.1;exact List.mem_of_getElem? hi
   · exact RR h.2 y e
theorem aD.pick (h:aD W aR X w E D) {i_:List ap} (aY:LO D i_):aD W aR X w E i_:=h.less (RR aY)
theorem aD.z5 (h:aD W aR X w E D) (i:Nat):aD W aR X w (E.eraseIdx i) D:=h.drop (List.eraseIdx_sublist E i)
theorem aD.freeze {α:Type} {T:eJ α} {e:TypeId} {A:Option Addr} {n c:Nat} {l:List α} {xs:List Value} (h:aD W aR X w E D) (i j:Nat) (hi:E[i]? =some (aw.row e T.size (.slice A n c) l xs)) (bf:D[j]? =some (ap.rows T xs l)) :
 aD W aR X w (E.eraseIdx i) (ap.of (aU T) [.slice A n c] l::D):=by
 have aq:=h.z5 i
 refine aq.more (ajw (h.e i hi) (aq.d j bf) ?_)
 intro k aZ ji
 rcases List.mem_append.1 ji with bn | bn
 · have dO:=h.lj k bn
   rcases (h.lt k (List.mem_flatMap.2 ⟨_,List.mem_of_getElem? hi,aZ⟩)).2 with bI | bI
   · exact dO.2 bI
   · omega
 · obtain ⟨ag,af⟩:=List.getElem?_eq_some_iff.1 hi
   have fO:E=E.take i++E[i]::E.drop (i+ 1):=by simp
   have bG:=h.dM
   rw [fO,af] at bG
   have bI:aT (E.take i++aw.row e T.size (.slice A n c) l xs::E.drop (i+ 1))=aT (E.take i)++((aw.row e T.size (.slice A n c) l xs).fv++aT (E.drop (i+ 1))):=by simp [aT]
   rw [bI,List.nodup_append,List.nodup_append] at bG
   rw [List.eraseIdx_eq_take_drop_succ] at bn
   rcases List.mem_append.1 (by simpa [aT] using bn:k ∈ aT (E.take i)++aT (E.drop (i+ 1))) with df | df
   · exact bG.2.2 k df k (List.mem_append.2 (.inl aZ)) rfl
   · exact bG.2.1.2.2 k aZ k df rfl
theorem aD.kf {g:Nat} {t:TypeId} {cs:List Value} (h:aD W aR X w E D) (i:Nat) (hi:E[i]? =some (aw.br g t cs)):aD W aR X w (E.eraseIdx i) (ap.cF g cs::D):=by
 have aq:=h.z5 i
 refine aq.more ⟨?_,uR (h.e i hi),fun j u bf=>?_⟩
 · intro ji
   have aZ:g ∈ (aw.br g t cs).fv:=by simp [aw.br]
   rcases List.mem_append.1 ji with bn | bn
   · have dO:=h.lj g bn
     rcases (h.lt g (List.mem_flatMap.2 ⟨_,List.mem_of_getElem? hi,aZ⟩)).2 with bI | bI
     · exact dO.2 bI
     · omega
   · obtain ⟨ag,af⟩:=List.getElem?_eq_some_iff.1 hi
     have fO:E=E.take i++E[i]::E.drop (i+ 1):=by simp
     have bG:=h.dM
     rw [fO,af] at bG
     have bI:aT (E.take i++aw.br g t cs::E.drop (i+ 1))=aT (E.take i)++((aw.br g t cs).fv++aT (E.drop (i+ 1))):=by simp [aT]
     rw [bI,List.nodup_append,List.nodup_append] at bG
     rw [List.eraseIdx_eq_take_drop_succ] at bn
     rcases List.mem_append.1 (by simpa [aT] using bn:g ∈ aT (E.take i)++aT (E.drop (i+ 1))) with df | df
     · exact bG.2.2 g df g (List.mem_append.2 (.inl aZ)) rfl
     · exact bG.2.1.2.2 g aZ g df rfl
 · have:=wY (h.e i hi) bf
   simpa using this
end
end Gg
namespace Gg
open Go Go.RowKit Cin
def iU (n:Nat):List Nat->Array Bool
 | []=>Array.replicate n false
 | i::d=>(iU n d).setIfInBounds i true
def wK (K:Act->World->Prop) (Q:Exit->Act->World->Prop):Exit->Act->World->Prop
 | .normal,a,w=>K a w
 | e,a,w=>Q e a w
section
variable {P:Program} {ops:Array Oper} {Q:Exit->Act->World->Prop} {a:Act} {w:World} {o:Oper} {n:gE} {f d i:Nat} {ds:List Nat} {l:List (Nat × Value)} {v:Value}
def Ft (ops:Array Oper) (ds:List Nat) (i:Nat):Bool:=Region.noSelect ops && Region.free .any ops (iU ops.size ds) i && (Region.ready .any ops (iU ops.size ds)).contains i
theorem akw {K:Act->World->Prop} {Q:Exit->Act->World->Prop} (h:o.wp P a w K (wK K Q)):o.wp P a w K Q:=by
 unfold Oper.wp at *
 generalize (execOp a.eval o).run P w=r at *
 cases r with
 | ok n az=>
   cases n <;> simp only [Oper.upon] at h ⊢ <;>
    first
     | exact h
     | exact Calls.mono h (fun e SK he=>by cases e <;> first | exact he | exact he)
 | halt x az=>cases x <;> simp only [Oper.upon] at h ⊢ <;> exact h
theorem MQ {K:Act->World->Prop} (hi:ops[i]? =some o) (h:wpList P ops (wK K (NoPanic Q)) [o] a w):wpOp P ops (NoPanic Q) i K a w:=by
 unfold wpOp
 simp only [hi]
 unfold wpList at h
 split at h
 · rename_i hw
   rw [if_pos hw]
   rcases h with h | ⟨aq,aC⟩
   · exact .inl (akw h)
   · exact .inr ⟨aq,aC.elim fun a h=>h.elim fun w h=>⟨a,w,h⟩⟩
 · rename_i hw
   rw [if_neg hw]
   exact h
end
section
variable {P:Program} {o:Oper} {a:Act} {w:World} {t dH:TypeId} {x y:Operand} {fV:Array Field} {xs ys:Array Value} {b:Bool}
theorem amc (bt:P.underlying t=some (.struct fV)) (bD:P.stoodInHeld t=false) (hm:P.eqGuardType P.depth t=false)
 (bm:(Op.eqFields 9999 xs ys fV.toList).run P w= .ok b w) (bc:o.op= .binOp .eql t x y dH) (af:a.eval x= .agg xs) (hy:a.eval y= .agg ys):b5 P o a w (.bool b) w:=by
 have I:P.fieldsOf t=fV:=by simp [Program.fieldsOf,bt]
 have h:=run_equalIn_struct (P:=P) w 9999 t xs ys (by rw [I];exact bt) bD
 rw [I,bm] at h
 have h:(Op.equalIn 10000 t (Value.agg xs) (Value.agg ys)).run P w= .ok b w:=h
 simp only [b5,execOp,bc,af,hy]
 simp [go_sem,Op.equal,Op.maxDepth,h,run_eqGuard_agg w _ _ _ _ _ _ hm]
theorem Na (bt:P.underlying t=some (.struct fV)) (bD:P.stoodInHeld t=false) (hm:P.eqGuardType P.depth t=false)
 (bm:(Op.eqFields 9999 xs ys fV.toList).run P w= .ok b w) (bc:o.op= .binOp .neq t x y dH) (af:a.eval x= .agg xs) (hy:a.eval y= .agg ys):b5 P o a w (.bool (!b)) w:=by
 have I:P.fieldsOf t=fV:=by simp [Program.fieldsOf,bt]
 have h:=run_equalIn_struct (P:=P) w 9999 t xs ys (by rw [I];exact bt) bD
 rw [I,bm] at h
 have h:(Op.equalIn 10000 t (Value.agg xs) (Value.agg ys)).run P w= .ok b w:=h
 simp only [b5,execOp,bc,af,hy]
 simp [go_sem,Op.equal,Op.maxDepth,h,run_eqGuard_agg w _ _ _ _ _ _ hm]
theorem z2 {d:Nat}:(Op.eqFields d xs ys []).run P w= .ok true w:=rfl
theorem z1 {d:Nat} {f:Field} {l:List Field} {k:IntKind} {m n:Int} {e:Prop} [Decidable e] (ad:(f.name != "_")=true) (hu:P.underlying f.type=some (.int k)) (c0:∀ w,(isAgg f.type).run P w= .ok false w)
 (af:xs[f.offset]? =some (.int k m)) (hy:ys[f.offset]? =some (.int k n)) (h:(Op.eqFields (d+ 1) xs ys l).run P w= .ok (decide e) w):(Op.eqFields (d+ 1) xs ys (f::l)).run P w= .ok (decide (m=n/\e)) w:=by
 have vz:f.name≠ "_" :=by simpa using ad
 simp only [Op.eqFields,vz,if_true,ne_eq,not_false_iff,part,Sem.run_bind,c0,Result.andThen_ok,af,hy,Bool.false_eq_true,if_false,Sem.run_pure,run_equalIn_int w d f.type k k m n hu]
 by_cases qO:m=n
 · subst qO;simp [h]
 · simp [qO,show (m == n)=false from by simpa using qO]
end
end Gg
namespace Gg
open Go Go.RowKit Go.ChangeShapes Go.WideShapes Go.Deep Cin
section
variable {H:Type} {enc:TypeId × Value->H} {P:Program}
theorem Pg (ag:laidOutB P=true) {W W':World} {g7:Nat->Bool}:∀ {rQ:List TypeId} {vs:List Value} {ds:List (DataW H)} {rG:List MemPlace},DataW.TrodAll enc P W 0 (fun _=>true) true rQ vs ds rG ->
 (rQ.all fun t=>P.readableRec t && Nat.blt t P.types.size)=true->(∀ p ∈ rG,W.sameAt W' p)->(∀ p ∈ rG,g7 p.block=true)->DataW.TrodAll enc P W' 0 g7 true rQ vs ds rG
 | [],vs,ds,rG,h,_,_,_=>by obtain ⟨rfl,rfl,rfl⟩:=trodAll_nil h;exact trodAll_mk0
 | t::rQ,vs,ds,rG,h,bm,aY,bD=>by
   obtain ⟨v,anL,d,am9,p,q,rfl,rfl,rfl,bk,aq⟩:=trodAll_cons h
   simp only [List.all_cons,Bool.and_eq_true] at bm
   exact trodAll_cons_mk (WideElems.Trod_stays ag bm.1.1 (Nat.le_of_ble_eq_true bm.1.2) bk (fun x af=>aY x (List.mem_append_left _ af)) (fun x af=>bD x (List.mem_append_left _ af)))
    (Pg ag aq bm.2 (fun x af=>aY x (List.mem_append_right _ af)) (fun x af=>bD x (List.mem_append_right _ af)))
theorem aiA {f:Func} {s:ChangeSpec} {W W':World} {args:Array Value} {ds gs:List (DataW H)} {before:List MemPlace} {mN:TypeId}
 (jh:DataW.Whole enc P f.params.toList s.vars false W args.toList ds gs before) (ag:laidOutB P=true) (bm:(f.params.toList.all fun t=>P.readableRec t && Nat.blt t P.types.size)=true)
 (U:s.vars= []) (Is:s.fn H ds= { results:=[.lit (.bool true)],args:=ds }) (aM:P.underlying mN=some .bool) (QB:f.resultTypes= #[mN]) (kl:aX [] W W') :
 s.post enc P f false true false false W args (.bool true) W':=by
 have qC:=kl.below
 have dO:∀ p ∈ before,p.block <W.heap.size:=fun p bD=>jh.lt p bD
 have XP:=jh
 obtain ⟨p,q,hx,xh,xB,cT,ad⟩:=jh
 rw [U] at xh
 obtain ⟨rfl,rfl⟩:=trodVars_none xh
 simp only [List.append_nil] at xB
 subst xB
 have hold:∀ x ∈ before,(fun b=>decide (b <W.heap.size)) x.block=true:=fun x af=>by simpa using dO x af
 have H4:∀ g7:Nat->Bool,(∀ x ∈ before,g7 x.block=true)->DataW.TrodAll enc P W' 0 g7 true f.params.toList args.toList ds before:=
  fun g7 pz=>Pg ag hx bm (fun x af=>qC.same (dO x af)) pz
 have QC:∀ (b:Nat) (g7:Nat->Bool) (bG:Bool),DataW.TrodAll enc P W' b g7 bG f.resultTypes.toList ((Value.bool true).resultList f.resultTypes.size) [.lit (.bool true)] []:=fun b g7 bG=>by
  rw [QB];exact trodAll_cons_mk (p:=[]) (shut_bool aM true) trodAll_mk0
 have tg:∀ g7:Nat->Bool,DataW.TrodVars enc P W' g7 s.vars [] []:=fun g7=>by rw [U];rfl
 refine ⟨ds,[],before,[],before,[],XP,?_,?_,?_,World.keptBut_mono (fun x af=>⟨af,Or.inr (by simpa using af)⟩) (qC.frame (· ∈ before)),fun _=>?_⟩
 · simp only [List.append_nil,Is];exact QC _ _ _
 · simp only [List.append_nil,Is];exact H4 _ hold
 · simp only [List.append_nil,Is];exact tg _
 · refine ⟨ok_one QB rfl (okWide_bool_mk aM true),_,_,([]++before)++[],⟨[]++before,[],trodAll_append (H4 (fun _=>true) (fun _ _=>rfl)) (QC _ _ _),tg _,rfl,?_,?_⟩,?_⟩
   · intro b off bD
     have m5:MemPlace.cell b off ∈ before:=by simpa using bD
     rw [qC.frozen (dO _ m5)]
     exact cT b off m5
   · intro a';simpa using ad a'
   · intro x af _;simpa using af
theorem Sl {α:Type} {T:eJ α} {F:Nat->Prop} {W:World} {b o:Nat} {R:α->Prop}:∀ m:Nat,(∀ i,i <m-> ∃ cs d,hY W ⟨b,o+i*T.size,none⟩ cs/\T.rd F W cs d/\R d) ->
 ∃ (l:List α) (xs:List Value),l.length=m/\fl T F W xs l/\hY W ⟨b,o,none⟩ xs/\ ∀ d ∈ l,R d
 | 0,_=>⟨[],[],rfl,rfl,fun j u bf=>by simp at bf,fun d bG=>by cases bG⟩
 | m+ 1,h=>by
   obtain ⟨l,xs,aq,aC,bw,dz⟩:=Sl m (fun i hi=>h i (by omega))
   obtain ⟨cs,d,dL,dU,gj⟩:=h m (by omega)
   refine ⟨l++[d],xs++cs,by simp [aq],R_ (T:=T) dU aC,fun j u bf=>?_,fun e he=>?_⟩
   · have ag:=Mk (T:=T) aC
     rcases Nat.lt_or_ge j xs.length with dO | vw
     · exact bw j u (by simpa [List.getElem?_append,dO] using bf)
     · rw [List.getElem?_append_right vw] at bf
       have:=dL (j - xs.length) u bf
       rw [ag,aq] at this
       rw [show o+j=o+m*T.size+(j - m*T.size) by rw [ag,aq] at vw;omega]
       simpa using this
   · rcases List.mem_append.1 he with bn | bn
     · exact dz e bn
     · simp at bn;subst bn;exact gj
end
end Gg
namespace Gg
open Go Go.RowKit Go.ChangeShapes Go.WideShapes Go.Deep Cin
def g1 {H:Type} (P:Program) (enc:TypeId × Value->H) (N:Nat) (t:TypeId) {α:Type} (T:eJ α) (R:α->Prop):Prop:=
 ∀ (W:World) (n:Nat) (cs:List Value) (x:DataW H × List MemPlace),DataW.trod enc P W 0 (fun _=>true) true n t cs=some x->(∀ p ∈ x.2,p.block <W.heap.size)->(∀ m ∈ x.1.weights P t,m<=N)-> ∃ d,T.rd (hp [] W) W cs d/\R d
def hr (n:Int):Prop:=-9223372036854775808 <=n/\n<= 9223372036854775807
section
variable {H:Type} {enc:TypeId × Value->H} {P:Program} {N:Nat} {t e:TypeId}
theorem tW (bt:P.underlying t=some .string):g1 P enc N t bZ (fun s=>s.length<=N):=by
 intro W n cs x h _ hw
 obtain ⟨s,rfl,rfl,_⟩:=DataW.trod_string bt h
 exact ⟨s.data.toList,rfl,hw _ (by simp [DataW.weights])⟩
theorem jq (bt:P.underlying t=some (.int .i64)):g1 P enc N t (ax .i64) hr:=by
 intro W n cs x h _ _
 obtain ⟨z,rfl,_,cT⟩:=DataW.trod_int bt h
 exact ⟨z,rfl,by simpa [hr,Lit.wf,IntKind.min,IntKind.max,IntKind.signed,IntKind.bits] using cT⟩
theorem Sd (bt:P.underlying t=some .bool):g1 P enc N t akj (fun _=>True):=by
 intro W n cs x h _ _
 obtain ⟨b,rfl,_⟩:=DataW.trod_bool bt h
 exact ⟨b,rfl,trivial⟩
theorem RE {d:DataW H} {m:Nat} (hm:m ∈ d.weights P e):∀ {l:List (DataW H)},d ∈ l->m ∈ DataW.weightsAll P e l
 | [],h=>by cases h
 | x::r,h=>by
   simp only [DataW.weightsAll,List.mem_append]
   rcases List.mem_cons.1 h with rfl | h
   · exact .inl hm
   · exact .inr (RE hm h)
theorem oH {α:Type} {T:eJ α} {R:α->Prop} (bt:P.underlying t=some (.slice e)) (jS:P.cellsOf e=T.size) (Ef:Nat.blt 0 T.size=true) (AY:g1 P enc N e T R):g1 P enc N t (aU T) (fun l=>l.length*P.bytesOf e<=N/\ ∀ d ∈ l,R d):=by
 have Ef:0 <T.size:=Nat.le_of_ble_eq_true Ef
 intro W n cs x h bD hw
 rcases open_slice bt h with ⟨rfl,rfl⟩ | ⟨a,rj,cap,m,iV,D,TJ,rfl,_,ag,hm,A8,af,hi⟩
 · exact ⟨[],⟨none,0,rfl,Nat.le_refl _,Nat.zero_le _,fun _=>rfl,fun h=>absurd rfl h⟩,by simp,fun d bG=>by cases bG⟩
 · have gx:m=cap:=by simpa using A8
   subst gx
   have Qw:x.2 =MemPlace.row a (m*P.cellsOf e)++(List.range m).flatMap TJ:=congrArg Prod.snd af
   have Qk:x.1 = .slice ((List.range rj).map D) ((List.range (m - rj)).map fun j=>D (rj+j)):=congrArg Prod.fst af
   have th:(rj+(m - rj))*P.bytesOf e<=N:=by
    refine hw _ ?_
    rw [Qk]
    simp only [DataW.weights,bt,List.length_map,List.length_range]
    exact List.mem_cons_self
   have hlen:rj*P.bytesOf e<=N:=Nat.le_trans (Nat.mul_le_mul_right _ (Nat.le_add_right _ _)) th
   by_cases bk:rj= 0
   · subst bk
     exact ⟨[],⟨some a,m,rfl,by simp,hm,fun h=>(by cases h),fun h=>absurd rfl h⟩,by simp,fun d bG=>by cases bG⟩
   · have mA:∀ i,i <rj-> ∃ cs d,(∀ j u,cs[j]? =some u->W.cell? (a.add (i*T.size+j))=some u)/\cs.length=T.size/\T.rd (hp [] W) W cs d/\R d:=fun i fw=>by
      have Qo:i <m:=by omega
      obtain ⟨w9,hc,kn⟩:=hi i Qo
      obtain ⟨d,bG,hA⟩:=AY W iV w9 _ kn (fun p JQ=>bD p (by
       rw [Qw,List.mem_append]
       exact .inr (List.mem_flatMap.2 ⟨i,by simpa using Qo,JQ⟩))) (fun k aZ=>hw k (by
       rw [Qk]
       simp only [DataW.weights,bt,List.mem_cons,List.mem_append]
       exact .inr (.inl (RE aZ (List.mem_map.2 ⟨i,by simpa using fw,rfl⟩)))))
      rw [jS] at hc
      obtain ⟨_,lM,s0⟩:=World.cells?_some hc
      refine ⟨w9,d,fun j u bf=>?_,lM,bG,hA⟩
      have A3:j <T.size:=by rw [<-lM];exact (List.getElem?_eq_some_iff.1 bf).1
      have:=s0 j A3
      rw [bf,Go.Deep.add_add] at this
      exact this
     have QG:a.spot=none:=by
      obtain ⟨cs,d,aq,aC,_⟩:=mA 0 (by omega)
      have:=aq 0 _ (List.getElem?_eq_getElem (by omega))
      unfold World.cell? at this
      split at this
      · split at this
        · cases this
        · rename_i aY;simpa [Addr.add] using aY
      · cases this
     obtain ⟨ab,N1,amU⟩:=a
     simp only at QG
     subst QG
     obtain ⟨l,xs,aq,aC,bw,dz⟩:=Sl (T:=T) (F:=hp [] W) (W:=W) (b:=ab) (o:=N1) (R:=R) rj (fun i fw=>by
      obtain ⟨cs,d,dL,_,gj,ja⟩:=mA i fw
      exact ⟨cs,d,fun j u bf=>by have:=dL j u bf;rw [nL] at this;simpa [Nat.add_assoc] using this,gj,ja⟩)
     subst aq
     refine ⟨l,⟨_,m,rfl,ag,hm,fun h=>(by cases h),fun _=>⟨rfl,⟨by simp,?_⟩,xs,aC,bw⟩⟩,hlen,dz⟩
     have m5:MemPlace.cell ab N1 ∈ x.2 :=by
      rw [Qw,List.mem_append]
      left
      have:0 <m*P.cellsOf e:=Nat.mul_pos (by omega) (by omega)
      simp only [MemPlace.row,List.mem_map,List.mem_range]
      exact ⟨0,this,by simp⟩
     exact bD _ m5
theorem RF {m:Nat}:∀ {rQ:List TypeId} {l:List (DataW H)} {j:Nat} {u:TypeId} {d:DataW H},rQ[j]? =some u->l[j]? =some d->m ∈ d.weights P u->m ∈ DataW.weightsEach P rQ l
 | [],_,j,_,_,h,_,_=>by simp at h
 | _::_,[],j,_,_,_,h,_=>by simp at h
 | t::rQ,x::l,0,u,d,aq,aC,hm=>by
   simp only [List.getElem?_cons_zero,Option.some.injEq] at aq aC
   subst aq;subst aC
   simp only [DataW.weightsEach,List.mem_append]
   exact .inl hm
 | t::rQ,x::l,j+ 1,u,d,aq,aC,hm=>by
   simp only [DataW.weightsEach,List.mem_append]
   exact .inr (RF (j:=j) (by simpa using aq) (by simpa using aC) hm)
theorem lL {fV:Array Field} {W:World} {n:Nat} {cs:List Value} {x:DataW H × List MemPlace} (bt:P.underlying t=some (.struct fV)) (h:DataW.trod enc P W 0 (fun _=>true) true n t cs=some x) (bD:∀ p ∈ x.2,p.block <W.heap.size) (hw:∀ m ∈ x.1.weights P t,m<=N) :
 ∃ iV,cs.length=P.cellsOf t/\ ∀ (j:Nat) (f:Field),fV[j]? =some f-> ∃ y,DataW.trod enc P W 0 (fun _=>true) true iV f.type ((cs.drop f.offset).take (P.cellsOf f.type))=some y/\(∀ p ∈ y.2,p.block <W.heap.size)/\(∀ m ∈ y.1.weights P f.type,m<=N):=by
 obtain ⟨ys,iV,_,af,ag,anF,c0⟩:=DataW.trod_struct bt h
 refine ⟨iV,ag,fun j f bf=>?_⟩
 have A3:j <fV.size:=(Array.getElem?_eq_some_iff.1 bf).1
 have hy:ys[j]? =some (ys[j]'(by omega)):=List.getElem?_eq_getElem _
 refine ⟨ys[j]'(by omega),by rw [c0 j f bf,hy],fun p JQ=>bD p ?_,fun m hm=>hw m ?_⟩
 · rw [af]
   exact List.mem_flatMap.2 ⟨_,List.getElem_mem _,JQ⟩
 · rw [af]
   simp only [DataW.weights,bt]
   refine RF (j:=j) (u:=f.type) (d:=(ys[j]'(by omega)).1) ?_ ?_ hm
   · rw [List.getElem?_map,Array.getElem?_toList,bf];rfl
   · rw [List.getElem?_map,hy];rfl
theorem e5 {fV:Array Field} {W:World} {iV:Nat} {cs:List Value} (I:∀ (j:Nat) (f:Field),fV[j]? =some f-> ∃ y,DataW.trod enc P W 0 (fun _=>true) true iV f.type ((cs.drop f.offset).take (P.cellsOf f.type))=some y/\(∀ p ∈ y.2,p.block <W.heap.size)/\(∀ m ∈ y.1.weights P f.type,m<=N))
 (j:Nat) {f:Field} (bf:fV[j]? =some f) {t off k:Nat} (bt:f.type=t) (bc:f.offset=off) (aZ:P.cellsOf t=k) {r:List Value} (bm:(cs.drop off).take k=r):∃ y,DataW.trod enc P W 0 (fun _=>true) true iV t r=some y/\(∀ p ∈ y.2,p.block <W.heap.size)/\(∀ m ∈ y.1.weights P t,m<=N):=by
 obtain ⟨y,aq,aC,bw⟩:=I j f bf
 rw [bt,bc] at aq
 rw [bt] at bw
 rw [aZ,bm] at aq
 exact ⟨y,aq,aC,bw⟩
theorem G3 {v:Array Value} {l:List Value} (h:(Value.agg v).cells.toList=l):v=l.toArray:=by
 have h:v.toList=l:=h
 rw [<-h]
theorem G5 {α:Type} {T:eJ α} {R:α->Prop} {W:World} {v:Value} {d:DataW H} {rG:List MemPlace} (bm:g1 P enc N t T R) (h:DataW.Trod enc P W 0 (fun _=>true) true t v d rG) (bD:∀ p ∈ rG,p.block <W.heap.size) (hw:∀ m ∈ d.weights P t,m<=N):∃ d',T.rd (hp [] W) W v.cells.toList d'/\R d':=by
 obtain ⟨n,ad⟩:=h
 exact bm W n _ _ ad bD hw
end
end Gg
namespace Gg
open Go Go.RowKit Cin
inductive nD
 | i (k:IntKind)
 | b
 | s
 | aa
def nD.ok (P:Program) (t:TypeId):nD->Prop
 | .i k=>P.underlying t=some (.int k)
 | .b=>P.underlying t=some .bool
 | .s=>P.underlying t=some .string
 | .aa=>∃ e,P.underlying t=some (.slice e)
structure mf where
 l3:List (Nat × nD)
 lL:List (Nat × Nat × Nat)
 B9:List (Nat × Option Nat)
def MI (P:Program):List (Nat × nD)->Prop
 | []=>True
 | p::r=>p.2.ok P p.1 /\MI P r
def GK (P:Program) (s j off:Nat):Prop:=∃ fV f sz,P.underlying s=some (.struct fV)/\fV[j]? =some f/\f.offset=off/\sz≠ 0 /\ ∀ w,(Go.sizeOf f.type).run P w= .ok sz w
def HP (P:Program):List (Nat × Nat × Nat)->Prop
 | []=>True
 | p::r=>GK P p.1 p.2.1 p.2.2 /\HP P r
def NY (P:Program) (t:Nat):Option Nat->Prop
 | none=>∀ w,(isAgg t).run P w= .ok false w
 | some n=>(∀ w,(isAgg t).run P w= .ok true w)/\ ∀ w,(Go.sizeOf t).run P w= .ok n w
def Mz (P:Program):List (Nat × Option Nat)->Prop
 | []=>True
 | p::r=>NY P p.1 p.2 /\Mz P r
structure o3 (P:Program) (G:mf):Prop where
 l3:MI P G.l3
 lL:HP P G.lL
 B9:Mz P G.B9
theorem eC {P:Program} {s j off sz:Nat} {fV:Array Field} {f:Field} (h:P.underlying s=some (.struct fV)) (I:fV[j]? =some f) (bc:f.offset=off) (aY:∀ w,(Go.sizeOf f.type).run P w= .ok sz w) (bk:Nat.beq sz 0 =false):GK P s j off:=
 ⟨fV,f,sz,h,I,bc,(fun e=>by subst e;simp at bk),aY⟩
def mG {β:Type}:List (Nat × β)->Nat->Option β
 | [],_=>none
 | p::r,t=>match Nat.beq p.1 t with
   | true=>some p.2
   | false=>mG r t
def BI:List (Nat × Nat × Nat)->Nat->Nat->Option Nat
 | [],_,_=>none
 | p::r,s,j=>match Nat.beq p.1 s && Nat.beq p.2.1 j with
   | true=>some p.2.2
   | false=>BI r s j
theorem wo {P:Program} {l:List (Nat × nD)} (h:MI P l) {t:Nat} {k:nD} (ag:mG l t=some k):k.ok P t:=by
 induction l with
 | nil=>simp [mG] at ag
 | cons p r cb=>
   simp only [mG] at ag
   cases aM:Nat.beq p.1 t with
   | true=>
     rw [aM] at ag
     simp only [Option.some.injEq] at ag
     rw [<-Nat.eq_of_beq_eq_true aM,<-ag];exact h.1
   | false=>rw [aM] at ag;exact cb h.2 ag
theorem Sr {P:Program} {l:List (Nat × Option Nat)} (h:Mz P l) {t:Nat} {k:Option Nat} (ag:mG l t=some k):NY P t k:=by
 induction l with
 | nil=>simp [mG] at ag
 | cons p r cb=>
   simp only [mG] at ag
   cases aM:Nat.beq p.1 t with
   | true=>
     rw [aM] at ag
     simp only [Option.some.injEq] at ag
     rw [<-Nat.eq_of_beq_eq_true aM,<-ag];exact h.1
   | false=>rw [aM] at ag;exact cb h.2 ag
theorem VU {P:Program} {l:List (Nat × Nat × Nat)} (h:HP P l) {s j off:Nat} (ag:BI l s j=some off):GK P s j off:=by
 induction l with
 | nil=>simp [BI] at ag
 | cons p r cb=>
   simp only [BI] at ag
   cases aM:Nat.beq p.1 s && Nat.beq p.2.1 j with
   | true=>
     rw [aM] at ag
     simp only [Option.some.injEq] at ag
     simp only [Bool.and_eq_true] at aM
     rw [<-Nat.eq_of_beq_eq_true aM.1,<-Nat.eq_of_beq_eq_true aM.2,<-ag];exact h.1
   | false=>rw [aM] at ag;exact cb h.2 ag
def jX (w:World):List (Nat × Nat × List Value)->Prop
 | []=>True
 | m::r=>hY w ⟨m.1,m.2.1,none⟩ m.2.2 /\jX w r
theorem aS {w:World}:jX w []:=trivial
theorem aQ {w:World} {b p:Nat} {cs:List Value} {M:List (Nat × Nat × List Value)} (h:hY w ⟨b,p,none⟩ cs) (k:jX w M):jX w ((b,p,cs)::M):=⟨h,k⟩
theorem RD {w:World} {M:List (Nat × Nat × List Value)} (h:jX w M) {i b p:Nat} {cs:List Value} (hi:M[i]? =some (b,p,cs)):hY w ⟨b,p,none⟩ cs:=by
 induction M generalizing i with
 | nil=>simp at hi
 | cons m r cb=>
   cases i with
   | zero=>
     simp only [List.getElem?_cons_zero,Option.some.injEq] at hi
     subst hi
     exact h.1
   | succ i=>exact cb h.2 (by simpa using hi)
theorem bh {w:World} {g:Nat} {t:TypeId} {cs:List Value} (h:(aw.br g t cs).ok w):hY w ⟨g,0,none⟩ cs:=fun j u bf=>by
 have:=wY h bf
 simpa using this
structure gF where
 t:Nat
 j:Nat
 want:Bool
 v:Value
def wh:List (Nat × Value)->Nat->List (Nat × Value)
 | [],_=>[]
 | p::r,d=>match Nat.beq p.1 d with
   | true=>wh r d
   | false=>p::wh r d
def oI:List gF->Nat->List gF
 | [],_=>[]
 | p::r,d=>match Nat.beq p.t d || Nat.beq p.j d with
   | true=>oI r d
   | false=>p::oI r d
def xk:List (Nat × Bool)->Nat->Bool->Bool
 | [],_,_=>false
 | p::r,j,b=>(Nat.beq p.1 j && (p.2 == b)) || xk r j b
def BJ:List gF->List (Nat × Bool)->Nat->Option Value
 | [],_,_=>none
 | p::r,cur,t=>match Nat.beq p.t t && xk cur p.j p.want with
   | true=>some p.v
   | false=>BJ r cur t
def k0 (a:Act):List gF->Prop
 | []=>True
 | p::r=>(a.tmps.getD p.j undef= .bool p.want->a.tmps.getD p.t undef=p.v)/\k0 a r
def ql (a:Act):List (Nat × Bool)->Prop
 | []=>True
 | p::r=>a.tmps.getD p.1 undef= .bool p.2 /\ql a r
theorem XV {a:Act} {cur:List (Nat × Bool)} (h:ql a cur) {j:Nat} {b:Bool} (hf:xk cur j b=true):a.tmps.getD j undef= .bool b:=by
 induction cur with
 | nil=>simp [xk] at hf
 | cons p r cb=>
   simp only [xk,Bool.or_eq_true,Bool.and_eq_true,beq_iff_eq] at hf
   rcases hf with ⟨aq,aC⟩ | hf
   · rw [<-Nat.eq_of_beq_eq_true aq,<-aC];exact h.1
   · exact cb h.2 hf
theorem ahU {a:Act} {gs:List gF} (h:k0 a gs) {cur:List (Nat × Bool)} (hc:ql a cur) {t:Nat} {v:Value} (ag:BJ gs cur t=some v):a.tmps.getD t undef=v:=by
 induction gs with
 | nil=>simp [BJ] at ag
 | cons p r cb=>
   simp only [BJ] at ag
   cases aM:Nat.beq p.t t && xk cur p.j p.want with
   | true=>
     rw [aM] at ag
     simp only [Option.some.injEq] at ag
     simp only [Bool.and_eq_true] at aM
     rw [<-Nat.eq_of_beq_eq_true aM.1,<-ag]
     exact h.1 (XV hc aM.2)
   | false=>rw [aM] at ag;exact cb h.2 ag
def hE (b7:List (Nat × Value)) (gs:List gF) (cur:List (Nat × Bool)):Operand->Option Value
 | .const v=>some v
 | .global g=>some (.pointer (some ⟨g,0,none⟩))
 | .tmp t=>match fQ b7 t with
   | some v=>some v
   | none=>BJ gs cur t
 | .func _=>none
theorem E1 {n:gE} {b7:List (Nat × Value)} {gs:List gF} {cur:List (Nat × Bool)} {a:Act} (I:Fr n b7 a) (c0:k0 a gs) (hc:ql a cur) {x:Operand} {v:Value} (h:hE b7 gs cur x=some v):a.eval x=v:=by
 cases x with
 | const u=>simp only [hE,Option.some.injEq] at h;rw [<-h];rfl
 | global g=>simp only [hE,Option.some.injEq] at h;rw [<-h];rfl
 | func f=>simp [hE] at h
 | tmp t=>
   simp only [hE] at h
   cases ag:fQ b7 t with
   | some u=>rw [ag] at h;simp only [Option.some.injEq] at h;rw [<-h];exact I.g ag
   | none=>rw [ag] at h;exact ahU c0 hc h
def xZ (b7:List (Nat × Value)) (gs:List gF) (cur:List (Nat × Bool)):List Operand->Option (List Value)
 | []=>some []
 | x::r=>match hE b7 gs cur x,xZ b7 gs cur r with
   | some v,some vs=>some (v::vs)
   | _,_=>none
theorem LI {n:gE} {b7:List (Nat × Value)} {gs:List gF} {cur:List (Nat × Bool)} {a:Act} (I:Fr n b7 a) (c0:k0 a gs) (hc:ql a cur):∀ {xs:List Operand} {vs:List Value},xZ b7 gs cur xs=some vs->xs.map a.eval=vs
 | [],vs,h=>by simp only [xZ,Option.some.injEq] at h;subst h;rfl
 | x::r,vs,h=>by
   simp only [xZ] at h
   split at h
   · rename_i v us aq aC
     simp only [Option.some.injEq] at h
     subst h
     rw [List.map_cons,E1 I c0 hc aq,LI I c0 hc aC]
   · cases h
def QZ:Operand->Bool
 | .const (.int _ n)=>n != 0
 | _=>false
def m8:IntKind->IntKind->Bool
 | .i64,.i64 | .u8,.u8 | .i32,.i32 | .u64,.u64 | .u32,.u32 | .u16,.u16 | .i16,.i16 | .i8,.i8=>true
 | _,_=>false
theorem pB {j k:IntKind} (h:m8 j k=true):j=k:=by cases j <;> cases k <;> simp_all [m8]
def ko (k:IntKind):Bool:=m8 k .i64
theorem kp {k:IntKind} (h:ko k=true):k= .i64:=pB h
def N7 (mD:Option nD) (h8:Bool) (op:BinOp) (j k:IntKind) (m n:Int):Option Value:=
 match op with
 | .add=>match ko j && ko k with | true=>some (.int .i64 (ay (m+n))) | false=>none
 | .sub=>match ko j && ko k with | true=>some (.int .i64 (ay (m - n))) | false=>none
 | .mul=>match ko j && ko k with | true=>some (.int .i64 (ay (m*n))) | false=>none
 | .quo=>match ko j && ko k && h8 with | true=>some (.int .i64 (ay (m.tdiv n))) | false=>none
 | .rem=>match ko j && ko k && h8 with | true=>some (.int .i64 (m.tmod n)) | false=>none
 | .or=>match ko j && ko k with | true=>some (.int .i64 (LK m n)) | false=>none
 | .and=>match ko j && ko k with | true=>some (.int .i64 (G4 m n)) | false=>none
 | .lss=>match m8 j k with | true=>some (.bool (decide (m <n))) | false=>none
 | .leq=>match m8 j k with | true=>some (.bool (decide (m<=n))) | false=>none
 | .gtr=>match m8 j k with | true=>some (.bool (decide (n <m))) | false=>none
 | .geq=>match m8 j k with | true=>some (.bool (decide (n<=m))) | false=>none
 | .eql=>match mD with
   | some (.i i)=>match m8 i j && m8 j k with | true=>some (.bool (decide (m=n))) | false=>none
   | _=>none
 | .neq=>match mD with
   | some (.i i)=>match m8 i j && m8 j k with | true=>some (.bool (!decide (m=n))) | false=>none
   | _=>none
 | _=>none
def N8 (mD:Option nD) (op:BinOp) (p q:List UInt8):Option Value:=
 match op,mD with
 | .eql,some .s=>some (.bool (decide (p=q)))
 | .neq,some .s=>some (.bool (!decide (p=q)))
 | _,_=>none
def N6 (mD:Option nD) (op:BinOp) (p q:Bool):Option Value:=
 match op,mD with
 | .eql,some .b=>some (.bool (p == q))
 | .neq,some .b=>some (.bool (!(p == q)))
 | _,_=>none
def bin (mD:Option nD) (h8:Bool) (op:BinOp):Value->Value->Option Value
 | .int j m,.int k n=>N7 mD h8 op j k m n
 | .string ⟨⟨p⟩⟩,.string ⟨⟨q⟩⟩=>N8 mD op p q
 | .bool p,.bool q=>N6 mD op p q
 | _,_=>none
section
variable {P:Program} {o:Oper} {a:Act} {w:World} {x y:Operand} {t dH:TypeId}
theorem TS {mD:Option nD} (aZ:∀ k,mD=some k->k.ok P t) {h8:Bool} (cT:h8=true-> ∀ k n,a.eval y= .int k n->n≠ 0) {op:BinOp} {u v r:Value} (h:bin mD h8 op u v=some r) (bc:o.op= .binOp op t x y dH) (af:a.eval x=u) (hy:a.eval y=v):b5 P o a w r w:=by
 unfold bin at h
 split at h
 · rename_i j m k n
   unfold N7 at h
   split at h
   case h_1=>
    split at h
    · rename_i aM
      simp only [Bool.and_eq_true] at aM
      obtain ⟨aq,aC⟩:=aM
      have aq:=kp aq;have aC:=kp aC
      subst aq;subst aC
      simp only [Option.some.injEq] at h
      subst h
      exact al4 bc af hy
    · cases h
   case h_2=>
    split at h
    · rename_i aM
      simp only [Bool.and_eq_true] at aM
      obtain ⟨aq,aC⟩:=aM
      have aq:=kp aq;have aC:=kp aC
      subst aq;subst aC
      simp only [Option.some.injEq] at h
      subst h
      exact amF bc af hy
    · cases h
   case h_3=>
    split at h
    · rename_i aM
      simp only [Bool.and_eq_true] at aM
      obtain ⟨aq,aC⟩:=aM
      have aq:=kp aq;have aC:=kp aC
      subst aq;subst aC
      simp only [Option.some.injEq] at h
      subst h
      exact amt bc af hy
    · cases h
   case h_4=>
    split at h
    · rename_i aM
      simp only [Bool.and_eq_true] at aM
      obtain ⟨⟨aq,aC⟩,bw⟩:=aM
      have aq:=kp aq;have aC:=kp aC
      subst aq;subst aC
      simp only [Option.some.injEq] at h
      subst h
      have eS:=cT bw _ _ hy
      exact amB bc af hy (by rw [Bool.not_eq_true',decide_eq_false_iff_not];exact eS)
    · cases h
   case h_5=>
    split at h
    · rename_i aM
      simp only [Bool.and_eq_true] at aM
      obtain ⟨⟨aq,aC⟩,bw⟩:=aM
      have aq:=kp aq;have aC:=kp aC
      subst aq;subst aC
      simp only [Option.some.injEq] at h
      subst h
      have eS:=cT bw _ _ hy
      exact amC bc af hy (by rw [Bool.not_eq_true',decide_eq_false_iff_not];exact eS)
    · cases h
   case h_6=>
    split at h
    · rename_i aM
      simp only [Bool.and_eq_true] at aM
      obtain ⟨aq,aC⟩:=aM
      have aq:=kp aq;have aC:=kp aC
      subst aq;subst aC
      simp only [Option.some.injEq] at h
      subst h
      exact amz bc af hy
    · cases h
   case h_7=>
    split at h
    · rename_i aM
      simp only [Bool.and_eq_true] at aM
      obtain ⟨aq,aC⟩:=aM
      have aq:=kp aq;have aC:=kp aC
      subst aq;subst aC
      simp only [Option.some.injEq] at h
      subst h
      exact al5 bc af hy
    · cases h
   case h_8=>
    split at h
    · rename_i aM
      have aM:=pB aM
      subst aM
      simp only [Option.some.injEq] at h
      subst h
      exact amo bc af hy
    · cases h
   case h_9=>
    split at h
    · rename_i aM
      have aM:=pB aM
      subst aM
      simp only [Option.some.injEq] at h
      subst h
      exact aml bc af hy
    · cases h
   case h_10=>
    split at h
    · rename_i aM
      have aM:=pB aM
      subst aM
      simp only [Option.some.injEq] at h
      subst h
      exact ami bc af hy
    · cases h
   case h_11=>
    split at h
    · rename_i aM
      have aM:=pB aM
      subst aM
      simp only [Option.some.injEq] at h
      subst h
      exact amh bc af hy
    · cases h
   case h_12=>
    split at h
    · rename_i i
      have hi:=aZ _ rfl
      split at h
      · rename_i aM
        simp only [Bool.and_eq_true] at aM
        have aq:=pB aM.1;have aC:=pB aM.2
        subst aq;subst aC
        simp only [Option.some.injEq] at h
        subst h
        exact amd hi bc af hy
      · cases h
    · cases h
   case h_13=>
    split at h
    · rename_i i
      have hi:=aZ _ rfl
      split at h
      · rename_i aM
        simp only [Bool.and_eq_true] at aM
        have aq:=pB aM.1;have aC:=pB aM.2
        subst aq;subst aC
        simp only [Option.some.injEq] at h
        subst h
        exact amv hi bc af hy
      · cases h
    · cases h
   case h_14=>cases h
 · rename_i p q
   unfold N8 at h
   split at h
   · simp only [Option.some.injEq] at h
     subst h
     exact ame (aZ _ rfl) bc af hy
   · simp only [Option.some.injEq] at h
     subst h
     exact amw (aZ _ rfl) bc af hy
   · cases h
 · rename_i p q
   unfold N6 at h
   split at h
   · simp only [Option.some.injEq] at h
     subst h
     exact amb (aZ _ rfl) bc af hy
   · simp only [Option.some.injEq] at h
     subst h
     exact amu (aZ _ rfl) bc af hy
   · cases h
 · cases h
end
end Gg
namespace Gg
open Go Go.RowKit Cin
def nth {α:Type}:List α->Nat->Option α
 | [],_=>none
 | x::_,0 =>some x
 | _::r,i+ 1 =>nth r i
theorem rD {α:Type}:∀ (l:List α) (i:Nat),nth l i=l[i]?
 | [],i=>by simp [nth]
 | x::r,0 =>rfl
 | x::r,i+ 1 =>by simp [nth,rD r i]
def Kk:Operand->Bool
 | .const (.bool b)=>b
 | _=>false
def Ki:Operand->Bool
 | .const (.bool b)=>!b
 | _=>false
def LM (x y:Operand) (b:Bool):Value->Value->Option Value
 | .bool p,.bool q=>match Kk x with
   | true=>some (.bool (b || q))
   | false=>match Ki y with
     | true=>some (.bool (b && p))
     | false=>some (.bool (cond b p q))
 | .int j m,.int k n=>match m8 j k with
   | true=>some (.int j (cond b m n))
   | false=>none
 | .string ⟨⟨p⟩⟩,.string ⟨⟨q⟩⟩=>some (au (cond b p q))
 | _,_=>none
theorem agX {a:Act} {x:Operand} (h:Kk x=true):a.eval x= .bool true:=by
 unfold Kk at h
 split at h
 · subst h;rfl
 · cases h
theorem agV {a:Act} {x:Operand} (h:Ki x=true):a.eval x= .bool false:=by
 unfold Ki at h
 split at h
 · rename_i b
   have:b=false:=by simpa using h
   subst this;rfl
 · cases h
theorem air {a:Act} {x y:Operand} {b:Bool} {u v r:Value} (h:LM x y b u v=some r) (af:b=true->a.eval x=u) (hy:b=false->a.eval y=v):(if b then a.eval x else a.eval y)=r:=by
 unfold LM at h
 split at h
 · rename_i p q
   split at h
   · rename_i bt
     simp only [Option.some.injEq] at h
     subst h
     cases b with
     | true=>rw [if_pos rfl,agX bt];rfl
     | false=>rw [if_neg (by simp),hy rfl];rfl
   · split at h
     · rename_i I
       simp only [Option.some.injEq] at h
       subst h
       cases b with
       | true=>rw [if_pos rfl,af rfl];rfl
       | false=>rw [if_neg (by simp),agV I];rfl
     · simp only [Option.some.injEq] at h
       subst h
       cases b with
       | true=>rw [if_pos rfl,af rfl];rfl
       | false=>rw [if_neg (by simp),hy rfl];rfl
 · split at h
   · rename_i aZ
     have:=pB aZ
     subst this
     simp only [Option.some.injEq] at h
     subst h
     cases b with
     | true=>rw [if_pos rfl,af rfl];rfl
     | false=>rw [if_neg (by simp),hy rfl];rfl
   · cases h
 · simp only [Option.some.injEq] at h
   subst h
   cases b with
   | true=>rw [if_pos rfl,af rfl];rfl
   | false=>rw [if_neg (by simp),hy rfl];rfl
 · cases h
abbrev Out:=Value × List Nat × List (Nat × Nat)
def jU (aY:List Nat) (v:Value):Option Out:=some (v,aY,[])
def PR (G:mf) (M:List (Nat × Nat × List Value)) (t m rel:Nat) (aY:List Nat) (BU J:Nat):Option Out:=
 match nth M m,mG G.B9 t with
 | some (b,off,cs),some none=>match nth cs rel with
   | some v=>some (v,aY,[(BU,b),(J,off+rel)])
   | none=>none
 | some (b,off,cs),some (some n)=>match Nat.ble (rel+n) cs.length with
   | true=>some (.agg ((cs.drop rel).take n).toArray,aY,[(BU,b),(J,off+rel)])
   | false=>none
 | _,_=>none
def PP (G:mf) (s d:Nat) (aY:List Nat):Value->Option Out
 | .int k m=>match ko k,mG G.l3 s,mG G.l3 d with
   | true,some (.i .i64),some (.i .i64)=>jU aY (.int .i64 (ay m))
   | true,some (.i .i64),some (.i .u8)=>jU aY (.int .u8 ((zv m).toNat:Int))
   | _,_,_=>none
 | _=>none
def PQ (G:mf) (t:Nat) (aY:List Nat):Value->Option Out
 | .string ⟨⟨p⟩⟩=>match mG G.l3 t with
   | some .s=>jU aY (.int .i64 (p.length:Int))
   | _=>none
 | .slice _ n _=>match mG G.l3 t with
   | some .aa=>jU aY (.int .i64 (n:Int))
   | _=>none
 | _=>none
def PS (b7:List (Nat × Value)) (gs:List gF) (cur:List (Nat × Bool)) (c x y:Operand):List Nat->Option Out
 | 0 ::aY=>match c with
   | .tmp wl=>match hE b7 gs cur (.tmp wl),hE b7 gs ((wl,true)::cur) x,hE b7 gs ((wl,false)::cur) y with
     | some (.bool b),some u,some v=>match LM x y b u v with
       | some r=>jU aY r
       | none=>none
     | _,_,_=>none
   | _=>none
 | _::aY=>match hE b7 gs cur c with
   | some (.bool b)=>match b with
     | true=>match hE b7 gs cur x with | some v=>jU aY v | none=>none
     | false=>match hE b7 gs cur y with | some v=>jU aY v | none=>none
   | _=>none
 | []=>none
def lJ (G:mf) (M:List (Nat × Nat × List Value)) (aY:List Nat) (b7:List (Nat × Value)) (gs:List gF) (cur:List (Nat × Bool)):Op->Option Out
 | .move x=>match hE b7 gs cur x with | some v=>jU aY v | none=>none
 | .assign x=>match hE b7 gs cur x with | some v=>jU aY v | none=>none
 | .pick c x y=>PS b7 gs cur c x y aY
 | .binOp op t x y _=>match hE b7 gs cur x,hE b7 gs cur y with
   | some u,some v=>match bin (mG G.l3 t) (QZ y) op u v with
     | some r=>jU aY r
     | none=>none
   | _,_=>none
 | .unOp .not _ x=>match hE b7 gs cur x with
   | some (.bool p)=>jU aY (.bool (!p))
   | _=>none
 | .convert s d x=>match hE b7 gs cur x with
   | some v=>PP G s d aY v
   | none=>none
 | .load t x=>match hE b7 gs cur x,aY with
   | some (.pointer (some ⟨BU,J,none⟩)),m::rel::dn=>PR G M t m rel dn BU J
   | _,_=>none
 | .fieldAddr s x j=>match hE b7 gs cur x,BI G.lL s j with
   | some (.pointer (some ⟨b,p,none⟩)),some off=>jU aY (.pointer (some ⟨b,p+off,none⟩))
   | _,_=>none
 | .nilCheck x=>match hE b7 gs cur x with
   | some (.pointer (some p))=>jU aY (.pointer (some p))
   | _=>none
 | .extract x i=>match hE b7 gs cur x with
   | some (.tuple ⟨vs⟩)=>match nth vs i with
     | some v=>jU aY v
     | none=>none
   | _=>none
 | .makeFunc fn ⟨xs⟩ ⟨ys⟩=>match xZ b7 gs cur xs,xZ b7 gs cur ys with
   | some us,some vs=>jU aY (.func fn us.toArray vs.toArray)
   | _,_=>none
 | .call ⟨.builtin .len,⟨[x]⟩,⟨[t]⟩⟩=>match hE b7 gs cur x with
   | some v=>PQ G t aY v
   | none=>none
 | _=>none
theorem la {aY dn:List Nat} {u v:Value} {l:List (Nat × Nat)} (h:jU aY u=some (v,dn,l)):u=v:=by
 simp only [jU,Option.some.injEq,Prod.mk.injEq] at h
 exact h.1
def lI:List (Nat × Nat)->Prop
 | []=>True
 | p::r=>p.1 =p.2 /\lI r
section
variable {P:Program} {G:mf} {M:List (Nat × Nat × List Value)} {w:World} {a:Act} {o:Oper}
theorem PN {n:gE} {b7:List (Nat × Value)} {gs:List gF} {cur:List (Nat × Bool)} {aY dn:List Nat} {v:Value} {l:List (Nat × Nat)} (fW:o3 P G) (fP:jX w M) (I:Fr n b7 a) (c0:k0 a gs) (hc:ql a cur)
 {op:Op} (bc:o.op=op) (h:lJ G M aY b7 gs cur op=some (v,dn,l)) (ag:lI l):b5 P o a w v w:=by
 have opn:∀ {x:Operand} {u:Value},hE b7 gs cur x=some u->a.eval x=u:=fun af=>E1 I c0 hc af
 unfold lJ at h
 split at h
 · split at h
   · rename_i af
     rw [<-la h];exact amr bc (opn af)
   · cases h
 · split at h
   · rename_i af
     rw [<-la h];exact al7 bc (opn af)
   · cases h
 · rename_i c x y
   unfold PS at h
   split at h
   · split at h
     · rename_i wl
       split at h
       · rename_i b u oN aq aC bw
         split at h
         · rename_i r bm
           rw [<-la h]
           have s3:a.eval (.tmp wl)= .bool b:=opn aq
           have af:b=true->a.eval x=u:=fun aM=>E1 I c0 (show ql a ((wl,true)::cur) from ⟨by subst aM;exact s3,hc⟩) aC
           have hy:b=false->a.eval y=oN:=fun aM=>E1 I c0 (show ql a ((wl,false)::cur) from ⟨by subst aM;exact s3,hc⟩) bw
           have bD:=air (a:=a) bm af hy
           cases b with
           | true=>exact Ty bc s3 (by simpa using bD)
           | false=>exact Tx bc s3 (by simpa using bD)
         · cases h
       · cases h
     · cases h
   · split at h
     · rename_i b aq
       split at h
       · split at h
         · rename_i u aC
           rw [<-la h];exact Ty bc (opn aq) (opn aC)
         · cases h
       · split at h
         · rename_i u aC
           rw [<-la h];exact Tx bc (opn aq) (opn aC)
         · cases h
     · cases h
   · cases h
 · rename_i op t x y dH
   split at h
   · rename_i u oN aq aC
     split at h
     · rename_i r bm
       rw [<-la h]
       refine TS (fun k aZ=>wo fW.l3 aZ) (fun cT k n ad=>?_) bm bc (opn aq) (opn aC)
       unfold QZ at cT
       split at cT
       · rename_i k' iV
         have:a.eval (.const (.int k' iV))= .int k' iV:=rfl
         rw [this] at ad
         injection ad with _ e
         subst e
         simpa using cT
       · cases cT
     · cases h
   · cases h
 · rename_i x
   split at h
   · rename_i p aq
     rw [<-la h];exact amy bc (opn aq)
   · cases h
 · rename_i s d x
   split at h
   · rename_i u aq
     unfold PP at h
     split at h
     · rename_i k m
       split at h
       · rename_i aC bw dz
         have:=kp aC
         subst this
         rw [<-la h];exact al9 (wo fW.l3 bw) (wo fW.l3 dz) bc (opn aq)
       · rename_i aC bw dz
         have:=kp aC
         subst this
         rw [<-la h];exact al' (wo fW.l3 bw) (wo fW.l3 dz) bc (opn aq)
       · cases h
     · cases h
   · cases h
 · rename_i t x
   split at h
   · rename_i BU J m rel qS aq
     have af:=opn aq
     unfold PR at h
     split at h
     · rename_i b off cs aC bw
       split at h
       · rename_i u dz
         simp only [Option.some.injEq,Prod.mk.injEq] at h
         obtain ⟨rfl,_,rfl⟩:=h
         obtain ⟨bn,bI,_⟩:=ag
         simp only at bn bI
         subst bn;subst bI
         rw [rD] at aC dz
         exact amm (Sr fW.B9 bw) bc af (RD fP aC rel u dz)
       · cases h
     · rename_i b off cs k aC bw
       split at h
       · rename_i aM
         simp only [Option.some.injEq,Prod.mk.injEq] at h
         obtain ⟨rfl,_,rfl⟩:=h
         obtain ⟨bn,bI,_⟩:=ag
         simp only at bn bI
         subst bn;subst bI
         rw [rD] at aC
         have aY:=Sr fW.B9 bw
         have hle:=Nat.le_of_ble_eq_true aM
         refine amn aY.1 aY.2 (by simp;omega) bc af (fun j u bf=>?_)
         have Zz:=RD fP aC
         rw [List.getElem?_take] at bf
         split at bf
         · rw [List.getElem?_drop] at bf
           have:=Zz (rel+j) u bf
           simpa [Nat.add_assoc] using this
         · cases bf
       · cases h
     · cases h
   · cases h
 · rename_i s x j
   split at h
   · rename_i b p off aq aC
     rw [<-la h]
     obtain ⟨fV,f,sz,h1,jL,u5,u6,V5⟩:=VU fW.lL aC
     rw [<-u5]
     exact amg h1 jL V5 (by cases bk:Nat.beq sz 0 with | false=>rfl | true=>exact absurd (Nat.eq_of_beq_eq_true bk) u6) bc (opn aq)
   · cases h
 · rename_i x
   split at h
   · rename_i p aq
     rw [<-la h];exact amx bc (opn aq)
   · cases h
 · rename_i x i
   split at h
   · rename_i vs aq
     split at h
     · rename_i u aC
       rw [<-la h]
       rw [rD] at aC
       exact amf (vs:=vs) bc (opn aq) aC
     · cases h
   · cases h
 · rename_i fn xs ys
   split at h
   · rename_i us vs aq aC
     rw [<-la h]
     have bn:=LI I c0 hc aq
     have bI:=LI I c0 hc aC
     simp only [b5,execOp,bc,Instr.makeFunc]
     rw [show (Array.map a.eval ⟨xs⟩)=us.toArray by rw [<-bn];simp,show (Array.map a.eval ⟨ys⟩)=vs.toArray by rw [<-bI];simp]
     rfl
   · cases h
 · rename_i x t
   split at h
   · rename_i u aq
     unfold PQ at h
     split at h
     · split at h
       · rename_i aC
         rw [<-la h];exact amk (wo fW.l3 aC) bc (opn aq)
       · cases h
     · split at h
       · rename_i aC
         rw [<-la h]
         obtain ⟨e,he⟩:=wo fW.l3 aC
         exact amj he bc (opn aq)
       · cases h
     · cases h
   · cases h
 · cases h
end
end Gg
namespace Gg
open Go Go.RowKit Cin
def HU (ops:Array Oper) (j:Nat):Option Nat:=match nth ops.toList j with
 | some o=>o.dst
 | none=>none
theorem Wg {ops:Array Oper} {j dM:Nat} (h:HU ops j=some dM):(ops[j]?).bind (·.dst)=some dM:=by
 unfold HU at h
 rw [rD,Array.getElem?_toList] at h
 split at h
 · rename_i o bc
   rw [bc];exact h
 · cases h
abbrev TI:=List (Nat × Value) × List gF × List (Nat × Nat)
def ev (G:mf) (ops:Array Oper) (n:Nat) (M:List (Nat × Nat × List Value)):List Oper->List Nat->List (Nat × Value)->List gF->List (Nat × Nat)->Option TI
 | [],_,b7,gs,l=>some (b7,gs,l)
 | o::rest,aY,b7,gs,l=>match o.dst with
   | none=>none
   | some d=>match Nat.blt d n with
     | false=>none
     | true=>match o.guard with
       | none=>match lJ G M aY b7 gs [] o.op with
         | some (v,dn,l')=>ev G ops n M rest dn ((d,v)::b7) (oI gs d) (l'++l)
         | none=>none
       | some (j,want)=>match HU ops j with
         | none=>none
         | some dM=>match Nat.blt dM n with
           | false=>none
           | true=>match aY with
             | 0 ::dn=>match Nat.beq dM d with
               | true=>none
               | false=>match lJ G M dn b7 gs [(dM,want)] o.op with
                 | some (v,qS,l')=>ev G ops n M rest qS (wh b7 d) (⟨d,dM,want,v⟩::oI gs d) (l'++l)
                 | none=>none
             | _::dn=>match fQ b7 dM with
               | some (.bool b)=>match b == want with
                 | true=>match lJ G M dn b7 gs [] o.op with
                   | some (v,qS,l')=>ev G ops n M rest qS ((d,v)::b7) (oI gs d) (l'++l)
                   | none=>none
                 | false=>ev G ops n M rest dn ((d,undef)::b7) (oI gs d) l
               | some (.tuple ⟨[]⟩)=>ev G ops n M rest dn ((d,undef)::b7) (oI gs d) l
               | _=>none
             | []=>none
def zZ (b7:List (Nat × Value)):List Nat->Option (List (Nat × Value))
 | []=>some []
 | t::r=>match fQ b7 t,zZ b7 r with
   | some v,some vs=>some ((t,v)::vs)
   | _,_=>none
def dup (l:List Nat):List (Nat × Nat):=l.map fun x=>(x,x)
def nT (G:mf) (ops:Array Oper) (n:Nat) (M:List (Nat × Nat × List Value)) (os:List Oper) (aY:List Nat) (b7:List (Nat × Value)) (eD:List Nat):Option (List (Nat × Value) × List (Nat × Nat)):=
 match ev G ops n M os aY b7 [] [] with
 | some (fr',_,l)=>match zZ fr' eD with
   | some k=>some (k,l)
   | none=>none
 | none=>none
theorem DS:∀ l:List Nat,lI (dup l)
 | []=>trivial
 | x::r=>⟨rfl,DS r⟩
theorem sQ:∀ {l l':List (Nat × Nat)},lI (l++l')->lI l/\lI l'
 | [],_,h=>⟨trivial,h⟩
 | _::_,_,h=>⟨⟨h.1,(sQ h.2).1⟩,(sQ h.2).2⟩
theorem Px {b7:List (Nat × Value)}:∀ {eD:List Nat} {k:List (Nat × Value)},zZ b7 eD=some k->Cl b7 k
 | [],k,h=>by simp only [zZ,Option.some.injEq] at h;subst h;trivial
 | t::r,k,h=>by
   simp only [zZ] at h
   split at h
   · rename_i v vs aq aC
     simp only [Option.some.injEq] at h
     subst h
     exact ⟨aq,Px aC⟩
   · cases h
theorem aiC {a:Act} {n:gE} {d:Nat} {v:Value} (aY:a.tmps.size=n) (bG:Nat.blt d n=true):(a.put (some d) v).tmps.getD d undef=v:=by
 have dO:d <n:=Nat.le_of_ble_eq_true bG
 simp [Act.put,aY,dO]
theorem E2 {a:Act} {d t:Nat} {v:Value} (h:t≠d):(a.put (some d) v).tmps.getD t undef=a.tmps.getD t undef:=by
 simp only [Act.put,Array.getD_eq_getD_getElem?]
 rw [Array.getElem?_setIfInBounds,if_neg (fun e=>h e.symm)]
theorem sW {a:Act} {d:Nat} {v:Value}:∀ {gs:List gF},k0 a gs->k0 (a.put (some d) v) (oI gs d)
 | [],_=>trivial
 | p::r,h=>by
   simp only [oI]
   cases aM:Nat.beq p.t d || Nat.beq p.j d with
   | true=>exact sW h.2
   | false=>
     simp only [Bool.or_eq_false_iff] at aM
     have aq:p.t≠d:=fun e=>by rw [e] at aM;simp at aM
     have aC:p.j≠d:=fun e=>by rw [e] at aM;simp at aM
     refine ⟨?_,sW h.2⟩
     rw [E2 aq,E2 aC];exact h.1
theorem Lh {d t:Nat} {v:Value}:∀ {b7:List (Nat × Value)},fQ (wh b7 d) t=some v->t≠d/\fQ b7 t=some v
 | [],h=>by simp [wh,fQ] at h
 | p::r,h=>by
   simp only [wh] at h
   cases aM:Nat.beq p.1 d with
   | true=>
     rw [aM] at h
     obtain ⟨aq,aC⟩:=Lh h
     refine ⟨aq,?_⟩
     have e:=Nat.eq_of_beq_eq_true aM
     simp only [fQ]
     cases hc:Nat.beq p.1 t with
     | true=>exact absurd ((Nat.eq_of_beq_eq_true hc).symm.trans e) aq
     | false=>exact aC
   | false=>
     rw [aM] at h
     simp only [fQ] at h ⊢
     cases hc:Nat.beq p.1 t with
     | true=>
       rw [hc] at h
       refine ⟨fun e=>?_,h⟩
       rw [Nat.eq_of_beq_eq_true hc,e] at aM
       simp at aM
     | false=>
       rw [hc] at h
       exact Lh h
theorem Fr.Sk {n:gE} {d:Nat} {b7:List (Nat × Value)} {a:Act} {v:Value} (I:Fr n b7 a):Fr n (wh b7 d) (a.put (some d) v):=
 ⟨by simpa [Act.put] using I.size,I.defers,fun t u h=>by obtain ⟨aq,aC⟩:=Lh h;rw [E2 aq];exact I.get t u aC⟩
def xG:Op->Bool
 | .load _ _=>true
 | _=>false
theorem VK {G:mf} {M:List (Nat × Nat × List Value)} {aY:List Nat} {b7:List (Nat × Value)} {gs:List gF} {cur:List (Nat × Bool)} {op:Op} (h:xG op=false):lJ G M aY b7 gs cur op=lJ G [] aY b7 gs cur op:=by
 cases op with
 | load t x=>simp [xG] at h
 | unOp u t x=>cases u <;> rfl
 | call c=>
   unfold lJ
   split <;> first | rfl | (rename_i e;cases e;done) | (rename_i e;cases e;rfl)
 | _=>rfl
theorem HI {P:Program} {G:mf} {M:List (Nat × Nat × List Value)} {C:World->Prop} {a:Act} {o:Oper} {n:gE} {b7:List (Nat × Value)} {gs:List gF} {cur:List (Nat × Bool)} {aY dn:List Nat} {v:Value} {l:List (Nat × Nat)} (fW:o3 P G) (fP:∀ w,C w->jX w M) (I:Fr n b7 a) (c0:k0 a gs) (hc:ql a cur)
 (h:lJ G M aY b7 gs cur o.op=some (v,dn,l)) (ag:lI l):(∀ w,C w->b5 P o a w v w)/\(xG o.op=false-> ∀ w,b5 P o a w v w):=
 ⟨fun w u'=>PN fW (fP w u') I c0 hc rfl h ag,fun ad w=>PN fW (M:=[]) trivial I c0 hc rfl (by rw [<-VK ad];exact h) ag⟩
theorem SM {ops:Array Oper} {o:Oper} {a:Act} {n:gE} {l:List (Nat × Value)} {j dM:Nat} {want:Bool} (I:Fr n l a) (c0:o.guard=some (j,want)) (bf:(ops[j]?).bind (·.dst)=some dM) (ad:Nat.blt dM n=true) :
 Region.wanted o (yielded ops a.tmps)=true ↔ a.tmps.getD dM undef= .bool want:=by
 have dO:dM <n:=Nat.le_of_ble_eq_true ad
 have aY:=I.size
 have aC:a.tmps[dM]? =some (a.tmps.getD dM undef):=by
  rw [Array.getElem?_eq_getElem (by omega)]
  simp [Array.getD_eq_getD_getElem?,aY,dO]
 simp only [Region.wanted,c0,yielded,bf,Option.bind_some,aC,beq_iff_eq]
 constructor
 · intro h
   split at h
   · rename_i b aM
     simp only [Option.some.injEq] at h aM
     rw [aM,h]
   · cases h
 · intro h
   rw [h]
def TM (P:Program) (ops:Array Oper) (C:World->Prop) (o:Oper) (d:Nat) (a:Act) (u:Value):Prop:=
 o.dst=some d/\((Region.wanted o (yielded ops a.tmps)=true/\(∀ w,C w->b5 P o a w u w)/\(xG o.op=false-> ∀ w,b5 P o a w u w))\/(Region.wanted o (yielded ops a.tmps)=false/\u=undef))
section
variable {P:Program} {G:mf} {ops:Array Oper} {n:gE} {M:List (Nat × Nat × List Value)} {C:World->Prop}
theorem HJ (fW:o3 P G) (fP:∀ w,C w->jX w M) {o:Oper} {rest:List Oper} {aY:List Nat} {b7:List (Nat × Value)} {gs:List gF} {l kr:List (Nat × Nat)} {iM:List (Nat × Value)} {kh:List gF} {a:Act}
 (I:Fr n b7 a) (c0:k0 a gs) (h:ev G ops n M (o::rest) aY b7 gs l=some (iM,kh,kr)) (cT:lI kr)
 (JJ:∀ {os:List Oper} {aY:List Nat} {b7:List (Nat × Value)} {gs:List gF} {l:List (Nat × Nat)},ev G ops n M os aY b7 gs l=some (iM,kh,kr)->lI l) :
 ∃ d u dn fr' u9 l',TM P ops C o d a u/\Fr n fr' (a.put (some d) u)/\k0 (a.put (some d) u) u9/\ev G ops n M rest dn fr' u9 l'=some (iM,kh,kr):=by
 rw [ev] at h
 split at h
 · cases h
 · rename_i d bG
   split at h
   · cases h
   · rename_i ad
     split at h
     · rename_i vv
       split at h
       · rename_i v dn l' aq
         have he:=(sQ (JJ h)).1
         exact ⟨d,v,dn,_,_,_,⟨bG,.inl ⟨av vv,HI (cur:=[]) fW fP I c0 trivial aq he⟩⟩,I.put ad,sW c0,h⟩
       · cases h
     · rename_i j want vv
       split at h
       · cases h
       · rename_i dM D4
         have AX:=Wg D4
         split at h
         · cases h
         · rename_i A_
           split at h
           · rename_i dn
             split at h
             · cases h
             · rename_i eS
               split at h
               · rename_i v qS l' aq
                 have he:=(sQ (JJ h)).1
                 have JL:dM≠d:=fun e=>by rw [e] at eS;simp at eS
                 by_cases D3:a.tmps.getD dM undef= .bool want
                 · refine ⟨d,v,qS,_,_,_,⟨bG,.inl ⟨(SM I vv AX A_).2 D3,HI (cur:=[(dM,want)]) fW fP I c0 ⟨D3,trivial⟩ aq he⟩⟩,I.Sk,(show k0 (a.put (some d) v) (⟨d,dM,want,v⟩::oI gs d) from ⟨fun _=>aiC I.size ad,sW c0⟩),h⟩
                 · refine ⟨d,undef,qS,_,_,_,⟨bG,.inr ⟨by rw [Bool.eq_false_iff];exact fun hw=>D3 ((SM I vv AX A_).1 hw),rfl⟩⟩,I.Sk,(show k0 (a.put (some d) undef) (⟨d,dM,want,v⟩::oI gs d) from ⟨fun af=>?_,sW c0⟩),h⟩
                   simp only at af
                   rw [E2 JL] at af
                   exact absurd af D3
               · cases h
           · rename_i q dn dX
             split at h
             · rename_i b aM
               split at h
               · rename_i qC
                 have qC:b=want:=by simpa using qC
                 subst qC
                 split at h
                 · rename_i v qS l' aq
                   have he:=(sQ (JJ h)).1
                   exact ⟨d,v,qS,_,_,_,⟨bG,.inl ⟨ep I vv AX aM A_,HI (cur:=[]) fW fP I c0 trivial aq he⟩⟩,I.put ad,sW c0,h⟩
                 · cases h
               · rename_i qC
                 exact ⟨d,undef,dn,_,_,_,⟨bG,.inr ⟨aks I vv AX aM qC A_,rfl⟩⟩,I.put ad,sW c0,h⟩
             · rename_i aM
               exact ⟨d,undef,dn,_,_,_,⟨bG,.inr ⟨akt I vv AX aM A_,rfl⟩⟩,I.put ad,sW c0,h⟩
             · cases h
           · cases h
theorem sR {iM:List (Nat × Value)} {kh:List gF} {kr:List (Nat × Nat)} (cT:lI kr):∀ {os:List Oper} {aY:List Nat} {b7:List (Nat × Value)} {gs:List gF} {l:List (Nat × Nat)},ev G ops n M os aY b7 gs l=some (iM,kh,kr)->lI l
 | [],aY,b7,gs,l,h=>by
   simp only [ev,Option.some.injEq,Prod.mk.injEq] at h
   rw [h.2.2];exact cT
 | o::rest,aY,b7,gs,l,h=>by
   rw [ev] at h
   split at h
   · cases h
   · split at h
     · cases h
     · split at h
       · split at h
         · exact (sQ (sR cT h)).2
         · cases h
       · split at h
         · cases h
         · split at h
           · cases h
           · split at h
             · split at h
               · cases h
               · split at h
                 · exact (sQ (sR cT h)).2
                 · cases h
             · split at h
               · split at h
                 · split at h
                   · exact (sQ (sR cT h)).2
                   · cases h
                 · exact sR cT h
               · exact sR cT h
               · cases h
             · cases h
theorem Ss {w:World} {Q:Exit->Act->World->Prop} (fW:o3 P G) (fP:jX w M) {iM:List (Nat × Value)} {kh:List gF} {kr:List (Nat × Nat)} (cT:lI kr):∀ (k:Nat) {rest:List Oper} {aY:List Nat} {b7:List (Nat × Value)} {gs:List gF} {l:List (Nat × Nat)} {a:Act},
 Fr n b7 a->k0 a gs->ev G ops n M (rest.take k) aY b7 gs l=some (iM,kh,kr)->(∀ bQ,Fr n iM bQ->wpList P ops Q (rest.drop k) bQ w)->wpList P ops Q rest a w
 | 0,rest,aY,b7,gs,l,a,I,_,h,aZ=>by
   simp only [List.take_zero,ev,Option.some.injEq,Prod.mk.injEq] at h
   have:=aZ a (by rw [<-h.1];exact I)
   simpa using this
 | k+ 1,[],aY,b7,gs,l,a,I,_,h,aZ=>by
   simp only [List.take_nil,ev,Option.some.injEq,Prod.mk.injEq] at h
   have:=aZ a (by rw [<-h.1];exact I)
   simpa using this
 | k+ 1,o::rest,aY,b7,gs,l,a,I,c0,h,aZ=>by
   rw [List.take_succ_cons] at h
   obtain ⟨d,u,dn,fr',u9,l',⟨bG,tc⟩,eN,vu,dh⟩:=HJ (C:=fun az=>az=w) fW (fun az e=>by subst e;exact fP) I c0 h cT (sR cT)
   have next:=Ss fW fP cT k eN vu dh (by simpa using aZ)
   refine wpList_step fun K g2=>?_
   rcases tc with ⟨hw,hy,_⟩ | ⟨hw,rfl⟩
   · rw [if_pos hw]
     unfold Oper.wp
     rw [show (execOp a.eval o).run P w=_ from hy w rfl]
     show K (a.put o.dst u) w
     rw [bG]
     exact g2 _ _ next
   · rw [if_neg (by simp [hw]),bG]
     exact g2 _ _ next
theorem RW {nG:Act->Prop} (fW:o3 P G) (fP:∀ w,C w->jX w M) {iM:List (Nat × Value)} {kh:List gF} {kr:List (Nat × Nat)} (cT:lI kr):∀ (k:Nat) {rest:List Oper} {aY:List Nat} {b7:List (Nat × Value)} {gs:List gF} {l:List (Nat × Nat)} {a:Act},
 Fr n b7 a->k0 a gs->ev G ops n M (rest.take k) aY b7 gs l=some (iM,kh,kr)->(∀ bQ,Fr n iM bQ->wpQuiet P ops C nG (rest.drop k) bQ)->wpQuiet P ops C nG rest a
 | 0,rest,aY,b7,gs,l,a,I,_,h,aZ=>by
   simp only [List.take_zero,ev,Option.some.injEq,Prod.mk.injEq] at h
   have:=aZ a (by rw [<-h.1];exact I)
   simpa using this
 | k+ 1,[],aY,b7,gs,l,a,I,_,h,aZ=>by
   simp only [List.take_nil,ev,Option.some.injEq,Prod.mk.injEq] at h
   have:=aZ a (by rw [<-h.1];exact I)
   simpa using this
 | k+ 1,o::rest,aY,b7,gs,l,a,I,c0,h,aZ=>by
   rw [List.take_succ_cons] at h
   obtain ⟨d,u,dn,fr',u9,l',⟨bG,tc⟩,eN,vu,dh⟩:=HJ (C:=C) fW fP I c0 h cT (sR cT)
   have next:=RW fW fP cT k eN vu dh (by simpa using aZ)
   unfold wpQuiet
   rcases tc with ⟨hw,hy,_⟩ | ⟨hw,rfl⟩
   · rw [if_pos hw]
     refine ⟨u,fun w hc=>?_,?_⟩
     · unfold Oper.quietAt
       rw [show (execOp a.eval o).run P w=_ from hy w hc]
       exact ⟨rfl,rfl⟩
     · rw [bG];exact next
   · rw [if_neg (by simp [hw]),bG]
     exact next
theorem HK {os:List Oper} {aY:List Nat} {b7:List (Nat × Value)} {eD:List Nat} {k:List (Nat × Value)} {L:List (Nat × Nat)} (h:nT G ops n M os aY b7 eD=some (k,L)):∃ iM kh,ev G ops n M os aY b7 [] []=some (iM,kh,L)/\Cl iM k:=by
 unfold nT at h
 split at h
 · rename_i fr' u9 l aq
   split at h
   · rename_i k' aC
     simp only [Option.some.injEq,Prod.mk.injEq] at h
     obtain ⟨rfl,rfl⟩:=h
     exact ⟨fr',u9,aq,Px aC⟩
   · cases h
 · cases h
theorem g7 (k:Nat) (eD aY:List Nat) {w:World} {Q:Exit->Act->World->Prop} {rest:List Oper} {b7 fr':List (Nat × Value)} {L:List Nat} {a:Act} (fW:o3 P G) (fP:jX w M) (I:Fr n b7 a) (he:nT G ops n M (rest.take k) aY b7 eD=some (fr',dup L))
 (next:∀ bQ,Fr n fr' bQ->wpList P ops Q (rest.drop k) bQ w):wpList P ops Q rest a w:=by
 obtain ⟨iM,kh,aq,aC⟩:=HK he
 exact Ss (gs:=[]) fW fP (DS L) k I trivial aq fun bQ eN=>next bQ (eN.sub aC)
theorem aiK (k:Nat) (eD aY:List Nat) {nG:Act->Prop} {rest:List Oper} {b7 fr':List (Nat × Value)} {L:List Nat} {a:Act} (fW:o3 P G) (fP:∀ w,C w->jX w M) (I:Fr n b7 a) (he:nT G ops n M (rest.take k) aY b7 eD=some (fr',dup L))
 (next:∀ bQ,Fr n fr' bQ->wpQuiet P ops C nG (rest.drop k) bQ):wpQuiet P ops C nG rest a:=by
 obtain ⟨iM,kh,aq,aC⟩:=HK he
 exact RW (gs:=[]) fW fP (DS L) k I trivial aq fun bQ eN=>next bQ (eN.sub aC)
end
def xF:List Nat->Nat->Bool
 | [],_=>false
 | i::r,j=>Nat.beq i j || xF r j
section
variable {P:Program} {ops:Array Oper} {Q:Exit->Act->World->Prop} {md:Region.Mode} {S:World->Prop} {p:Nat}
def rT (P:Program) (md:Region.Mode) (ops:Array Oper) (Q:Exit->Act->World->Prop) (p:Nat) (S:World->Prop):Nat->Array Bool->Act->World->Prop
 | 0,listed,a,w=>Region.ready md ops listed= []/\Q .normal a w
 | hK+ 1,listed,a,w=>
   (Region.ready md ops listed= []->Q .normal a w) /\
   ∀ i ∈ Region.ready md ops listed,wpOp P ops Q i (fun bQ az=>((listed.setIfInBounds i true).getD p false=false->S az)/\rT P md ops Q p S hK (listed.setIfInBounds i true) bQ az) a w
theorem SW:∀ (hK:Nat) (listed:Array Bool) (a:Act) (w:World),rT P md ops Q p S hK listed a w->wpAny P md ops Q hK listed a w
 | 0,_,_,_,h=>h
 | hK+ 1,_,_,_,h=>⟨h.1,fun i hi=>wpOp_mono (fun bQ az dh=>SW hK _ bQ az dh.2) (h.2 i hi)⟩
theorem Sq {xK:Array Bool} {i p:Nat} (h:xK.getD p false=true):(xK.setIfInBounds i true).getD p false=true:=by
 simp only [Array.getD_eq_getD_getElem?,Array.getElem?_setIfInBounds] at h ⊢
 split
 · rename_i e
   subst e
   split
   · rfl
   · rename_i dO
     rw [Array.getElem?_eq_none (by omega)] at h
     cases h
 · exact h
theorem SV {BS:Nat} {GX:World->Prop}:∀ (hK:Nat) (listed:Array Bool) (a:Act) (w:World),listed.getD p false=true->rT P md ops Q BS GX hK listed a w->rT P md ops Q p S hK listed a w
 | 0,_,_,_,_,h=>h
 | hK+ 1,_,_,_,bD,h=>⟨h.1,fun i hi=>wpOp_mono (fun bQ az dh=>⟨fun I=>absurd ((Sq bD).symm.trans I) (by simp),SV hK _ bQ az (Sq bD) dh.2⟩) (h.2 i hi)⟩
def sO:List Oper->Nat->Nat->List Nat->List Nat
 | [],_,_,acc=>acc
 | o::r,k,i,acc=>sO r (k+ 1) i (match o.after.toList.any fun e=>Region.binds .any e && (Nat.beq e.on i || xF acc e.on) with | true=>k::acc | false=>acc)
theorem QW {l:List Nat} {j:Nat} (h:xF l j=true):j ∈ l:=by
 induction l with
 | nil=>simp [xF] at h
 | cons i r cb=>
   simp only [xF,Bool.or_eq_true] at h
   rcases h with h | h
   · rw [Nat.eq_of_beq_eq_true h];simp
   · exact List.mem_cons_of_mem _ (cb h)
def Da (ops:Array Oper) (i:Nat) (sp:List Nat):Prop:=∀ u ∈ sp,∃ o,ops[u]? =some o/\ ∃ e ∈ o.after,Region.binds .any e=true/\(e.on=i\/e.on ∈ sp)
theorem PB {ops:Array Oper} {i:Nat}:∀ {l:List Oper} {k:Nat} {acc:List Nat},(∀ m o,l[m]? =some o->ops[k+m]? =some o)->Da ops i acc->Da ops i (sO l k i acc)
 | [],_,_,_,h=>h
 | o::r,k,acc,ag,h=>by
   rw [sO]
   refine PB (fun m j3 hm=>by have:=ag (m+ 1) j3 (by simpa using hm);rwa [show k+(m+ 1)=k+ 1 +m by omega] at this) ?_
   split
   · rename_i aM
     intro u hu
     rcases List.mem_cons.1 hu with rfl | hu
     · simp only [List.any_eq_true,Bool.and_eq_true,Bool.or_eq_true] at aM
       obtain ⟨e,he,aq,aC⟩:=aM
       refine ⟨o,by simpa using ag 0 o rfl,e,by simpa using he,aq,?_⟩
       rcases aC with aC | aC
       · exact .inl (Nat.eq_of_beq_eq_true aC)
       · exact .inr (List.mem_cons_of_mem _ (QW aC))
     · obtain ⟨j3,A',e,he,aq,aC⟩:=h u hu
       exact ⟨j3,A',e,he,aq,aC.imp id (List.mem_cons_of_mem _)⟩
   · exact h
def MN (ops:Array Oper) (p i:Nat) (ds:List Nat):Bool:=(match nth ops.toList p with
 | none=>true
 | some _=>xF (sO ops.toList 0 i []) p) && (sO ops.toList 0 i []).all fun u=>!(iU ops.size ds).getD u false
theorem MO {ops:Array Oper} {p i:Nat} {ds:List Nat} (h:MN ops p i ds=true):Da ops i (sO ops.toList 0 i [])/\(ops[p]? =none\/p ∈ sO ops.toList 0 i [])/\ ∀ u ∈ sO ops.toList 0 i [],(iU ops.size ds).getD u false=false:=by
 unfold MN at h
 rw [Bool.and_eq_true] at h
 refine ⟨PB (fun m o hm=>by simpa using hm) (fun u hu=>by simp at hu),?_,fun u hu=>?_⟩
 · have aq:=h.1
   rw [rD,Array.getElem?_toList] at aq
   split at aq
   · rename_i ad;exact .inl ad
   · exact .inr (QW aq)
 · have:=List.all_eq_true.1 h.2 u hu
   simpa using this
theorem akv {i:Nat} {ls:Oper} {v:Value} (hi:ops[i]? =some ls) (Bj:∀ (j:Nat) (o:Oper) cs b,ops[j]? =some o->o.op≠ .select cs b) (qQ:p≠i)
 (fF:∀ c a w,Q (.panic c) (a.put ls.dst v) w->Q (.panic c) a w) {sp:List Nat} (XN:Da ops i sp) (adM:ops[p]? =none\/p ∈ sp) :
 ∀ (hK:Nat) (listed:Array Bool) (a:Act) (w:World),
   (∀ j lu,ops[j]? =some lu->j≠i->listed.getD j true=false->(∀ e ∈ lu.after,Region.binds .any e=true->e.on≠i)->ls.apart ops lu=true) ->
   listed.getD p false=false->(∀ u ∈ sp,listed.getD u false=false)->i ∈ Region.ready .any ops listed->YieldsIf P ops S ls v a->S w ->
   rT P .any ops Q p S hK (listed.setIfInBounds i true) (a.put ls.dst v) w->rT P .any ops Q p S (hK+ 1) listed a w:=by
 intro hK
 induction hK with
 | zero=>
   intro listed a w _ _ _ bm hy k3 H
   refine ⟨fun h=>(by rw [h] at bm;cases bm),fun j bf=>?_⟩
   by_cases iO:j=i
   · subst iO;exact hy.wpOp hi k3 ⟨fun _=>k3,H⟩
   · have:=ready_mono bf iO
     rw [H.1] at this
     cases this
 | succ hK cb=>
   intro listed a w vr pv td bm hy k3 H
   refine ⟨fun h=>(by rw [h] at bm;cases bm),fun j bf=>?_⟩
   by_cases iO:j=i
   · subst iO;exact hy.wpOp hi k3 ⟨fun _=>k3,H⟩
   · have aq:=H.2 j (ready_mono bf iO)
     obtain ⟨A4,lu,qP,mx⟩:=mem_ready.1 bf
     have vC:∀ e ∈ lu.after,Region.binds .any e=true->e.on≠i:=fun e he aM heq=>by
      have aq:=mx e he aM
      have bk:=(mem_ready.1 bm).1
      rw [heq] at aq
      rcases Nat.lt_or_ge i listed.size with dh | dh
      · simp [dh] at bk aq;rw [bk] at aq;cases aq
      · simp [Array.getElem?_eq_none dh] at aq
     have Qr:j ∉ sp:=fun JE=>by
      obtain ⟨j3,A',e,he,aM,aC⟩:=XN j JE
      rw [qP] at A'
      simp only [Option.some.injEq] at A'
      subst A'
      rcases aC with aC | aC
      · exact vC e he aM aC
      · have bw:=mx e he aM
        rw [td _ aC] at bw
        cases bw
     have Qs:j≠p:=fun e=>by
      subst e
      rcases adM with h | h
      · rw [qP] at h;cases h
      · exact Qr h
     have afg:∀ u ∈ sp,(listed.setIfInBounds j true).getD u false=false:=fun u hu=>by
      have:=td u hu
      have eS:j≠u:=fun e=>Qr (e ▸ hu)
      simp only [Array.getD_eq_getD_getElem?,Array.getElem?_setIfInBounds,if_neg eS] at this ⊢
      exact this
     have JR:(listed.setIfInBounds j true).getD p false=false:=by
      simp only [Array.getD_eq_getD_getElem?,Array.getElem?_setIfInBounds,if_neg Qs] at pv ⊢
      exact pv
     have Qx:((listed.setIfInBounds i true).setIfInBounds j true).getD p false=false:=by
      simp only [Array.getD_eq_getD_getElem?,Array.getElem?_setIfInBounds,if_neg Qs,if_neg (Ne.symm qQ)] at pv ⊢
      exact pv
     have aC:=wpOp_putIf qP (vr j lu qP iO A4 vC) (fun cs b=>Bj i ls cs b hi) (fun cs b=>Bj j lu cs b qP) fF hy aq
     have Iu:∀ k ok,ops[k]? =some ok->k≠i->(listed.setIfInBounds j true).getD k true=false ->
      (∀ e ∈ ok.after,Region.binds .any e=true->e.on≠i)->ls.apart ops ok=true:=fun k ok aZ JF td vB=>by
      refine vr k ok aZ JF ?_ vB
      by_cases vy:j=k
      · subst vy;exact A4
      · rw [getD_set_ne true vy] at td;exact td
     refine wpOp_mono (fun bQ az bw=>⟨fun _=>bw.2.1 Qx,cb (listed.setIfInBounds j true) bQ az Iu JR afg (ready_mono bm (Ne.symm iO)) bw.1 (bw.2.1 Qx) ?_⟩) aC
     rw [Array.setIfInBounds_comm _ _ iO]
     exact bw.2.2
theorem SU {i:Nat} {ls:Oper} {v:Value} (hi:ops[i]? =some ls) (Bj:∀ (j:Nat) (o:Oper) cs b,ops[j]? =some o->o.op≠ .select cs b) (qQ:p≠i)
 (fF:∀ c a w,Q (.panic c) (a.put ls.dst v) w->Q (.panic c) a w) :
 ∀ (hK:Nat) (listed:Array Bool) (a:Act) (w:World),
   (∀ j lu,ops[j]? =some lu->j≠i->listed.getD j true=false->(∀ e ∈ lu.after,Region.binds .any e=true->e.on≠i)->ls.apart ops lu=true) ->
   (listed.getD p false=false->S w)->i ∈ Region.ready .any ops listed->YieldsIf P ops (fun _=>True) ls v a ->
   rT P .any ops Q p S hK (listed.setIfInBounds i true) (a.put ls.dst v) w->rT P .any ops Q p S (hK+ 1) listed a w:=by
 have vH:∀ (xK:Array Bool) (b:Bool),(xK.setIfInBounds i true).getD p b=xK.getD p b:=fun xK b=>by
  simp only [Array.getD_eq_getD_getElem?,Array.getElem?_setIfInBounds,if_neg (Ne.symm qQ)]
 intro hK
 induction hK with
 | zero=>
   intro listed a w _ k3 bm hy H
   refine ⟨fun h=>(by rw [h] at bm;cases bm),fun j bf=>?_⟩
   by_cases iO:j=i
   · subst iO;exact hy.wpOp hi trivial ⟨fun h=>k3 (by rwa [vH] at h),H⟩
   · have:=ready_mono bf iO
     rw [H.1] at this
     cases this
 | succ hK cb=>
   intro listed a w vr k3 bm hy H
   refine ⟨fun h=>(by rw [h] at bm;cases bm),fun j bf=>?_⟩
   by_cases iO:j=i
   · subst iO;exact hy.wpOp hi trivial ⟨fun h=>k3 (by rwa [vH] at h),H⟩
   · have aq:=H.2 j (ready_mono bf iO)
     obtain ⟨A4,lu,qP,mx⟩:=mem_ready.1 bf
     have vC:∀ e ∈ lu.after,Region.binds .any e=true->e.on≠i:=fun e he aM heq=>by
      have aq:=mx e he aM
      have bk:=(mem_ready.1 bm).1
      rw [heq] at aq
      rcases Nat.lt_or_ge i listed.size with dh | dh
      · simp [dh] at bk aq;rw [bk] at aq;cases aq
      · simp [Array.getElem?_eq_none dh] at aq
     have aC:=wpOp_putIf qP (vr j lu qP iO A4 vC) (fun cs b=>Bj i ls cs b hi) (fun cs b=>Bj j lu cs b qP) fF hy aq
     have Iu:∀ k ok,ops[k]? =some ok->k≠i->(listed.setIfInBounds j true).getD k true=false ->
      (∀ e ∈ ok.after,Region.binds .any e=true->e.on≠i)->ls.apart ops ok=true:=fun k ok aZ JF td vB=>by
      refine vr k ok aZ JF ?_ vB
      by_cases vy:j=k
      · subst vy;exact A4
      · rw [getD_set_ne true vy] at td;exact td
     have P9:∀ az,(((listed.setIfInBounds i true).setIfInBounds j true).getD p false=false->S az)->(listed.setIfInBounds j true).getD p false=false->S az:=fun az af s'=>
      af (by rw [Array.setIfInBounds_comm _ _ (Ne.symm iO),vH];exact s')
     refine wpOp_mono (fun bQ az bw=>⟨P9 az bw.2.1,cb (listed.setIfInBounds j true) bQ az Iu (P9 az bw.2.1) (ready_mono bm (Ne.symm iO)) bw.1 ?_⟩) aC
     rw [Array.setIfInBounds_comm _ _ iO]
     exact bw.2.2
end
def eH (P:Program) (ops:Array Oper) (Q:Exit->Act->World->Prop) (p:Nat) (S:World->Prop) (f:Nat) (ds:List Nat) (a:Act) (w:World):Prop:=((iU ops.size ds).getD p false=false->S w)/\rT P .any ops (NoPanic Q) p S f (iU ops.size ds) a w
def BV (ops:List Oper):List Nat->Option (List Oper)
 | []=>some []
 | i::r=>match nth ops i,BV ops r with
   | some o,some os=>some (o::os)
   | _,_=>none
def RL (ops:Array Oper) (i:Nat):Bool:=match nth ops.toList i with
 | some o=>!xG o.op
 | none=>false
def Fu (ops:Array Oper) (p:Nat):List Nat->List Nat->Bool
 | _,[]=>true
 | ds,i::r=>Ft ops ds i && (MN ops p i ds || RL ops i) && !Nat.beq p i && Fu ops p (i::ds) r
def Mq:List Nat->List Nat->List Nat
 | [],ds=>ds
 | i::r,ds=>Mq r (i::ds)
section
variable {P:Program} {G:mf} {ops:Array Oper} {n:gE} {M:List (Nat × Nat × List Value)} {S:World->Prop} {Q:Exit->Act->World->Prop} {a:Act} {w:World} {f p:Nat} {ds:List Nat}
theorem ah' (i:Nat):iU ops.size (i::ds)=(iU ops.size ds).setIfInBounds i true:=rfl
theorem eH.wpAny (h:eH P ops Q p S f ds a w):Go.wpAny P .any ops (NoPanic Q) f (iU ops.size ds) a w:=SW f _ a w h.2
theorem kV {id m:Nat} {lo:List Oper} (p:Nat) (S:World->World->Prop) (hm:P.follows .mixedOrders=true) (ag:Nat.beq lo.length m=true) (h:∀ az,aX [] w az->eH P lo.toArray Q p (S az) m [] a az):(Code.region id lo.toArray true).wp P Q a w:=by
 have ag:=Nat.eq_of_beq_eq_true ag
 subst ag
 exact wp_region_noPanic (wp_region_any hm (h _ (aX.drew [] w)).wpAny)
theorem ih (hc:(Region.ready .any ops (iU ops.size ds)).isEmpty=true) (h:Q .normal a w) (k3:(iU ops.size ds).getD p false=false->S w):eH P ops Q p S f ds a w:=by
 refine ⟨k3,?_⟩
 have bm:=List.isEmpty_iff.1 hc
 cases f with
 | zero=>exact ⟨bm,NoPanic.normal h⟩
 | succ f=>exact ⟨fun _=>NoPanic.normal h,by rw [bm];simp⟩
theorem eH.next (BS:Nat) (GX:World->Prop) (bD:(iU ops.size ds).getD p false=true) (h:eH P ops Q BS GX f ds a w):eH P ops Q p S f ds a w:=
 ⟨fun I=>absurd (bD.symm.trans I) (by simp),SV f _ a w bD h.2⟩
theorem N2 (fW:o3 P G) (fP:∀ w,S w->jX w M) (qx:S w) {iM:List (Nat × Value)} {kh:List gF} {kr:List (Nat × Nat)} (cT:lI kr):∀ (is:List Nat) {os:List Oper} {aY ds:List Nat} {b7:List (Nat × Value)} {gs:List gF} {l:List (Nat × Nat)} {a:Act},
 (iU ops.size ds).getD p false=false->BV ops.toList is=some os->Fu ops p ds is=true->Fr n b7 a->k0 a gs->ev G ops n M os aY b7 gs l=some (iM,kh,kr)->(∀ bQ,Fr n iM bQ->eH P ops Q p S f (Mq is ds) bQ w)->eH P ops Q p S (f+is.length) ds a w
 | [],os,aY,ds,b7,gs,l,a,_,bc,_,I,_,h,aZ=>by
   simp only [BV,Option.some.injEq] at bc
   subst bc
   simp only [ev,Option.some.injEq,Prod.mk.injEq] at h
   exact aZ a (by rw [<-h.1];exact I)
 | i::is,os,aY,ds,b7,gs,l,a,pv,bc,bt,I,c0,h,aZ=>by
   simp only [BV] at bc
   split at bc
   · rename_i o anI aq aC
     simp only [Option.some.injEq] at bc
     subst bc
     rw [rD,Array.getElem?_toList] at aq
     simp only [Fu,Bool.and_eq_true,Bool.not_eq_true'] at bt
     obtain ⟨⟨⟨m7,th⟩,qQ⟩,aff⟩:=bt
     have Ba:p≠i:=fun e=>by rw [e] at qQ;simp at qQ
     obtain ⟨d,u,dn,fr',u9,l',⟨bG,tc⟩,eN,vu,dh⟩:=HJ (C:=S) fW fP I c0 h cT (sR cT)
     have JR:(iU ops.size (i::ds)).getD p false=false:=by
      rw [ah']
      simp only [Array.getD_eq_getD_getElem?,Array.getElem?_setIfInBounds,if_neg (Ne.symm Ba)] at pv ⊢
      exact pv
     have next:=N2 fW fP qx cT is JR aC aff eN vu dh aZ
     simp only [Ft,Bool.and_eq_true] at m7
     refine ⟨fun _=>qx,?_⟩
     have:=next.2
     rw [show f+(i::is).length=f+is.length+ 1 by simp [Nat.add_assoc]]
     rw [Bool.or_eq_true] at th
     rcases th with th | JM
     · refine akv (v:=u) aq (Region.noSelect_spec m7.1.1) Ba (fun c a w h=>h) (MO th).1 (MO th).2.1 (f+is.length) _ a w (Region.free_spec aq m7.1.2) pv (MO th).2.2 (by simpa using m7.2) (tc.imp (fun ⟨x,y,_⟩=>⟨x,y⟩) id) qx ?_
       rw [bG]
       exact this
     · have adG:xG o.op=false:=by
        unfold RL at JM
        rw [rD,Array.getElem?_toList,aq] at JM
        simpa using JM
       refine SU (v:=u) aq (Region.noSelect_spec m7.1.1) Ba (fun c a w h=>h) (f+is.length) _ a w (Region.free_spec aq m7.1.2) (fun _=>qx) (by simpa using m7.2) (tc.imp (fun ⟨x,_,y⟩=>⟨x,fun w _=>y adG w⟩) id) ?_
       rw [bG]
       exact this
   · cases bc
theorem eK (is:List Nat) (k:Nat) (eD aY:List Nat) {os:List Oper} {b7 fr':List (Nat × Value)} {L:List Nat} (fW:o3 P G) (fP:∀ w,S w->jX w M) (I:Fr n b7 a) (aZ:Nat.beq is.length k=true) (pv:(iU ops.size ds).getD p false=false) (hi:BV ops.toList is=some os) (bt:Fu ops p ds is=true)
 (he:nT G ops n M os aY b7 eD=some (fr',dup L)) (qx:S w) (next:∀ bQ,Fr n fr' bQ->eH P ops Q p S f (Mq is ds) bQ w):eH P ops Q p S (f+k) ds a w:=by
 have aZ:=Nat.eq_of_beq_eq_true aZ
 subst aZ
 obtain ⟨iM,kh,aq,aC⟩:=HK he
 exact N2 (gs:=[]) fW fP qx (DS L) is pv hi bt I trivial aq fun bQ eN=>next bQ (eN.sub aC)
theorem ed (i:Nat) {o:Oper} (hi:ops[i]? =some o) (hc:(Region.ready .any ops (iU ops.size ds) == [i])=true) (k3:(iU ops.size ds).getD p false=false->S w) (h:wpList P ops (wK (eH P ops Q p S f (i::ds)) (NoPanic Q)) [o] a w):eH P ops Q p S (f+ 1) ds a w:=by
 have bm:=eq_of_beq hc
 refine ⟨k3,⟨fun bk=>(by rw [bm] at bk;cases bk),fun j bf=>?_⟩⟩
 rw [bm] at bf
 have:j=i:=by simpa using bf
 subst this
 exact MQ hi h
theorem NZ (i j:Nat) {o j3:Oper} (hi:ops[i]? =some o) (bf:ops[j]? =some j3) (hc:(Region.ready .any ops (iU ops.size ds) == [i,j])=true) (k3:(iU ops.size ds).getD p false=false->S w) (h:wpList P ops (wK (eH P ops Q p S f (i::ds)) (NoPanic Q)) [o] a w)
 (dh:wpList P ops (wK (eH P ops Q p S f (j::ds)) (NoPanic Q)) [j3] a w):eH P ops Q p S (f+ 1) ds a w:=by
 have bm:=eq_of_beq hc
 refine ⟨k3,⟨fun bk=>(by rw [bm] at bk;cases bk),fun q dX=>?_⟩⟩
 rw [bm] at dX
 have:q=i\/q=j:=by simpa using dX
 rcases this with rfl | rfl
 · exact MQ hi h
 · exact MQ bf dh
theorem dK (h:eH P ops Q p S f ds a w):wpList P ops (wK (eH P ops Q p S f ds) (NoPanic Q)) [] a w:=h
end
end Gg
namespace Gg
open Go Go.RowKit Cin
theorem G6 (p q:List UInt8):((⟨⟨p⟩⟩:ByteArray) == ⟨⟨q⟩⟩)=decide (p=q):=by
 show ((⟨p⟩:Array UInt8) == ⟨q⟩)=_
 rw [Bool.eq_iff_iff];simp
structure p6 (κ:Type) [DecidableEq κ] where
 enc:κ->Value
 desc:TypeDesc
 same:∀ a b,Instr.sameNow desc (enc a) (enc b)=some (decide (b=a))
 bits:∀ a,Instr.sameBits 10000 (enc a) (enc a)=true
 check:∀ (P:Program) (w:World) (e:Bool) (t:TypeId) (a:κ),P.underlying t=some desc->(Instr.checkKey e 10000 t (enc a)).run P w= .ok () w
def ek:p6 Int where
 enc n:=.int .i64 n
 desc:=.int .i64
 same a b:=by
  simp only [Instr.sameNow,if_true,Option.some.injEq]
  rw [Bool.eq_iff_iff]
  simp only [beq_iff_eq,decide_eq_true_iff]
  exact eq_comm
 bits a:=by
  have h:∀ n,Instr.sameBits n (.int .i64 a) (.int .i64 a)=true:=fun n=>by cases n <;> simp [Instr.sameBits]
  exact h 10000
 check P w e t a h:=by
  have dh:∀ n:Nat,(Instr.checkKey e (n+ 1) t (.int .i64 a)).run P w= .ok () w:=fun n=>by simp [Instr.checkKey,run_underlying h]
  exact dh 9999
def c4:p6 (List UInt8) where
 enc s:=au s
 desc:=.string
 same a b:=by
  simp only [Instr.sameNow,Option.some.injEq]
  have e:decide (a=b)=decide (b=a):=by rw [decide_eq_decide];exact eq_comm
  exact (G6 a b).trans e
 bits a:=by
  have h:∀ n,Instr.sameBits n (au a) (au a)=true:=fun n=>by
   have e:((⟨⟨a⟩⟩:ByteArray) == ⟨⟨a⟩⟩)=true:=(G6 a a).trans (by simp)
   cases n <;> (simp only [Instr.sameBits];exact e)
  exact h 10000
 check P w e t a h:=by
  have dh:∀ n:Nat,(Instr.checkKey e (n+ 1) t (au a)).run P w= .ok () w:=fun n=>by simp [Instr.checkKey,run_underlying h]
  exact dh 9999
section
variable {κ β:Type} [DecidableEq κ] (K:p6 κ) (ev:β->Value)
def hF (es:List MapEntry) (d:List (κ × β)):Prop:=es.map (fun e=>(e.key,e.val))=d.map (fun p=>(K.enc p.1,ev p.2))
def o4 (w:World) (r:Nat) (d:List (κ × β)):Prop:=∃ es clock,w.heap[r]? =some (.map es clock)/\hF K ev es.toList d/\(es.toList.map (·.born)).Pairwise (· < ·)/\ ∀ e ∈ es.toList,e.born <clock
def aw.map (r:Nat) (d:List (κ × β)):aw where
 fv:=[r]
 ok w:=o4 K ev w r d
 law w az h aZ:=by
  obtain ⟨es,c,aq,aC⟩:=aZ
  exact ⟨es,c,(h r (by simp)).trans aq,aC⟩
def ap.map (r:Nat) (d:List (κ × β)):ap where
 ok M w:=r ∉ M/\r <w.heap.size/\o4 K ev w r d
 law M hG w az U hm h:=by
  obtain ⟨aq,aC,es,c,bw,dz⟩:=h
  exact ⟨fun af=>by rcases hm r af with e | e;exact aq e;omega,Nat.lt_of_lt_of_le aC U.size,es,c,(U.block r aC aq).trans bw,dz⟩
end
section
variable {κ β:Type} [DecidableEq κ] {K:p6 κ} {ev:β->Value}
theorem PW {k:κ}:∀ {es:List MapEntry} {d:List (κ × β)} (i:Nat),hF K ev es d->Instr.findNow K.desc (K.enc k) es i=some ((jz d k).bind fun p=>(cW d k).map fun v=>(i+p,ev v))
 | [],[],i,_=>rfl
 | [],_::_,_,h=>by simp [hF] at h
 | _::_,[],_,h=>by simp [hF] at h
 | e::es,p::d,i,h=>by
   simp only [hF,List.map_cons,List.cons.injEq,Prod.mk.injEq] at h
   obtain ⟨⟨aq,aC⟩,bw⟩:=h
   simp only [Instr.findNow,aq,K.same,jz,cW]
   by_cases bD:p.1 =k
   · simp [bD,aC]
   · simp only [bD,decide_false,if_false]
     rw [PW (i+ 1) bw]
     cases hm:jz d k with
     | none=>rfl
     | some q=>simp only [Option.bind_some,Option.map_some];rw [show i+ 1 +q=i+(q+ 1) by omega]
theorem ED {k:κ}:∀ {d:List (κ × β)},(jz d k).isSome=(cW d k).isSome
 | []=>rfl
 | p::d=>by
   simp only [jz,cW]
   by_cases bD:p.1 =k
   · simp [bD]
   · simp [bD,ED]
variable {P:Program} {o:Oper} {a:Act} {w:World} {x y z:Operand} {t kq kY:TypeId} {r:Nat} {d:List (κ × β)} {k:κ} {v:β}
theorem run_findKey {es:Array MapEntry} (aZ:P.underlying kq=some K.desc) (he:hF K ev es.toList d):(Instr.findKey kq (K.enc k) es.toList).run P w= .ok ((jz d k).bind fun p=>(cW d k).map fun v=>(p,ev v)) w:=by
 have h:=PW (k:=k) 0 he
 simp only [Nat.zero_add] at h
 simp only [Instr.findKey,Sem.run_bind,run_underlying aZ,Result.andThen_ok,h]
 rfl
theorem amp (bc:o.op= .makeMap t none):b5 P o a w (.map (some w.heap.size)) (w.alloc (.map #[] 0)):=by
 simp only [b5,execOp,bc,Sem.run_bind]
 rfl
theorem ah4 (w:World):(aw.map K ev w.heap.size ([]:List (κ × β))).ok (w.alloc (.map #[] 0)):=⟨#[],0,heap_alloc_new w _,rfl,by simp,by simp⟩
theorem CO {CQ:β} (bt:P.underlying t=some (.map kq kY)) (aZ:P.underlying kq=some K.desc) (cT:∀ w,(zeroValue kY).run P w= .ok (ev CQ) w) (hm:o4 K ev w r d) (bc:o.op= .lookup t x y true) (af:a.eval x= .map (some r)) (hy:a.eval y=K.enc k) :
 b5 P o a w (.tuple #[ev ((cW d k).getD CQ),.bool (cW d k).isSome]) w:=by
 obtain ⟨es,clock,aq,aC,_⟩:=hm
 have I:=run_findKey (P:=P) (w:=w) (k:=k) aZ aC
 simp only [b5,execOp,bc,af,hy,Instr.lookup,Sem.run_bind,Sem.run_pure,run_underlying bt,Result.andThen_ok,MapKept.run_getObj_map aq,K.check P w es.isEmpty kq k aZ,I]
 have aY:=ED (k:=k) (d:=d)
 cases bD:jz d k with
 | none=>
   rw [bD] at aY
   cases c0:cW d k with
   | none=>
     simp only [Option.bind_none,Sem.run_bind,Sem.run_pure,cT,Result.andThen_ok]
     rfl
   | some u=>rw [c0] at aY;cases aY
 | some p=>
   rw [bD] at aY
   cases c0:cW d k with
   | none=>rw [c0] at aY;cases aY
   | some u=>rfl
theorem CN {CQ:β} (bt:P.underlying t=some (.map kq kY)) (aZ:P.underlying kq=some K.desc) (cT:∀ w,(zeroValue kY).run P w= .ok (ev CQ) w) (hm:o4 K ev w r d) (bc:o.op= .lookup t x y false) (af:a.eval x= .map (some r)) (hy:a.eval y=K.enc k) :
 b5 P o a w (ev ((cW d k).getD CQ)) w:=by
 obtain ⟨es,clock,aq,aC,_⟩:=hm
 have I:=run_findKey (P:=P) (w:=w) (k:=k) aZ aC
 simp only [b5,execOp,bc,af,hy,Instr.lookup,Sem.run_bind,Sem.run_pure,run_underlying bt,Result.andThen_ok,MapKept.run_getObj_map aq,K.check P w es.isEmpty kq k aZ,I]
 have aY:=ED (k:=k) (d:=d)
 cases bD:jz d k with
 | none=>
   rw [bD] at aY
   cases c0:cW d k with
   | none=>
     simp only [Option.bind_none,Sem.run_bind,Sem.run_pure,cT,Result.andThen_ok]
     rfl
   | some u=>rw [c0] at aY;cases aY
 | some p=>
   rw [bD] at aY
   cases c0:cW d k with
   | none=>rw [c0] at aY;cases aY
   | some u=>rfl
theorem M' (bt:P.underlying t=some (.map kq kY)) (hm:o4 K ev w r d) (bc:o.op= .call { callee:=.builtin .len,args:=#[x],argTypes:=#[t] }) (af:a.eval x= .map (some r)):b5 P o a w (.int .i64 (d.length:Int)) w:=by
 obtain ⟨es,clock,aq,aC,_⟩:=hm
 have ag:es.size=d.length:=by
  have:=congrArg List.length aC
  simpa using this
 simp only [b5,execOp,bc,resolve,invoke,List.map_toArray,List.map_cons,List.map_nil,af]
 simp [go_sem,Builtin.len_,run_underlying bt,goInt,MapKept.run_getObj_map aq,ag]
theorem PK {k:κ} {v:β}:∀ {es:List MapEntry} {d:List (κ × β)} {p:Nat},hF K ev es d->jz d k=some p->hF K ev (es.modify p fun e=>{ e with key:=K.enc k,val:=ev v }) (gW d k v)
 | [],[],_,_,bD=>by simp [jz] at bD
 | [],_::_,_,h,_=>by simp [hF] at h
 | _::_,[],_,h,_=>by simp [hF] at h
 | e::es,q::d,p,h,bD=>by
   simp only [hF,List.map_cons,List.cons.injEq,Prod.mk.injEq] at h
   obtain ⟨⟨aq,aC⟩,bw⟩:=h
   simp only [jz] at bD
   by_cases dX:q.1 =k
   · simp only [dX,if_true,Option.some.injEq] at bD
     subst bD
     simp only [gW,dX,if_true,hF,List.modify_zero_cons,List.map_cons,List.cons.injEq,true_and]
     exact bw
   · simp only [dX,if_false,Option.map_eq_some_iff] at bD
     obtain ⟨BS,s',rfl⟩:=bD
     have:=PK (v:=v) bw s'
     simp only [gW,dX,if_false,hF,List.modify_succ_cons,List.map_cons,List.cons.injEq,Prod.mk.injEq,aq,aC,and_self,true_and]
     exact this
theorem PJ {k:κ} {v:β} {c:Nat}:∀ {es:List MapEntry} {d:List (κ × β)},hF K ev es d->jz d k=none->hF K ev (es++[{ key:=K.enc k,val:=ev v,born:=c }]) (gW d k v)
 | [],[],_,_=>rfl
 | [],_::_,h,_=>by simp [hF] at h
 | _::_,[],h,_=>by simp [hF] at h
 | e::es,q::d,h,bD=>by
   simp only [hF,List.map_cons,List.cons.injEq,Prod.mk.injEq] at h
   obtain ⟨⟨aq,aC⟩,bw⟩:=h
   simp only [jz] at bD
   by_cases dX:q.1 =k
   · simp [dX] at bD
   · simp only [dX,if_false,Option.map_eq_none_iff] at bD
     have:=PJ (v:=v) (c:=c) bw bD
     simp only [gW,dX,if_false,hF,List.cons_append,List.map_cons,List.cons.injEq,Prod.mk.injEq,aq,aC,and_self,true_and]
     exact this
theorem PI {k:κ}:∀ {es:List MapEntry} {d:List (κ × β)} {p:Nat},hF K ev es d->jz d k=some p-> ∃ e,es[p]? =some e/\e.key=K.enc k
 | [],[],_,_,bD=>by simp [jz] at bD
 | [],_::_,_,h,_=>by simp [hF] at h
 | _::_,[],_,h,_=>by simp [hF] at h
 | e::es,q::d,p,h,bD=>by
   simp only [hF,List.map_cons,List.cons.injEq,Prod.mk.injEq] at h
   obtain ⟨⟨aq,aC⟩,bw⟩:=h
   simp only [jz] at bD
   by_cases dX:q.1 =k
   · simp only [dX,if_true,Option.some.injEq] at bD
     subst bD
     exact ⟨e,rfl,by rw [aq,dX]⟩
   · simp only [dX,if_false,Option.map_eq_some_iff] at bD
     obtain ⟨BS,s',rfl⟩:=bD
     simpa using PI bw s'
theorem amq (bt:P.underlying t=some (.map kq kY)) (aZ:P.underlying kq=some K.desc) (hm:o4 K ev w r d) (bc:o.op= .mapUpdate t x y z\/o.op= .insert t x y z) (af:a.eval x= .map (some r)) (hy:a.eval y=K.enc k) (cT:a.eval z=ev v) :
 ∃ az,sq P o a w az/\aX [r] w az/\o4 K ev az r (gW d k v):=by
 obtain ⟨es,clock,aq,aC,bw,dz⟩:=hm
 have I:=run_findKey (P:=P) (w:=w) (k:=k) aZ aC
 have aY:=ED (k:=k) (d:=d)
 have dO:r <w.heap.size:=(Array.getElem?_eq_some_iff.1 aq).1
 have kl:∀ j3:Obj,aX [r] w { w with heap:=w.heap.setIfInBounds r j3 }:=fun j3=>⟨rfl,rfl,rfl,by simp,fun q _ ad=>by
  rw [Array.getElem?_setIfInBounds,if_neg (fun e=>ad (by simp [e]))]⟩
 cases bD:jz d k with
 | none=>
   rw [bD] at I
   refine ⟨{ w with heap:=w.heap.setIfInBounds r (.map (es.push { key:=K.enc k,val:=ev v,born:=clock }) (clock+ 1)) },?_,kl _,es.push { key:=K.enc k,val:=ev v,born:=clock },clock+ 1,?_,?_,?_,?_⟩
   · rcases bc with bc | bc <;>
     · simp only [sq,execOp,bc,af,hy,cT,Instr.mapUpdate,Sem.run_bind,run_underlying bt,Result.andThen_ok,MapKept.run_getObj_map aq,K.check P w false kq k aZ,I,Option.bind_none,MapKept.run_setObj_map _ aq]
       rfl
   · simp [dO]
   · simpa using PJ aC bD
   · simp only [Array.toList_push,List.map_append,List.map_cons,List.map_nil,List.pairwise_append]
     refine ⟨bw,by simp,fun b aM c hc=>?_⟩
     obtain ⟨e,he,rfl⟩:=List.mem_map.1 aM
     simp only [List.mem_singleton] at hc
     subst hc
     exact dz e he
   · intro e he
     simp only [Array.toList_push,List.mem_append,List.mem_singleton] at he
     rcases he with he | rfl
     · exact Nat.lt_succ_of_lt (dz e he)
     · exact Nat.lt_succ_self _
 | some p=>
   rw [bD] at I aY
   obtain ⟨e,he,aby⟩:=PI (k:=k) aC bD
   cases c0:cW d k with
   | none=>rw [c0] at aY;cases aY
   | some u=>
     rw [c0] at I
     have abu:es[p]? =some e:=by simpa using he
     have Qc:((es.modify p fun e=>{ e with key:=K.enc k,val:=ev v }).toList.map (·.born))=es.toList.map (·.born):=by
      rw [Array.toList_modify]
      apply List.ext_getElem?
      intro i
      simp only [List.getElem?_map,List.getElem?_modify]
      cases hi:es.toList[i]? with
      | none=>simp
      | some e'=>by_cases acT:p=i <;> simp [acT]
     refine ⟨{ w with heap:=w.heap.setIfInBounds r (.map (es.modify p fun e=>{ e with key:=K.enc k,val:=ev v }) clock) },?_,kl _,es.modify p fun e=>{ e with key:=K.enc k,val:=ev v },clock,?_,?_,?_,?_⟩
     · have acX:(Instr.keyThatStays e.key (K.enc k)).run P w= .ok (K.enc k) w:=by
        rw [aby];simp only [Instr.keyThatStays,K.bits,if_true];rfl
       rcases bc with bc | bc <;>
       · simp only [sq,execOp,bc,af,hy,cT,Instr.mapUpdate,Sem.run_bind,run_underlying bt,Result.andThen_ok,MapKept.run_getObj_map aq,K.check P w false kq k aZ,I,Option.bind_some,Option.map_some,abu,Option.getD_some,acX,MapKept.run_setObj_map _ aq]
         rfl
     · simp [dO]
     · rw [Array.toList_modify];exact PK aC bD
     · rw [Qc];exact bw
     · intro bn abv
       have:bn.born ∈ es.toList.map (·.born):=by rw [<-Qc];exact List.mem_map.2 ⟨bn,abv,rfl⟩
       obtain ⟨bI,abw,heq⟩:=List.mem_map.1 this
       rw [<-heq];exact dz bI abw
end
end Gg
namespace Gg
open Go Go.RowKit Cin
def NR (E:List aw):Prop:=∀ (i:Nat) (x:aw),E[i]? =some x->x.fv.Nodup/\ ∀ (j:Nat) (y:aw),E[j]? =some y->i≠j-> ∀ k ∈ x.fv,k ∉ y.fv
theorem DX:∀ {E:List aw},(aT E).Nodup->NR E
 | [],_=>fun i x h=>by simp at h
 | e::E,h=>by
   have dh:(e.fv++aT E).Nodup:=by simpa [aT] using h
   rw [List.nodup_append] at dh
   obtain ⟨aq,aC,bw⟩:=dh
   have cb:=DX aC
   intro i x af
   cases i with
   | zero=>
     simp only [List.getElem?_cons_zero,Option.some.injEq] at af
     subst af
     refine ⟨aq,fun j y hy eS k aZ ji=>?_⟩
     cases j with
     | zero=>exact eS rfl
     | succ j=>exact bw k aZ k (List.mem_flatMap.2 ⟨y,List.mem_of_getElem? (by simpa using hy),ji⟩) rfl
   | succ i=>
     have af:E[i]? =some x:=by simpa using af
     refine ⟨(cb i x af).1,fun j y hy eS k aZ ji=>?_⟩
     cases j with
     | zero=>
       simp only [List.getElem?_cons_zero,Option.some.injEq] at hy
       subst hy
       exact bw k ji k (List.mem_flatMap.2 ⟨x,List.mem_of_getElem? af,aZ⟩) rfl
     | succ j=>exact (cb i x af).2 j y (by simpa using hy) (by omega) k aZ ji
theorem RN:∀ {E:List aw},NR E->(aT E).Nodup
 | [],_=>by simp [aT]
 | e::E,h=>by
   have bn:aT (e::E)=e.fv++aT E:=by simp [aT]
   rw [bn,List.nodup_append]
   refine ⟨(h 0 e rfl).1,RN fun i x af=>⟨(h (i+ 1) x (by simpa using af)).1,fun j y hy eS k aZ=>(h (i+ 1) x (by simpa using af)).2 (j+ 1) y (by simpa using hy) (by omega) k aZ⟩,fun a a' b aM xi=>?_⟩
   subst xi
   obtain ⟨x,af,aZ⟩:=List.mem_flatMap.1 aM
   obtain ⟨i,hi,rfl⟩:=List.mem_iff_getElem.1 af
   exact (h 0 e rfl).2 (i+ 1) E[i] (by simp [hi]) (by omega) a a' aZ
def B8 (E:List aw):List Nat->Option (List aw)
 | []=>some []
 | i::r=>match nth E i,B8 E r with
   | some x,some xs=>some (x::xs)
   | _,_=>none
def En:List Nat->Nat->Bool
 | [],_=>false
 | i::r,j=>Nat.beq i j || En r j
def EV:List Nat->Bool
 | []=>true
 | i::r=>!En r i && EV r
theorem agJ {l:List Nat} {j:Nat} (h:En l j=false):j ∉ l:=by
 induction l with
 | nil=>simp
 | cons i r cb=>
   simp only [En,Bool.or_eq_false_iff] at h
   intro hm
   rcases List.mem_cons.1 hm with rfl | e
   · simp at h
   · exact cb h.2 e
theorem RJ:∀ {l:List Nat},EV l=true->l.Nodup
 | [],_=>by simp
 | i::r,h=>by
   simp only [EV,Bool.and_eq_true,Bool.not_eq_true'] at h
   exact List.nodup_cons.2 ⟨agJ h.1,RJ h.2⟩
theorem Fg {E:List aw}:∀ {is:List Nat} {mc:List aw},B8 E is=some mc-> ∀ (m:Nat) (x:aw),mc[m]? =some x-> ∃ i:Nat,is[m]? =some i/\E[i]? =some x
 | [],mc,h,m,x,af=>by simp only [B8,Option.some.injEq] at h;subst h;simp at af
 | i::r,mc,h,m,x,af=>by
   simp only [B8] at h
   split at h
   · rename_i y ys aq aC
     simp only [Option.some.injEq] at h
     subst h
     cases m with
     | zero=>
       simp only [List.getElem?_cons_zero,Option.some.injEq] at af
       subst af
       exact ⟨i,rfl,by rw [<-rD];exact aq⟩
     | succ m=>obtain ⟨q,g4,hS⟩:=Fg aC m x (by simpa using af);exact ⟨q,by simpa using g4,hS⟩
   · cases h
section
variable {W w az:World} {aR X:List Nat} {E:List aw} {D:List ap}
theorem aD.a7 (h:aD W aR X w E D) (is:List Nat) {mc:List aw} (ad:EV is=true) (aY:B8 E is=some mc):aD W aR X w mc D:=by
 have pu:∀ x ∈ mc,x ∈ E:=fun x af=>by
  obtain ⟨m,hm,rfl⟩:=List.mem_iff_getElem.1 af
  obtain ⟨i,_,hi⟩:=Fg aY m _ (List.getElem?_eq_getElem hm)
  exact List.mem_of_getElem? hi
 have I:∀ k ∈ aT mc,k ∈ aT E:=fun k aZ=>by
  obtain ⟨x,af,Ea⟩:=List.mem_flatMap.1 aZ
  exact List.mem_flatMap.2 ⟨x,pu x af,Ea⟩
 have bG:=DX h.dM
 have JK:=RJ ad
 refine ⟨h.ev,h.lj,fun k aZ=>h.lt k (I k aZ),fun x af=>h.ok x (pu x af),RN fun m x af=>?_,fun y hy=>y.law _ _ w w (aX.refl _ _) (fun k aZ=>.inl ?_) (h.rd y hy)⟩
 · obtain ⟨i,hi,QI⟩:=Fg aY m x af
   refine ⟨(bG i x QI).1,fun hh y hy eS k aZ=>?_⟩
   obtain ⟨j,bf,agu⟩:=Fg aY hh y hy
   refine (bG i x QI).2 j y agu (fun e=>?_) k aZ
   subst e
   obtain ⟨l1,bn⟩:=List.getElem?_eq_some_iff.1 hi
   obtain ⟨gy,bI⟩:=List.getElem?_eq_some_iff.1 bf
   rcases Nat.lt_or_gt_of_ne eS with dO | dO
   · exact (List.pairwise_iff_getElem.1 JK m hh l1 gy dO) (bn.trans bI.symm)
   · exact (List.pairwise_iff_getElem.1 JK hh m gy l1 dO) (bI.trans bn.symm)
 · rcases List.mem_append.1 aZ with e | e
   · exact List.mem_append.2 (.inl e)
   · exact List.mem_append.2 (.inr (I k e))
theorem xb (A B:List aw):aT (A++B)=aT A++aT B:=by simp [aT]
theorem aD.into (h:aD W aR X w E D) (m:Nat):aD w (aT (E.take m)) (X++aT (E.drop m)) w (E.take m) D:=by
 have fO:aT E=aT (E.take m)++aT (E.drop m):=by rw [<-xb,List.take_append_drop]
 have bG:=h.dM
 rw [fO,List.nodup_append] at bG
 refine ⟨aX.refl _ _,fun k aZ=>?_,fun k aZ=>⟨(h.lt k (by rw [fO];simp [aZ])).1,.inl aZ⟩,fun x af=>h.ok x (List.mem_of_mem_take af),bG.1,fun y hy=>y.law _ _ w w (aX.refl _ _) (fun k aZ=>.inl ?_) (h.rd y hy)⟩
 · rcases List.mem_append.1 aZ with e | e
   · refine ⟨Nat.lt_of_lt_of_le (h.lj k e).1 h.ev.size,fun ji=>?_⟩
     have:=(h.lt k (by rw [fO];simp [ji])).2
     rcases this with bI | bI
     · exact (h.lj k e).2 bI
     · have:=(h.lj k e).1;omega
   · exact ⟨(h.lt k (by rw [fO];simp [e])).1,fun ji=>bG.2.2 k ji k e rfl⟩
 · rw [fO]
   simp only [List.mem_append] at aZ ⊢
   rcases aZ with (e | e) | e <;> simp [e]
def GL:List ap->Prop
 | []=>True
 | y::r=>(∀ M hG w az,y.ok M w->y.ok hG az)/\GL r
theorem NS:∀ {D:List ap},GL D-> ∀ y ∈ D,∀ M hG w az,y.ok M w->y.ok hG az
 | [],_,y,hy=>by simp at hy
 | z::r,h,y,hy=>by
   rcases List.mem_cons.1 hy with rfl | e
   · exact h.1
   · exact NS h.2 y e
theorem lv {α:Type} {T:eJ α} (jR:∀ F uG w az cs d,T.rd F w cs d->T.rd uG az cs d) {xs:List Value} {l:List α} (M hG:List Nat) (w az:World) (h:(ap.rows T xs l).ok M w):(ap.rows T xs l).ok hG az:=by
 have key:∀ {l:List α} {xs:List Value},fl T (hp M w) w xs l->fl T (hp hG az) az xs l:=by
  intro l
  induction l with
  | nil=>intro xs h;exact h
  | cons d r cb=>intro xs h;obtain ⟨cs,ys,rfl,aq,aC⟩:=h;exact ⟨cs,ys,rfl,jR _ _ _ _ _ _ aq,cb aC⟩
 exact key h
theorem aD.N4 (h:aD W aR X w E D) (m:Nat) {GZ:List Nat} {o5:List aw} {i_:List ap} (k:aD w (aT (E.take m)) GZ az o5 i_) (Xx:∀ y ∈ i_,y.ok (X++aT (o5++E.drop m)) az):aD W aR X az (o5++E.drop m) (i_++D):=by
 have fO:aT E=aT (E.take m)++aT (E.drop m):=by rw [<-xb,List.take_append_drop]
 have bG:=h.dM
 rw [fO,List.nodup_append] at bG
 have P8:∀ b ∈ aT (E.take m),b <w.heap.size/\(b ∈ aR\/W.heap.size<=b):=fun b aM=>h.lt b (by rw [fO];simp [aM])
 have hA:∀ b ∈ aT (E.drop m),b <w.heap.size/\(b ∈ aR\/W.heap.size<=b):=fun b aM=>h.lt b (by rw [fO];simp [aM])
 have U:=k.ev
 have xj:∀ b ∈ aT o5,b ∉ aT (E.drop m):=fun b aM hN=>by
  rcases (k.lt b aM).2 with e | e
  · exact bG.2.2 b e b hN rfl
  · have:=(hA b hN).1;omega
 refine ⟨h.ev.trans U (fun b aM=>(P8 b aM).2),h.lj,fun b aM=>?_,fun x af=>?_,?_,fun y hy=>?_⟩
 · rw [xb] at aM
   rcases List.mem_append.1 aM with e | e
   · refine ⟨(k.lt b e).1,?_⟩
     rcases (k.lt b e).2 with bI | bI
     · exact (P8 b bI).2
     · exact .inr (Nat.le_trans h.ev.size bI)
   · exact ⟨Nat.lt_of_lt_of_le (hA b e).1 U.size,(hA b e).2⟩
 · rcases List.mem_append.1 af with e | e
   · exact k.ok x e
   · refine x.law w az (fun b aM=>?_) (h.ok x (List.mem_of_mem_drop e))
     have hN:b ∈ aT (E.drop m):=List.mem_flatMap.2 ⟨x,e,aM⟩
     exact U.block b (hA b hN).1 (fun aZ=>bG.2.2 b aZ b hN rfl)
 · rw [xb,List.nodup_append]
   exact ⟨k.dM,bG.2.1,fun a a' b aM e=>by subst e;exact xj a a' aM⟩
 · rcases List.mem_append.1 hy with e | e
   · exact Xx y e
   · refine y.law _ _ w az (U.mono fun b aM=>?_) (fun b aM=>?_) (h.rd y e)
     · rw [fO];simp [aM]
     · rw [xb] at aM
       rw [fO]
       simp only [List.mem_append] at aM ⊢
       rcases aM with bn | bn | bn
       · simp [bn]
       · rcases (k.lt b bn).2 with bI | bI
         · simp [bI]
         · exact .inr bI
       · simp [bn]
theorem aD.back (h:aD W aR X w E D) (m:Nat) {o5:List aw} {i_:List ap} (k:aD w (aT (E.take m)) (X++aT (E.drop m)) az o5 i_):aD W aR X az (o5++E.drop m) (i_++D):=
 h.N4 m k fun y hy=>y.law _ _ az az (aX.refl _ _) (fun b aM=>.inl (by
   rw [xb] at aM
   simp only [List.mem_append] at aM ⊢
   rcases aM with e | e | e <;> simp [e])) (k.rd y hy)
theorem aD.fL (h:aD W aR X w E D) (m:Nat) {GZ:List Nat} {o5:List aw} {i_:List ap} (bu:GL i_) (k:aD w (aT (E.take m)) GZ az o5 i_):aD W aR X az (o5++E.drop m) (i_++D):=
 h.N4 m k fun y hy=>NS bu y hy _ _ _ _ (k.rd y hy)
theorem aD.om {κ β:Type} [DecidableEq κ] {K:p6 κ} {ev:β->Value} {r:Nat} {d:List (κ × β)} (h:aD W aR X w E D) (i:Nat) (hi:E[i]? =some (aw.map K ev r d)):aD W aR X w (E.eraseIdx i) (ap.map K ev r d::D):=by
 have aq:=h.z5 i
 have hm:o4 K ev w r d:=h.e i hi
 obtain ⟨es,c,aM,vG⟩:=hm
 refine aq.more ⟨?_,(Array.getElem?_eq_some_iff.1 aM).1,es,c,aM,vG⟩
 intro ji
 have aZ:r ∈ (aw.map K ev r d).fv:=by simp [aw.map]
 rcases List.mem_append.1 ji with bn | bn
 · have dO:=h.lj r bn
   rcases (h.lt r (List.mem_flatMap.2 ⟨_,List.mem_of_getElem? hi,aZ⟩)).2 with bI | bI
   · exact dO.2 bI
   · omega
 · obtain ⟨ag,af⟩:=List.getElem?_eq_some_iff.1 hi
   have fO:E=E.take i++E[i]::E.drop (i+ 1):=by simp
   have bG:=h.dM
   rw [fO,af] at bG
   have bI:aT (E.take i++aw.map K ev r d::E.drop (i+ 1))=aT (E.take i)++((aw.map K ev r d).fv++aT (E.drop (i+ 1))):=by simp [aT]
   rw [bI,List.nodup_append,List.nodup_append] at bG
   rw [List.eraseIdx_eq_take_drop_succ] at bn
   rcases List.mem_append.1 (by simpa [aT] using bn:r ∈ aT (E.take i)++aT (E.drop (i+ 1))) with df | df
   · exact bG.2.2 r df r (List.mem_append.2 (.inl aZ)) rfl
   · exact bG.2.1.2.2 r aZ r df rfl
end
section
variable {P:Program} {ops:Array Oper} {Q:Exit->Act->World->Prop} {a:Act} {w:World} {rest:List Oper} {o:Oper} {n:gE} {d:Nat} {l:List (Nat × Value)}
 {W:World} {aR X:List Nat} {E:List aw} {D:List ap}
theorem aD.aid {κ β:Type} [DecidableEq κ] (K:p6 κ) (ev:β->Value) (hm:aD W aR X w E D):aD W aR X (w.alloc (.map #[] 0)) (aw.map K ev w.heap.size ([]:List (κ × β))::E) D:=
 hm.push _ (aX.alloc _ _ _) (ah4 w) (fun k aZ=>by simp [aw.map] at aZ;subst aZ;exact ⟨Nat.le_refl _,by simp⟩) (by simp [aw.map])
theorem Fq {κ β:Type} [DecidableEq κ] {K:p6 κ} {ev:β->Value} {t kq kY:TypeId} {x y z:Operand} {r:Nat} {m:List (κ × β)} {q:κ} {v:β} (i:Nat) (hm:aD W aR X w E D) (hi:E[i]? =some (aw.map K ev r m)) (hw:Region.wanted o (yielded ops a.tmps)=true)
 (bt:P.underlying t=some (.map kq kY)) (aZ:P.underlying kq=some K.desc) (bc:o.op= .mapUpdate t x y z\/o.op= .insert t x y z) (af:a.eval x= .map (some r)) (hy:a.eval y=K.enc q) (cT:a.eval z=ev v) (bG:o.dst=none)
 (k:∀ az,aD W aR X az (E.set i (aw.map K ev r (gW m q v))) D->wpList P ops Q rest a az):wpList P ops Q (o::rest) a w:=by
 obtain ⟨az,aq,aC,bw⟩:=amq bt aZ (hm.e i hi) bc af hy cT
 exact Fs hw aq bG (k az (hm.rR i hi aC bw (by simp [aw.map]) (fun k aZ=>.inl aZ)))
end
end Gg
namespace Gg
open Go Go.RowKit Cin
section
variable {P:Program} {ops:Array Oper} {Q:Exit->Act->World->Prop} {a:Act} {w:World} {rest:List Oper} {o:Oper} {n:gE} {d:Nat} {l:List (Nat × Value)}
 {W:World} {aR X:List Nat} {E:List aw} {D:List ap}
theorem aD.pI {α:Type} {e sz g m:Nat} {cs:List Value} (h:aD W aR X w E D) (i:Nat) (li:List α) (hi:E[i]? =some (aw.br g e cs)) (ag:li.length=m) (hc:Nat.beq cs.length (m*sz)=true) (hm:Nat.ble m 1000000 =true):aD W aR X w (E.set i (aw.row e sz (.slice (some ⟨g,0,none⟩) m m) li cs)) D:=by
 have aM:w.heap[g]? =some (.cells cs.toArray e (0,0)):=h.e i hi
 have hc:=Nat.eq_of_beq_eq_true hc
 have hm:=Nat.le_of_ble_eq_true hm
 refine h.rR i hi (aX.refl _ _) ?_ (by simp [aw.row,Value.ownBlock]) (fun k aZ=>.inl (by simpa [aw.row,Value.ownBlock,aw.br] using aZ))
 show w.ownsRow 0 e sz (.slice (some ⟨g,0,none⟩) m m) li.length cs
 refine ⟨by rw [ag];exact hc,.inr ⟨g,m,cs.toArray,by rw [ag],Nat.zero_le _,aM,by omega,by simp only [maxLen];omega,by simpa using hc,?_⟩⟩
 rw [ag,<-hc,List.take_length]
theorem aD.B7 (h:aD W aR X w E D) {α:Type} {T:eJ α} {xs:List Value} {li:List α} (bm:fl T (hp (X++aT E) w) w xs li):aD W aR X w E (ap.rows T xs li::D):=h.more bm
theorem Ff {α:Type} {T:eJ α} {t e:TypeId} {x y:Operand} {z:Value} {bytes m c:Nat} {v:Value} {li ml l':List α} {xs cs:List Value} {ka:Addr} (i:Nat) (hm:aD W aR X w E D) (hi:E[i]? =some (aw.row e T.size v li xs))
 (jR:P.underlying t=some (.slice e)) (k9:(P.info? e).map (fun i=>(i.zero,i.size,i.bytes))=some (some z,T.size,bytes)) (cT:z.cells.size=T.size) (jS:0 <T.size)
 (bm:ei bytes li ml=some l') (s9:ml.length=m) (ki:0 <bytes)
 (gJ:fl T (hp (X++aT E) w) w xs li) (hcs:fl T (hp (X++aT E) w) w cs ml) (mA:∀ j u,cs[j]? =some u->w.cell? (ka.add j)=some u)
 (hw:Region.wanted o (yielded ops a.tmps)=true)
 (bc:o.op= .call { callee:=.builtin .append,args:=#[x,y],argTypes:=#[t,t] }) (af:a.eval x=v) (hy:a.eval y= .slice (some ka) m c) (I:Fr n l a) (bG:o.dst=some d) (ad:Nat.blt d n=true)
 (k:∀ bQ A dw az,aX v.ownBlock.toList w az->Fr n ((d,.slice A l'.length dw)::l) bQ->aD W aR X az (E.set i (aw.row e T.size (.slice A l'.length dw) l' (xs++cs))) (ap.rows T (xs++cs) l'::D)->wpList P ops Q rest bQ az):wpList P ops Q (o::rest) a w:=by
 obtain ⟨i0,Iz,El,QF,Qa⟩:=QY k9
 obtain ⟨H3,rfl⟩:=N3 bm
 have oa:w.ownsRow 0 e T.size v li.length xs:=hm.e i hi
 subst s9
 have Zj:li.length+ml.length<=maxLen:=by
  have aC:=Nat.le_mul_of_pos_right (li.length+ml.length) ki
  simp only [maxLen]
  omega
 obtain ⟨oN,az,py,aC,bw,_,jx⟩:=run_append_own_at (P:=P) w 0 t o.type e i0 z T.size bytes jR Iz El QF Qa cT jS v li.length xs oa ka ml.length c cs (Mk T hcs)
  mA (R8 T hcs) Zj H3 (Nat.zero_le _)
 have km:(aw.row e T.size oN (li++ml) (xs++cs)).ok az:=by
  show az.ownsRow 0 e T.size oN (li++ml).length (xs++cs)
  rw [List.length_append];exact aC
 obtain ⟨A,dw,rfl,_⟩:=Ms km
 have Bq:b5 P o a w (.slice A (li++ml).length dw) az:=by
  simp only [b5,execOp,bc,resolve,invoke,builtin,Sem.run_bind,Sem.run_pure,Result.andThen_ok,List.map_toArray,List.map_cons,List.map_nil,af,hy,py]
 have n':=hm.B7 (R7 T hcs gJ)
 refine bW hw Bq I bG ad fun bQ eN=>k bQ A dw az (aX.grown bw) eN (n'.rR i hi (aX.grown bw) km (LJ _) fun q dX=>?_)
 have Bc:(Value.slice A (li++ml).length dw).ownBlock=some q:=by simpa [aw.row] using dX
 rcases jx with ii | ii
 · left;simpa [aw.row,<-ii] using Bc
 · right
   rw [ii] at Bc
   injection Bc with Bc
   subst Bc
   refine ⟨Nat.le_refl _,?_⟩
   rcases aC.2 with ⟨U,_⟩ | ⟨z_,cap,cur,U,_,vu,_⟩
   · rw [U] at ii;simp [Value.ownBlock] at ii
   · rw [U] at ii
     have:z_=w.heap.size:=by simpa [Value.ownBlock] using ii
     subst this
     exact (Array.getElem?_eq_some_iff.1 vu).1
theorem lx {α:Type} {T:eJ α} {t e:TypeId} {x y:Operand} {z:Value} {bytes g m c:Nat} {v:Value} {li ml l':List α} {xs cs:List Value} (i j q:Nat) (hm:aD W aR X w E D) (hi:E[i]? =some (aw.row e T.size v li xs)) (bf:E[j]? =some (aw.br g e cs)) (dX:D[q]? =some (ap.rows T xs li))
 (jR:P.underlying t=some (.slice e)) (k9:(P.info? e).map (fun i=>(i.zero,i.size,i.bytes))=some (some z,T.size,bytes)) (cT:z.cells.size=T.size) (jS:Nat.blt 0 T.size=true)
 (bm:ei bytes li ml=some l') (s9:ml.length=m) (ki:Nat.blt 0 bytes=true) (hcs:fl T (hp (X++aT E) w) w cs ml)
 (hw:Region.wanted o (yielded ops a.tmps)=true)
 (bc:o.op= .call { callee:=.builtin .append,args:=#[x,y],argTypes:=#[t,t] }) (af:a.eval x=v) (hy:a.eval y= .slice (some ⟨g,0,none⟩) m c) (I:Fr n l a) (bG:o.dst=some d) (ad:Nat.blt d n=true)
 (k:∀ bQ A dw fD az,Fr n ((d,.slice A l'.length dw)::l) bQ->aD W aR X az ((E.set i (aw.row e T.size (.slice A l'.length dw) l' fD)).eraseIdx j) (ap.rows T fD l'::D)->wpList P ops Q rest bQ az):wpList P ops Q (o::rest) a w:=by
 have aM:=hm.e j bf
 exact Ff i hm hi jR k9 cT (Nat.le_of_ble_eq_true jS) bm s9 (Nat.le_of_ble_eq_true ki) (hm.d q dX) hcs (fun j u hu=>by rw [nL];simpa using wY aM hu) hw bc af hy I bG ad
  fun bQ A dw az _ eN gx=>k bQ A dw _ az eN (gx.z5 j)
theorem Mu {α:Type} {T:eJ α} {t e:TypeId} {x y:Operand} {z:Value} {bytes g m c:Nat} {v:Value} {li ml l':List α} {xs cs:List Value} (i j q:Nat) (hm:aD W aR X w E D) (hi:E[i]? =some (aw.row e T.size v li xs)) (bf:E[j]? =some (aw.br g e cs)) (dX:D[q]? =some (ap.rows T xs li))
 (jR:P.underlying t=some (.slice e)) (k9:(P.info? e).map (fun i=>(i.zero,i.size,i.bytes))=some (some z,T.size,bytes)) (cT:z.cells.size=T.size) (jS:Nat.blt 0 T.size=true)
 (bm:ei bytes li ml=some l') (s9:ml.length=m) (ki:Nat.blt 0 bytes=true) (hcs:fl T (hp (X++aT E) w) w cs ml)
 (hw:Region.wanted o (yielded ops a.tmps)=true)
 (bc:o.op= .call { callee:=.builtin .append,args:=#[x,y],argTypes:=#[t,t] }) (af:a.eval x=v) (hy:a.eval y= .slice (some ⟨g,0,none⟩) m c) (I:Fr n l a) (bG:o.dst=some d) (ad:Nat.blt d n=true)
 (k:∀ bQ A dw fD az,aX v.ownBlock.toList w az->Fr n ((d,.slice A l'.length dw)::l) bQ->aD W aR X az ((E.set i (aw.row e T.size (.slice A l'.length dw) l' fD)).eraseIdx j) (ap.rows T fD l'::D)->wpList P ops Q rest bQ az):wpList P ops Q (o::rest) a w:=by
 have aM:=hm.e j bf
 exact Ff i hm hi jR k9 cT (Nat.le_of_ble_eq_true jS) bm s9 (Nat.le_of_ble_eq_true ki) (hm.d q dX) hcs (fun j u hu=>by rw [nL];simpa using wY aM hu) hw bc af hy I bG ad
  fun bQ A dw az U eN gx=>k bQ A dw _ az U eN (gx.z5 j)
theorem al6 {t e:TypeId} {x y:Operand} {v:Value} {sz k:Nat} {xs:List Value} {z:Value} {bytes:Nat} (jR:P.underlying t=some (.slice e)) (k9:(P.info? e).map (fun i=>(i.zero,i.size,i.bytes))=some (some z,sz,bytes)) (oa:w.ownsRow 0 e sz v k xs)
 (bc:o.op= .call { callee:=.builtin .append,args:=#[x,y],argTypes:=#[t,t] }) (af:a.eval x=v) (hy:a.eval y= .slice none 0 0):b5 P o a w v w:=by
 obtain ⟨i0,Iz,El,QF,Qa⟩:=QY k9
 have py:=run_append_owned_none (P:=P) (w:=w) 0 t o.type e i0 sz jR Iz v k xs oa
 simp only [b5,execOp,bc,resolve,invoke,builtin,Sem.run_bind,Sem.run_pure,Result.andThen_ok,List.map_toArray,List.map_cons,List.map_nil,af,hy,py]
theorem wi {α:Type} {T:eJ α} {t e:TypeId} {x y:Operand} {z:Value} {bytes c:Nat} {v:Value} {li ml l':List α} {xs:List Value} {r3:Option Addr} (i q p:Nat) (hm:aD W aR X w E D) (hi:E[i]? =some (aw.row e T.size v li xs)) (dX:D[q]? =some (ap.rows T xs li)) (bD:D[p]? =some (ap.of (aU T) [.slice r3 ml.length c] ml))
 (jR:P.underlying t=some (.slice e)) (k9:(P.info? e).map (fun i=>(i.zero,i.size,i.bytes))=some (some z,T.size,bytes)) (cT:z.cells.size=T.size) (jS:Nat.blt 0 T.size=true)
 (bm:ei bytes li ml=some l') (ki:Nat.blt 0 bytes=true)
 (hw:Region.wanted o (yielded ops a.tmps)=true)
 (bc:o.op= .call { callee:=.builtin .append,args:=#[x,y],argTypes:=#[t,t] }) (af:a.eval x=v) (hy:a.eval y= .slice r3 ml.length c) (I:Fr n l a) (bG:o.dst=some d) (ad:Nat.blt d n=true)
 (k:∀ bQ A dw fD az,Fr n ((d,.slice A l'.length dw)::l) bQ->aD W aR X az (E.set i (aw.row e T.size (.slice A l'.length dw) l' fD)) (ap.rows T fD l'::D)->wpList P ops Q rest bQ az):wpList P ops Q (o::rest) a w:=by
 have gJ:=hm.d q dX
 have abB:(aU T).rd (hp (X++aT E) w) w [.slice r3 ml.length c] ml:=hm.d p bD
 obtain ⟨fJ,dL,bn,bI,df,fu,ii⟩:=abB
 simp only [List.cons.injEq,Value.slice.injEq,and_true,true_and] at bn
 obtain ⟨rfl,rfl⟩:=bn
 by_cases s9:ml= []
 · subst s9
   cases r3 with
   | none=>
     have xl:=fu rfl
     subst xl
     have oa:w.ownsRow 0 e T.size v li.length xs:=hm.e i hi
     have km:(aw.row e T.size v li xs).ok w:=hm.e i hi
     obtain ⟨A,dw,rfl,_⟩:=Ms km
     obtain ⟨_,rfl⟩:=N3 bm
     refine bW hw (al6 jR k9 oa bc af hy) I bG ad fun bQ eN=>?_
     have ag:li++[]=li:=List.append_nil li
     refine k bQ A dw xs w (by rw [ag];exact eN) ?_
     rw [ag]
     have fO:E.set i (aw.row e T.size (.slice A li.length dw) li xs)=E:=by
      obtain ⟨dO,he⟩:=List.getElem?_eq_some_iff.1 hi
      rw [<-he,List.set_getElem_self]
     rw [fO]
     exact hm.more gJ
   | some ka=>
     exact Ff (cs:=[]) i hm hi jR k9 cT (Nat.le_of_ble_eq_true jS) bm rfl (Nat.le_of_ble_eq_true ki) gJ rfl (fun j u hu=>by simp at hu) hw bc af hy I bG ad fun bQ A dw az _ eN gx=>k bQ A dw _ az eN gx
 · obtain ⟨h1,jL,cs,u5,u6⟩:=ii s9
   rw [h1] at hy
   exact Ff (cs:=cs) i hm hi jR k9 cT (Nat.le_of_ble_eq_true jS) bm rfl (Nat.le_of_ble_eq_true ki) gJ u5 (fun j u hu=>by rw [nL];exact u6 j u hu) hw bc af hy I bG ad fun bQ A dw az _ eN gx=>k bQ A dw _ az eN gx
theorem Mt {x:Value} {y:Nat} {code:BoundsCode} {k:IntKind} {i:Int} (af:x= .int k i) (h:0 <=i/\i<=y):(Instr.sliceBound x y code).run P w= .ok i.toNat w:=by
 subst af
 simp [Instr.sliceBound,asIntOf,h]
end
end Gg
namespace Gg
open Go Go.RowKit Cin
section
variable {α:Type} {T:eJ α}
theorem R9 {F:Nat->Prop} {w:World} {d':α} {w9:List Value} (dh:T.rd F w w9 d'):∀ {li:List α} {xs:List Value} {i:Nat},fl T F w xs li->i <li.length->fl T F w (xs.take (i*T.size)++w9++xs.drop (i*T.size+T.size)) (li.set i d')
 | [],_,i,_,hi=>by simp at hi
 | d::r,xs,0,h,_=>by
   obtain ⟨cs,ys,rfl,aq,aC⟩:=h
   have ag:=T.len aq
   refine ⟨w9,ys,?_,dh,aC⟩
   simp [<-ag]
 | d::r,xs,i+ 1,h,hi=>by
   obtain ⟨cs,ys,rfl,aq,aC⟩:=h
   have ag:=T.len aq
   have cb:=R9 dh aC (i:=i) (by simpa using hi)
   refine ⟨cs,_,?_,aq,cb⟩
   have bn:(i+ 1)*T.size=cs.length+i*T.size:=by rw [Nat.add_mul];omega
   rw [bn,List.take_append,List.take_of_length_le (by omega),show cs.length+i*T.size - cs.length=i*T.size by omega,List.drop_append,List.drop_of_length_le (l:=cs) (by omega),
    show cs.length+i*T.size+T.size - cs.length=i*T.size+T.size by omega]
   simp
end
theorem aj4 {β:Type} {L vs:List β} {p N:Nat} (aq:p+vs.length<=N) (aC:N<=L.length):(L.take p++vs++L.drop (p+vs.length)).take N=(L.take N).take p++vs++(L.take N).drop (p+vs.length):=by
 have ag:(L.take p++vs).length=p+vs.length:=by rw [List.length_append,List.length_take];omega
 rw [List.take_append,List.take_of_length_le (by omega),ag,List.take_take,Nat.min_eq_left (by omega),List.drop_take]
section
variable {P:Program} {ops:Array Oper} {Q:Exit->Act->World->Prop} {a:Act} {w:World} {rest:List Oper} {o:Oper} {n:gE} {d:Nat} {l:List (Nat × Value)}
 {W:World} {aR X:List Nat} {E:List aw} {D:List ap}
theorem VP {xs cs:List Value} {p:Nat} (h:∀ j u,cs[j]? =some u->xs[p+j]? =some u):(xs.drop p).take cs.length=cs:=by
 apply List.ext_getElem?
 intro j
 rw [List.getElem?_take]
 by_cases bf:j <cs.length
 · rw [if_pos bf,List.getElem?_drop,List.getElem?_eq_getElem bf]
   exact h j _ (List.getElem?_eq_getElem bf)
 · rw [if_neg bf,List.getElem?_eq_none (by omega)]
theorem aj5 {α:Type} {T:eJ α} {t e:TypeId} {x y:Operand} {A:Option Addr} {c kk sz:Nat} {li:List α} {xs cs0 vs:List Value} {z:Int} {d0 d':α} {v:Value} (i q:Nat) (hm:aD W aR X w E D) (hi:E[i]? =some (aw.row e T.size (.slice A li.length c) li xs)) (dX:D[q]? =some (ap.rows T xs li))
 (cT:idx li z=some d0) (hcs:T.rd (hp (X++aT E) w) w cs0 d0) (lM:hY w ⟨ct A,cy A+z.toNat*T.size,none⟩ cs0) (hw:Region.wanted o (yielded ops a.tmps)=true)
 (U:v.cells=vs.toArray) (aY:∀ w,(Go.sizeOf t).run P w= .ok sz w) (ag:Nat.beq vs.length sz=true) (aq:vs.all (·.oneCell')=true) (hle:Nat.ble (kk+vs.length) cs0.length=true)
 (vA:T.rd (hp (X++aT E) w) w (lay cs0 kk vs) d')
 (bc:o.op= .store t x y) (af:a.eval x= .pointer (some ⟨ct A,cy A+z.toNat*T.size+kk,none⟩)) (hy:a.eval y=v) (bG:o.dst=none)
 (k:∀ fD az,aX (Value.slice A li.length c).ownBlock.toList w az->aD W aR X az (E.set i (aw.row e T.size (.slice A li.length c) (li.set z.toNat d') fD)) (ap.rows T fD (li.set z.toNat d')::D)->wpList P ops Q rest a az):wpList P ops Q (o::rest) a w:=by
 obtain ⟨z0,yl,Gm⟩:=ti cT
 have hlen:vs.length=sz:=Nat.eq_of_beq_eq_true ag
 have Ec:kk+vs.length<=cs0.length:=Nat.le_of_ble_eq_true hle
 have xl:=T.len hcs
 have oa:w.ownsRow 0 e T.size (.slice A li.length c) li.length xs:=hm.e i hi
 have afa:fl T (hp (X++aT E) w) w xs li:=hm.d q dX
 rcases oa.2 with ⟨_,gQ⟩ | ⟨g,cap,cur,bn,_,c0,Ed,k6,aaK,J9⟩
 · omega
 simp only [Value.slice.injEq,true_and] at bn
 obtain ⟨rfl,rfl⟩:=bn
 have Zx:ct (some ⟨g,0,none⟩)=g:=rfl
 have adI:cy (some ⟨g,0,none⟩)= 0 :=rfl
 simp only [Zx,adI,Nat.zero_add] at af lM
 have hmul:(z.toNat+ 1)*T.size<=li.length*T.size:=Nat.mul_le_mul_right _ yl
 have anz:li.length*T.size<=c*T.size:=Nat.mul_le_mul_right _ Ed
 have anC:(z.toNat+ 1)*T.size=z.toNat*T.size+T.size:=by rw [Nat.add_mul,Nat.one_mul]
 have lN:xs.length=li.length*T.size:=oa.1
 have hold:(xs.drop (z.toNat*T.size)).take cs0.length=cs0:=VP fun j u bf=>by
  have:=lM j u bf
  have A3:j <cs0.length:=(List.getElem?_eq_some_iff.1 bf).1
  rw [World.ownsRow.cellAt oa (z.toNat*T.size+j) (by omega)] at this
  exact this
 have Eh:=run_storeCells_at P g (z.toNat*T.size+kk) e vs 0 cur w c0 (by omega) (fun u hu=>List.all_eq_true.1 aq u hu)
 simp only [Nat.add_zero] at Eh
 obtain ⟨p,bD⟩:∃ p,p=z.toNat*T.size+kk:=⟨_,rfl⟩
 rw [<-bD] at Eh af
 have anu:cur.toList.length=c*T.size:=by simpa using aaK
 obtain ⟨fD,Kd⟩:∃ fD,fD=xs.take p++vs++xs.drop (p+vs.length):=⟨_,rfl⟩
 have adE:fD=xs.take (z.toNat*T.size)++lay cs0 kk vs++xs.drop (z.toNat*T.size+T.size):=by
  rw [Kd,Ld _ _ _ Ec]
  have afc:xs=xs.take (z.toNat*T.size)++(cs0++xs.drop (z.toNat*T.size+T.size)):=by
   conv=>lhs;rw [<-List.take_append_drop (z.toNat*T.size) xs]
   congr 1
   rw [<-List.take_append_drop cs0.length (xs.drop (z.toNat*T.size)),hold,List.drop_drop,xl]
  have Eb:(xs.take (z.toNat*T.size)).length=z.toNat*T.size:=by rw [List.length_take];omega
  conv=>lhs;rw [afc]
  rw [List.take_append,List.take_of_length_le (by rw [Eb];omega),Eb,List.drop_append,List.drop_of_length_le (l:=xs.take (z.toNat*T.size)) (by rw [Eb];omega),Eb,
   show p - z.toNat*T.size=kk by omega,show p+vs.length - z.toNat*T.size=kk+vs.length by omega,List.take_append_of_le_length (by omega),List.drop_append_of_le_length (by omega)]
  simp
 have ags:fD.length=li.length*T.size:=by
  rw [Kd];simp only [List.length_append,List.length_take,List.length_drop];omega
 have km:(aw.row e T.size (.slice (some ⟨g,0,none⟩) li.length c) (li.set z.toNat d') fD).ok (w.setRow g (cur.toList.take p++vs++cur.toList.drop (p+vs.length)).toArray):=by
  show World.ownsRow _ 0 e T.size _ (li.set z.toNat d').length fD
  rw [List.length_set]
  refine ⟨ags,.inr ⟨g,c,(cur.toList.take p++vs++cur.toList.drop (p+vs.length)).toArray,rfl,Nat.zero_le _,?_,Ed,k6,?_,?_⟩⟩
  · simp only [World.setRow,Array.getElem?_modify,if_true,c0]
    rfl
  · simp only [List.size_toArray,List.length_append,List.length_take,List.length_drop];omega
  · rw [List.toList_toArray,Kd,<-J9]
    exact aj4 (by omega) (by omega)
 have agA:sq P o a w (w.setRow g (cur.toList.take p++vs++cur.toList.drop (p+vs.length)).toArray):=by
  simp only [sq,execOp,bc,af,hy]
  simp only [List.append_assoc,hlen] at Eh ⊢
  have ob:=U
  unfold Value.cells at ob
  simp [go_sem,Instr.storeAt,storeVar,aY,ob,hlen,Eh]
 have n':=hm.B7 (T:=T) (xs:=fD) (li:=li.set z.toNat d') (by rw [adE];exact R9 vA afa yl)
 have kl:aX (Value.slice (some ⟨g,0,none⟩) li.length c).ownBlock.toList w (w.setRow g (cur.toList.take p++vs++cur.toList.drop (p+vs.length)).toArray):=⟨rfl,rfl,rfl,by simp [World.setRow],fun b _ ad=>by
  simp only [World.setRow,Array.getElem?_modify]
  rw [if_neg (by simpa [Value.ownBlock,eq_comm] using ad)]⟩
 exact Fs hw agA bG (k fD _ kl (n'.rR i hi kl km (by simp [aw.row,Value.ownBlock]) (fun b aM=>.inl (by simpa [aw.row] using aM))))
theorem pP {α:Type} {T:eJ α} {t e:TypeId} {x y:Operand} {A:Option Addr} {c kk sz:Nat} {li gy:List α} {xs cs0 vs:List Value} {z:Int} {d0 d':α} {v:Value} (i q:Nat) (ac9:some (li.set z.toNat d')=some gy) (hm:aD W aR X w E D) (hi:E[i]? =some (aw.row e T.size (.slice A li.length c) li xs)) (dX:D[q]? =some (ap.rows T xs li))
 (cT:idx li z=some d0) (hcs:T.rd (hp (X++aT E) w) w cs0 d0) (lM:hY w ⟨ct A,cy A+z.toNat*T.size,none⟩ cs0) (hw:Region.wanted o (yielded ops a.tmps)=true)
 (U:v.cells=vs.toArray) (aY:∀ w,(Go.sizeOf t).run P w= .ok sz w) (ag:Nat.beq vs.length sz=true) (aq:vs.all (·.oneCell')=true) (hle:Nat.ble (kk+vs.length) cs0.length=true)
 (vA:T.rd (hp (X++aT E) w) w (lay cs0 kk vs) d')
 (bc:o.op= .store t x y) (af:a.eval x= .pointer (some ⟨ct A,cy A+z.toNat*T.size+kk,none⟩)) (hy:a.eval y=v) (bG:o.dst=none)
 (k:∀ fD az,li.length=gy.length->aX (Value.slice A li.length c).ownBlock.toList w az->aD W aR X az (E.set i (aw.row e T.size (.slice A li.length c) gy fD)) (ap.rows T fD gy::D)->wpList P ops Q rest a az):wpList P ops Q (o::rest) a w:=by
 obtain rfl:=Option.some.inj ac9
 exact aj5 i q hm hi dX cT hcs lM hw U aY ag aq hle vA bc af hy bG fun fD az=>k fD az (by rw [List.length_set])
theorem ajJ {A:Option Addr} {m c sz:Nat} {t e:TypeId} {lo hi:Option Value} {i j:Int} (bt:P.underlying t=some (.slice e)) (aY:∀ w,(Go.sizeOf e).run P w= .ok sz w)
 (n_:(lo=none/\i= 0)\/lo=some (.int .i64 i)) (n7:(hi=none/\j=m)\/hi=some (.int .i64 j)) (h:0 <=i/\i<=j/\j<=m) (xA:m<=c) :
 (Instr.slice t (.slice A m c) lo hi none).run P w= .ok (.slice (if c=i.toNat then A else A.map (·.add (i.toNat*sz))) (j.toNat - i.toNat) (c - i.toNat)) w:=by
 have aM:(Instr.sliceBounds true m c lo hi none).run P w= .ok (i.toNat,j.toNat,c) w:=by
  have wW:∀ code,(Instr.sliceBound (.int .i64 j) c code).run P w= .ok j.toNat w:=fun code=>Mt rfl (by omega)
  have su:∀ code,(Instr.sliceBound (.int .i64 i) j.toNat code).run P w= .ok i.toNat w:=fun code=>Mt rfl (by omega)
  have zu:j=m-> ∀ code,(Instr.sliceBound (.int .i64 i) m code).run P w= .ok i.toNat w:=fun e code=>Mt rfl (by omega)
  rcases n_ with ⟨rfl,rfl⟩ | rfl <;> rcases n7 with ⟨rfl,bf⟩ | rfl
  · simp [Instr.sliceBounds,bf]
  · simp [Instr.sliceBounds,wW]
  · simp [Instr.sliceBounds,zu bf,bf]
  · simp [Instr.sliceBounds,wW,su]
 simp [Instr.slice,run_underlying bt,aM,aY]
theorem Gl {A:Option Addr} {m c sz:Nat} {t e:TypeId} {x:Operand} {lo hi:Option Operand} {i j:Int} (bt:P.underlying t=some (.slice e)) (aY:∀ w,(Go.sizeOf e).run P w= .ok sz w) (bc:o.op= .slice t x lo hi none) (af:a.eval x= .slice A m c)
 (n_:(lo=none/\i= 0)\/ ∃ z,lo=some z/\a.eval z= .int .i64 i) (n7:(hi=none/\j=m)\/ ∃ z,hi=some z/\a.eval z= .int .i64 j) (h:0 <=i/\i<=j/\j<=m) (xA:m<=c) :
 b5 P o a w (.slice (if c=i.toNat then A else A.map (·.add (i.toNat*sz))) (j.toNat - i.toNat) (c - i.toNat)) w:=by
 have bm:=ajJ (P:=P) (w:=w) (A:=A) (m:=m) (c:=c) (lo:=lo.map a.eval) (hi:=hi.map a.eval) bt aY (i:=i) (j:=j)
  (n_.imp (fun h=>⟨by rw [h.1];rfl,h.2⟩) (fun ⟨z,aq,aC⟩=>by rw [aq,Option.map_some,aC])) (n7.imp (fun h=>⟨by rw [h.1];rfl,h.2⟩) (fun ⟨z,aq,aC⟩=>by rw [aq,Option.map_some,aC])) h xA
 simp only [b5,execOp,bc,af,Instr.sliceAt,Sem.run_bind,run_underlying bt,Result.andThen_ok,Option.map_none,bm]
 rfl
theorem HF {α:Type} {l r:List α} {i j:Int} (h:cut l i j=some r):(0 <=i/\i<=j/\j<=l.length)/\r=(l.take j.toNat).drop i.toNat:=by
 unfold cut at h
 split at h
 · rename_i bk;exact ⟨bk,by simpa using h.symm⟩
 · cases h
theorem Mi {α:Type} {T:eJ α} {F:Nat->Prop} {w:World}:∀ {l:List α} {xs:List Value} (i j:Nat),fl T F w xs l->fl T F w ((xs.take (j*T.size)).drop (i*T.size)) ((l.take j).drop i)
 | [],xs,i,j,h=>by
   have h:xs= []:=h
   subst h
   have e:(([]:List α).take j).drop i= []:=by simp
   rw [e]
   show List.drop _ (List.take _ _)= []
   simp
 | d::r,xs,i,0,h=>by
   have e:((d::r).take 0).drop i= []:=by simp
   rw [e]
   show List.drop _ (List.take _ _)= []
   simp
 | d::r,xs,0,j+ 1,h=>by
   obtain ⟨cs,ys,rfl,aq,aC⟩:=h
   have ag:=T.len aq
   have cb:=Mi 0 j aC
   simp only [Nat.zero_mul,List.drop_zero] at cb ⊢
   rw [List.take_succ_cons,show (j+ 1)*T.size=cs.length+j*T.size by rw [Nat.add_mul];omega,List.take_append,List.take_of_length_le (by omega),show cs.length+j*T.size - cs.length=j*T.size by omega]
   exact ⟨cs,_,rfl,aq,cb⟩
 | d::r,xs,i+ 1,j+ 1,h=>by
   obtain ⟨cs,ys,rfl,aq,aC⟩:=h
   have ag:=T.len aq
   have cb:=Mi i j aC
   rw [List.take_succ_cons,List.drop_succ_cons,show (j+ 1)*T.size=cs.length+j*T.size by rw [Nat.add_mul];omega,List.take_append,List.take_of_length_le (by omega),show cs.length+j*T.size - cs.length=j*T.size by omega,
    show (i+ 1)*T.size=cs.length+i*T.size by rw [Nat.add_mul];omega,List.drop_append,List.drop_of_length_le (l:=cs) (by omega),show cs.length+i*T.size - cs.length=i*T.size by omega,List.nil_append]
   exact cb
theorem Py {α:Type} {T:eJ α} {M:List Nat} {A:Option Addr} {c:Nat} {li r:List α} {i j:Int} (h:(ap.of (aU T) [.slice A li.length c] li).ok M w) (bm:cut li i j=some r) :
 (ap.of (aU T) [.slice (if c=i.toNat then A else A.map (·.add (i.toNat*T.size))) (j.toNat - i.toNat) (c - i.toNat)] r).ok M w/\j.toNat - i.toNat=r.length:=by
 obtain ⟨⟨bk,aq,aC⟩,rfl⟩:=HF bm
 obtain ⟨fJ,dL,bn,bI,df,fu,ii⟩:=h
 simp only [List.cons.injEq,Value.slice.injEq,and_true,true_and] at bn
 obtain ⟨rfl,rfl⟩:=bn
 have hlen:((li.take j.toNat).drop i.toNat).length=j.toNat - i.toNat:=by rw [List.length_drop,List.length_take];omega
 refine ⟨?_,hlen.symm⟩
 show (aU T).rd (hp M w) w _ _
 refine ⟨_,c - i.toNat,by rw [hlen],by rw [hlen];omega,by omega,fun hx=>?_,fun eS=>?_⟩
 · split at hx
   · have:=fu hx;omega
   · cases A with
     | none=>have:=fu rfl;omega
     | some ka=>cases hx
 · have Ef:0 <((li.take j.toNat).drop i.toNat).length:=List.length_pos_iff.2 eS
   have xz:li≠ []:=by intro e;subst e;simp at Ef
   obtain ⟨h1,jL,xs,u5,u6⟩:=ii xz
   have po:c≠i.toNat:=by omega
   rw [if_neg po,h1]
   refine ⟨?_,?_⟩
   · simp only [Option.map_some,nL]
     rfl
   simp only [Option.map_some,nL]
   refine ⟨jL,_,Mi i.toNat j.toNat u5,fun q u hu=>?_⟩
   have dX:(xs.take (j.toNat*T.size))[i.toNat*T.size+q]? =some u:=by rwa [List.getElem?_drop] at hu
   rw [List.getElem?_take] at dX
   split at dX
   · have:=u6 (i.toNat*T.size+q) u dX
     simpa [ct,cy,Nat.add_assoc] using this
   · cases dX
theorem DP {α:Type} {T:eJ α} {c:Nat} {A:Option Addr} {li r:List α} {i j:Int} {M:List Nat} {w:World} (bD:(ap.of (aU T) [.slice A li.length c] li).ok M w) (bm:cut li i j=some r) :
 ∃ iD dw,(ap.of (aU T) [.slice iD r.length dw] r).ok M w/\ ∀ {P:Program} {o:Oper} {a:Act} {t e:TypeId} {x:Operand} {lo hi:Option Operand},P.underlying t=some (.slice e)->(∀ w,(Go.sizeOf e).run P w= .ok T.size w)->o.op= .slice t x lo hi none->a.eval x= .slice A li.length c ->
   ((lo=none/\i= 0)\/ ∃ z,lo=some z/\a.eval z= .int .i64 i)->((hi=none/\j=(li.length:Int))\/ ∃ z,hi=some z/\a.eval z= .int .i64 j)-> ∀ w,b5 P o a w (.slice iD r.length dw) w:=by
 obtain ⟨aq,aC⟩:=Py bD bm
 have bk:=(HF bm).1
 have xA:li.length<=c:=by
  obtain ⟨fJ,dL,bn,bI,_⟩:=(bD:(aU T).rd _ w [.slice A li.length c] li)
  simp only [List.cons.injEq,Value.slice.injEq,and_true,true_and] at bn
  omega
 rw [aC] at aq
 refine ⟨_,_,aq,fun bt aY bc af n_ n7 w=>?_⟩
 have hy:=Gl (w:=w) (i:=i) (j:=j) bt aY bc af n_ n7 bk xA
 rw [aC] at hy
 exact hy
theorem ajT {α:Type} {T:eJ α} {t e c:Nat} {A:Option Addr} {li r:List α} {x:Operand} {lo hi:Option Operand} {i j:Int} (p:Nat) (hm:aD W aR X w E D) (bD:D[p]? =some (ap.of (aU T) [.slice A li.length c] li)) (bt:P.underlying t=some (.slice e)) (aY:∀ w,(Go.sizeOf e).run P w= .ok T.size w) (bm:cut li i j=some r)
 (hw:Region.wanted o (yielded ops a.tmps)=true) (bc:o.op= .slice t x lo hi none) (af:a.eval x= .slice A li.length c) (n_:(lo=none/\i= 0)\/ ∃ z,lo=some z/\a.eval z= .int .i64 i) (n7:(hi=none/\j=(li.length:Int))\/ ∃ z,hi=some z/\a.eval z= .int .i64 j)
 (I:Fr n l a) (bG:o.dst=some d) (ad:Nat.blt d n=true)
 (k:∀ bQ iD dw,Fr n ((d,.slice iD r.length dw)::l) bQ->aD W aR X w E (ap.of (aU T) [.slice iD r.length dw] r::D)->wpList P ops Q rest bQ w):wpList P ops Q (o::rest) a w:=by
 obtain ⟨aq,aC⟩:=Py (hm.d p bD) bm
 have bk:=(HF bm).1
 have xA:li.length<=c:=by
  obtain ⟨fJ,dL,bn,bI,_⟩:=(hm.d p bD:(aU T).rd _ w [.slice A li.length c] li)
  simp only [List.cons.injEq,Value.slice.injEq,and_true,true_and] at bn
  omega
 have hy:=Gl (P:=P) (w:=w) (i:=i) (j:=j) bt aY bc af n_ n7 bk xA
 rw [aC] at hy aq
 exact bW hw hy I bG ad fun bQ eN=>k bQ _ _ eN (hm.more aq)
end
end Gg
namespace Gg
open Go Go.RowKit Cin
section
variable {P:Program} {ops:Array Oper} {Q:Exit->Act->World->Prop} {a:Act} {w:World} {rest:List Oper} {o:Oper} {n:gE} {d:Nat} {l:List (Nat × Value)}
 {W:World} {aR X:List Nat} {E:List aw} {D:List ap}
theorem Fr.cS (I:Fr n l a) (t:Nat) {b c:Bool} (ag:fQ l t=some (.bool b)) (aM:b=c):Fr n ((t,.bool c)::l) a:=
 ⟨I.size,I.defers,fun u v h=>by
  simp only [fQ] at h
  cases Ii:Nat.beq t u with
  | true=>
    rw [Ii] at h
    simp only [Option.some.injEq] at h
    rw [<-Nat.eq_of_beq_eq_true Ii,<-h,<-aM]
    exact I.get t _ ag
  | false=>rw [Ii] at h;exact I.get u v h⟩
theorem DU {κ β:Type} [DecidableEq κ] {K:p6 κ} {ev:β->Value} {w az:World} {r:Nat} {m:List (κ × β)} (h:aX [] w az) (hm:o4 K ev w r m):o4 K ev az r m:=by
 obtain ⟨es,c,aq,aC⟩:=hm
 exact ⟨es,c,(h.block r (Array.getElem?_eq_some_iff.1 aq).1 (by simp)).trans aq,aC⟩
theorem jw {w bV l4:World} (h:aX [] w bV) (dh:aX [] bV l4):aX [] w l4:=h.trans dh (by simp)
theorem c5 {t:TypeId} {cs:List Value} (hw:Region.wanted o (yielded ops a.tmps)=true) (hy:b5 P o a w (.pointer (some ⟨w.heap.size,0,none⟩)) (w.alloc (.cells cs.toArray t))) (I:Fr n l a) (hm:aD W aR X w E D)
 (bG:o.dst=some d) (ad:Nat.blt d n=true) (k:∀ bQ g az,aX [] w az->Fr n ((d,.pointer (some ⟨g,0,none⟩))::l) bQ->aD W aR X az (aw.br g t cs::E) D->wpList P ops Q rest bQ az):wpList P ops Q (o::rest) a w:=
 bW hw hy I bG ad fun bQ eN=>k bQ _ _ (aX.alloc _ _ _) eN (hm.new t cs)
theorem gm {t:TypeId} {cs:List Value} {m:Nat} (hw:Region.wanted o (yielded ops a.tmps)=true) (hy:b5 P o a w (.slice (some ⟨w.heap.size,0,none⟩) m m) (w.alloc (.cells cs.toArray t))) (I:Fr n l a) (hm:aD W aR X w E D)
 (bG:o.dst=some d) (ad:Nat.blt d n=true) (k:∀ bQ g az,aX [] w az->Fr n ((d,.slice (some ⟨g,0,none⟩) m m)::l) bQ->aD W aR X az (aw.br g t cs::E) D->wpList P ops Q rest bQ az):wpList P ops Q (o::rest) a w:=
 bW hw hy I bG ad fun bQ eN=>k bQ _ _ (aX.alloc _ _ _) eN (hm.new t cs)
theorem EW {κ β:Type} [DecidableEq κ] {t:TypeId} (K:p6 κ) (ev:β->Value) (hw:Region.wanted o (yielded ops a.tmps)=true) (bc:o.op= .makeMap t none) (I:Fr n l a) (hm:aD W aR X w E D)
 (bG:o.dst=some d) (ad:Nat.blt d n=true) (k:∀ bQ r az,aX [] w az->Fr n ((d,.map (some r))::l) bQ->aD W aR X az (aw.map K ev r ([]:List (κ × β))::E) D->wpList P ops Q rest bQ az):wpList P ops Q (o::rest) a w:=
 bW hw (amp bc) I bG ad fun bQ eN=>k bQ _ _ (aX.alloc _ _ _) eN (hm.aid K ev)
theorem CM {t e:TypeId} {sz:Nat} (hu:P.underlying t=some (.slice e)) (aY:∀ w,(Go.sizeOf e).run P w= .ok sz w) (bc:o.op= .buildSlice t 0 (List.toArray [])) :
 b5 P o a w (.slice (some ⟨w.heap.size,0,none⟩) 0 0) (w.alloc (.cells (List.toArray []) e)):=by
 simp only [b5,execOp,bc,Instr.buildSlice,Sem.run_bind,Sem.run_pure,aY,Result.andThen_ok,run_underlying hu]
 simp [Instr.fill,newRow,go_sem]
theorem jr {S:World->Prop} {f p:Nat} {ds:List Nat} {v:Value} (i:Nat) (hi:ops[i]? =some o) (bt:(Ft ops ds i && !Nat.beq p i)=true) (hw:Region.wanted o (yielded ops a.tmps)=true) (hy:∀ az,b5 P o a az v az) (qx:S w)
 (I:Fr n l a) (bG:o.dst=some d) (ad:Nat.blt d n=true) (k:∀ bQ,Fr n ((d,v)::l) bQ->eH P ops Q p S f (i::ds) bQ w):eH P ops Q p S (f+ 1) ds a w:=by
 simp only [Bool.and_eq_true,Bool.not_eq_true'] at bt
 obtain ⟨m7,qQ⟩:=bt
 have Ba:p≠i:=fun e=>by rw [e] at qQ;simp at qQ
 simp only [Ft,Bool.and_eq_true] at m7
 refine ⟨fun _=>qx,?_⟩
 refine SU (v:=v) hi (Region.noSelect_spec m7.1.1) Ba (fun c a w h=>h) f _ a w (Region.free_spec hi m7.1.2) (fun _=>qx) (by simpa using m7.2) (.inl ⟨hw,fun w _=>hy w⟩) ?_
 rw [bG]
 exact (k _ (I.put ad)).2
theorem ajI {f:FuncId} {nU:Operand} {xs:List Operand} {jI:Array TypeId} {vs cs us:List Value}
 (bc:o.op= .call { callee:=.value nU,args:=xs.toArray,argTypes:=jI }) (vn:∀ args w,(callFunc f args).run P w= .ok (.enter f args) w) (vt:a.eval nU= .func (.func f) us.toArray cs.toArray)
 (gJ:sS a xs vs):(execOp a.eval o).run P w= .ok (.enter f (us++vs++cs).toArray) w:=by
 have aq:=DW gJ
 simp only [execOp,bc,resolve,List.map_toArray,aq,vt]
 simp [Deferred.ofValue,invoke,vn]
theorem j4 {f:FuncId} {nU:Operand} {xs:List Operand} {jI:Array TypeId} {vs cs us:List Value} {R:Ending->World->Prop} (hw:Region.wanted o (yielded ops a.tmps)=true)
 (bc:o.op= .call { callee:=.value nU,args:=xs.toArray,argTypes:=jI }) (vn:∀ args w,(callFunc f args).run P w= .ok (.enter f args) w) (vt:a.eval nU= .func (.func f) us.toArray cs.toArray)
 (gJ:sS a xs vs) (hc:Calls P f (us++vs++cs).toArray w R) (I:Fr n l a) (bG:o.dst=some d) (ad:Nat.blt d n=true)
 (k:∀ e az,R e az-> ∃ v,e= .returned v/\ ∀ bQ,Fr n ((d,v)::l) bQ->wpList P ops Q rest bQ az):wpList P ops Q (o::rest) a w:=by
 refine wpList_step fun K g2=>?_
 rw [if_pos hw]
 unfold Oper.wp
 rw [ajI bc vn vt gJ]
 refine hc.mono fun e az bm=>?_
 obtain ⟨v,rfl,aZ⟩:=k e az bm
 rw [bG]
 exact g2 _ _ (aZ _ (I.put ad))
end
section
variable {P:Program} {o:Oper} {a:Act} {w:World} {xs ys:Array Value}
theorem Vx {d sz:Nat} {f:Field} {l:List Field} {us vs:List Value} {e q:Prop} [Decidable e] [Decidable q] (ad:(f.name != "_")=true) (c0:∀ w,(isAgg f.type).run P w= .ok true w) (aY:∀ w,(Go.sizeOf f.type).run P w= .ok sz w)
 (af:xs.extract f.offset (f.offset+sz)=us.toArray) (hy:ys.extract f.offset (f.offset+sz)=vs.toArray) (dX:(Op.equalIn (d+ 1) f.type (.agg us.toArray) (.agg vs.toArray)).run P w= .ok (decide q) w)
 (h:(Op.eqFields (d+ 1) xs ys l).run P w= .ok (decide e) w):(Op.eqFields (d+ 1) xs ys (f::l)).run P w= .ok (decide (q/\e)) w:=by
 have vz:f.name≠ "_" :=by simpa using ad
 simp only [Op.eqFields,vz,if_true,ne_eq,not_false_iff,part,Sem.run_bind,c0,aY,Result.andThen_ok,af,hy,Sem.run_pure,dX]
 by_cases qO:q
 · simp [qO,h]
 · simp [qO]
theorem VI {d:Nat} {t:TypeId} {fV:Array Field} {q:Prop} [Decidable q] (bt:P.underlying t=some (.struct fV)) (bD:P.stoodInHeld t=false) (h:(Op.eqFields d xs ys fV.toList).run P w= .ok (decide q) w):(Op.equalIn (d+ 1) t (.agg xs) (.agg ys)).run P w= .ok (decide q) w:=by
 have I:P.fieldsOf t=fV:=by simp [Program.fieldsOf,bt]
 have dh:=run_equalIn_struct (P:=P) w d t xs ys (by rw [I];exact bt) bD
 rw [I,h] at dh
 exact dh
theorem DR {d:Nat} {f:Field} {l:List Field} {m n:List UInt8} {e:Prop} [Decidable e] (ad:(f.name != "_")=true) (hu:P.underlying f.type=some .string) (c0:∀ w,(isAgg f.type).run P w= .ok false w)
 (af:xs[f.offset]? =some (au m)) (hy:ys[f.offset]? =some (au n)) (h:(Op.eqFields (d+ 1) xs ys l).run P w= .ok (decide e) w):(Op.eqFields (d+ 1) xs ys (f::l)).run P w= .ok (decide (m=n/\e)) w:=by
 have vz:f.name≠ "_" :=by simpa using ad
 have heq:(Op.equalIn (d+ 1) f.type (au m) (au n)).run P w= .ok (decide (m=n)) w:=by
  simp only [Op.equalIn,Sem.run_bind,run_underlying hu,Result.andThen_ok]
  rw [<-G6 m n]
  rfl
 simp only [Op.eqFields,vz,if_true,ne_eq,not_false_iff,part,Sem.run_bind,c0,Result.andThen_ok,af,hy,Bool.false_eq_true,if_false,Sem.run_pure,heq]
 by_cases qO:m=n
 · subst qO;simp [h]
 · simp [qO]
end
section
variable {P:Program} {ops:Array Oper} {Q:Exit->Act->World->Prop} {a:Act} {w:World} {rest:List Oper} {o:Oper} {n:gE} {d:Nat} {l:List (Nat × Value)}
 {W:World} {aR X:List Nat} {E:List aw} {D:List ap}
theorem R' {F:Nat->Prop} {w:World}:∀ s:List UInt8,fl Fv F w (s.map fun b=>Value.int .u8 (b.toNat:Int)) s
 | []=>rfl
 | b::r=>⟨[.int .u8 (b.toNat:Int)],_,rfl,rfl,R' r⟩
theorem aic {t dH e:TypeId} {x:Operand} {s r:List UInt8} (bm:bytesOf s=some r) (bt:P.underlying t=some .string) (kn:P.underlying dH=some (.slice e)) (he:P.underlying e=some (.int .u8)) (hw:Region.wanted o (yielded ops a.tmps)=true)
 (bc:o.op= .convert t dH x) (af:a.eval x=au s) (I:Fr n l a) (hm:aD W aR X w E D) (bG:o.dst=some d) (ad:Nat.blt d n=true)
 (k:∀ bQ A c az,aX [] w az->Fr n ((d,.slice A r.length c)::l) bQ->aD W aR X az E (ap.of (aU Fv) [.slice A r.length c] r::D)->wpList P ops Q rest bQ az):wpList P ops Q (o::rest) a w:=by
 unfold bytesOf at bm
 split at bm
 · rename_i hle
   simp only [Option.some.injEq] at bm
   subst bm
   have py:=run_bytes_of_string (P:=P) w t dH e ⟨⟨s⟩⟩ bt kn he
   have jS:(⟨⟨s⟩⟩:ByteArray).size=s.length:=rfl
   have hc:=grownCap_ge w s.length 0 e
   have k6:=grownCap_le_maxLen w s.length 0 e (by simp only [maxLen];omega)
   obtain ⟨B,jg⟩:∃ B,B=bytesRow ⟨⟨s⟩⟩ (grownCap w s.length 0 e):=⟨_,rfl⟩
   obtain ⟨uS,xl⟩:∃ uS,uS=grownCap w s.length 0 e:=⟨_,rfl⟩
   rw [jS,<-jg,<-xl] at py
   rw [<-xl] at hc k6
   have hy:b5 P o a w (.slice (some ⟨w.heap.size,0,none⟩) s.length uS) (w.drew.alloc (.cells B e (B.size,B.size+ 1))):=by
    simp only [b5,execOp,bc,af,Sem.run_bind,py,Result.andThen_ok]
    rfl
   have kl:aX [] w (w.drew.alloc (.cells B e (B.size,B.size+ 1))):=(aX.drew [] w).trans (aX.alloc [] _ _) (by simp)
   have n':=hm.eD kl
   refine bW hw hy I bG ad fun bQ eN=>k bQ _ _ _ kl eN (n'.more ⟨_,_,rfl,hc,k6,(fun h=>by cases h),fun _=>⟨rfl,⟨?_,by show w.heap.size <_;simp⟩,_,R' s,fun j u bf=>?_⟩⟩)
   · intro aZ
     have:w.heap.size <w.heap.size:=by
      rcases List.mem_append.1 aZ with bn | bn
      · exact Nat.lt_of_lt_of_le (hm.lj _ bn).1 hm.ev.size
      · exact (hm.lt _ bn).1
     omega
   · rw [List.getElem?_map,Option.map_eq_some_iff] at bf
     obtain ⟨b,aM,rfl⟩:=bf
     obtain ⟨A3,hN⟩:=List.getElem?_eq_some_iff.1 aM
     have:=bytesRow_at ⟨⟨s⟩⟩ (grownCap w s.length 0 e) j (by simpa using A3)
     rw [<-jg] at this
     show World.cell? _ ⟨w.heap.size,0 +j,none⟩=_
     simp only [World.cell?,World.alloc]
     rw [show (w.drew.heap.push _)[w.heap.size]? =some _ from Array.getElem?_push_size (xs:=w.heap)]
     simp only [Nat.zero_add,this]
     simp [hN]
 · cases bm
end
end Gg
namespace Gg
open Go Go.RowKit Cin
section
variable {P:Program} {o:Oper} {a:Act} {w:World} {x y:Operand} {t dH e:TypeId}
theorem pW {A:Option Addr} {n c:Nat} (bt:P.underlying t=some (.slice e)) (bc:o.op= .binOp .eql t x y dH) (af:a.eval x= .slice A n c) (hy:a.eval y= .slice none 0 0):b5 P o a w (.bool A.isNone) w:=by
 have h:∀ d:Nat,(Op.equalIn (d+ 1) t (.slice A n c) (.slice none 0 0)).run P w= .ok A.isNone w:=fun d=>by
  cases A <;> simp [Op.equalIn,run_underlying bt]
 have aC:(binOp .eql t (.slice A n c) (.slice none 0 0)).run P w= .ok (.bool A.isNone) w:=by
  simp only [binOp]
  simp [Op.equal,Op.maxDepth,h 9999]
 simp only [b5,execOp,bc,af,hy]
 simp [go_sem,aC]
theorem BR {α:Type} {T:eJ α} {M:List Nat} {w:World} {n c:Nat} {l:List α} (h:(ap.of (aU T) [.slice none n c] l).ok M w):l= []/\n= 0 /\c= 0 :=by
 obtain ⟨A,dw,bn,bI,df,fu,ii⟩:=h
 simp only [List.cons.injEq,Value.slice.injEq,and_true] at bn
 obtain ⟨rfl,rfl,rfl⟩:=bn
 have hc:=fu rfl
 have ag:l.length= 0 :=by omega
 exact ⟨List.eq_nil_of_length_eq_zero ag,ag,hc⟩
theorem zX {α:Type} {b:Nat} {r:List α} (h:((Cin.ei b [] []).bind fun l=>some l)=some r):r= []:=by
 simp [Cin.ei] at h
 exact h
end
section
variable {P:Program} {Q:Exit->Act->World->Prop} {a:Act} {w:World}
def zs (P:Program) (c:Code) (Q:Exit->Act->World->Prop):Nat->Act->World->Prop
 | 0,_,_=>False
 | n+ 1,a,w=>c.wp P (Exit.then (zs P c Q n) Q) a w
theorem bH {c:Operand} {x y:Code} {t:Bool} {ρ:Type} {p q:Option ρ} {r:ρ} (hc:a.eval c= .bool t) (h:cond t p q=some r) (bt:t=true->p=some r->x.wp P Q a w) (I:t=false->q=some r->y.wp P Q a w):(Code.cond c x y).wp P Q a w:=
 wp_cond_split hc (fun e=>bt e (ew e h)) (fun e=>I e (eu e h))
theorem Pf {c:Code} (n:Nat) (h:zs P c Q n a w):(Code.loop c).wp P Q a w:=by
 refine dV (fun k a w=>zs P c Q k a w) n h (fun a w h=>h) fun k a w xg K g2=>?_
 exact wp_mono (h:=xg) fun e a w h=>by
  cases e with
  | normal=>exact g2 a w h
  | _=>exact h
theorem oM {c:Code} {n:Nat} (h:c.wp P (Exit.then (zs P c Q n) Q) a w):zs P c Q (n+ 1) a w:=h
end
end Gg
namespace Gg
open Go Go.RowKit Cin
section
variable {P:Program} {ops:Array Oper} {Q:Exit->Act->World->Prop} {a:Act} {w hk az:World} {rest:List Oper} {o:Oper} {n:gE} {d:Nat} {l:List (Nat × Value)}
 {W:World} {aR X:List Nat} {E:List aw} {D:List ap}
theorem aD.xX (h:aD W aR X w E D) {g:Nat} {t:TypeId} {cs:List Value} {x:aw} (i j:Nat) (hi:E[i]? =some (aw.br g t cs)) (bf:E[j]? =some x) (eS:i≠j):g ∉ x.fv:=fun aZ=>
 (DX h.dM i _ hi).2 j x bf eS g (by simp [aw.br]) aZ
theorem VN {g:Nat} (h:aX [] hk w) (dh:aX [g] w az) (c0:hk.heap.size<=g):aX [] hk az:=h.trans dh (fun x af=>.inr (by simp at af;omega))
theorem w' {M:List Nat} {p:Addr} {cs:List Value} (h:aX M w az) (ad:p.block ∉ M) (dO:p.block <w.heap.size) (hc:hY w p cs):hY az p cs:=hc.law (h.block p.block dO ad)
theorem aie {t:TypeId} {cs:List Value} (hw:Region.wanted o (yielded ops a.tmps)=true) (hy:b5 P o a w (.pointer (some ⟨w.heap.size,0,none⟩)) (w.alloc (.cells cs.toArray t))) (I:Fr n l a) (hm:aD W aR X w E D)
 (bG:o.dst=some d) (ad:Nat.blt d n=true) (k:∀ bQ g az,aX [] w az->w.heap.size<=g->Fr n ((d,.pointer (some ⟨g,0,none⟩))::l) bQ->aD W aR X az (aw.br g t cs::E) D->wpList P ops Q rest bQ az):wpList P ops Q (o::rest) a w:=
 bW hw hy I bG ad fun bQ eN=>k bQ _ _ (aX.alloc _ _ _) (Nat.le_refl _) eN (hm.new t cs)
theorem aj7 {g p sz:Nat} {t mN:TypeId} {x y:Operand} {cs vs:List Value} {v:Value} (i:Nat) (hm:aD W aR X w E D) (hi:E[i]? =some (aw.br g mN cs)) (hw:Region.wanted o (yielded ops a.tmps)=true)
 (U:v.cells=vs.toArray) (aY:∀ w,(Go.sizeOf t).run P w= .ok sz w) (ag:Nat.beq vs.length sz=true) (aq:vs.all (·.oneCell')=true) (hle:Nat.ble (p+vs.length) cs.length=true)
 (bc:o.op= .store t x y) (af:a.eval x= .pointer (some ⟨g,p,none⟩)) (hy:a.eval y=v) (bG:o.dst=none)
 (k:∀ az,aX [g] w az->aD W aR X az (E.set i (aw.br g mN (lay cs p vs))) D->wpList P ops Q rest a az):wpList P ops Q (o::rest) a w:=by
 obtain ⟨az,aq,aC,bw⟩:=Tz U aY ag aq hle (hm.e i hi) bc af hy
 exact Fs hw aq bG (k az aC (hm.rR i hi aC bw (by simp [aw.br]) (fun k aZ=>.inl aZ)))
end
end Gg
namespace Gg
open Go Go.RowKit Cin
def nq:List Oper->Bool
 | []=>true
 | o::r=>(match o.op with
   | .defer _=>false
   | _=>true) && nq r
theorem EX:∀ {l:List Oper},nq l=true-> ∀ o ∈ l,∀ c,o.op≠ .defer c
 | [],_,o,bc,_=>by simp at bc
 | p::r,h,o,bc,c=>by
   simp only [nq,Bool.and_eq_true] at h
   rcases List.mem_cons.1 bc with rfl | e
   · intro bI
     rw [bI] at h
     exact absurd h.1 (by simp)
   · exact EX h.2 o e c
def i' (ro:Option Nat):Fence:={ Fence.wide with round:=ro }
theorem Ml {ro:Option Nat} {q:Prop}:(i' ro).depth.isSome=true->q:=fun h=>by simp [i',Fence.wide] at h
section
variable {P:Program} {ops:Array Oper} {Q:Exit->Act->World->Prop} {K:Act->World->Prop} {a:Act} {w:World} {o:Oper} {ro:Option Nat} {n:Nat}
theorem LH (bG:∀ c,o.op≠ .defer c) (h:o.wp P a w K Q):o.wpIn (i' ro) n P a w K Q:=by
 unfold Oper.wpIn
 refine ⟨fun _ _=>trivial,?_⟩
 rw [Oper.semAt_eq _ _ _ bG]
 unfold Oper.wp at h
 generalize (execOp a.eval o).run P w=r at *
 cases r with
 | ok x az=>
   cases x <;> simp only [Oper.upon,Oper.uponIn] at h ⊢ <;> first
    | exact h
    | exact ⟨Ml,(callsIn_wide (n:=n - 1)).2 h⟩
    | exact ⟨Ml,fun c cs _=>let ⟨v,az,r,s⟩:=h c cs;⟨v,az,r,stepsIn_wide.2 s⟩⟩
 | halt x az=>cases x <;> simp only [Oper.upon,Oper.uponIn] at h ⊢ <;> exact h
theorem EB (fF:∀ a w,¬ Q .outgrown a w):∀ {os:List Oper} {a:Act} {w:World},nq os=true->wpList P ops Q os a w->wpListIn (i' ro) n P ops Q os a w
 | [],_,_,_,h=>h
 | o::r,a,w,bG,h=>by
   have vo:=bG
   simp only [nq,Bool.and_eq_true] at vo
   simp only [wpList] at h
   simp only [wpListIn]
   split
   · rename_i hw
     rw [if_pos hw] at h
     rcases h with h | ⟨_,bQ,az,h⟩
     · exact LH (EX bG o (by simp)) (Oper.wp_mono (fun a w h=>EB fF vo.2 h) h)
     · exact absurd h (fF _ _)
   · rename_i hw
     rw [if_neg hw] at h
     exact ⟨fun _ _=>trivial,EB fF vo.2 h⟩
theorem ahR (k:Nat) {lo:List Oper} (bG:nq (lo.take k)=true) (h:wpList P ops (Exit.then (wpListIn (i' ro) n P ops Q (lo.drop k)) (fun _ _ _=>False)) (lo.take k) a w):wpListIn (i' ro) n P ops Q lo a w:=by
 have key:∀ (os rest:List Oper) (a:Act) (w:World),nq os=true->wpList P ops (Exit.then (wpListIn (i' ro) n P ops Q rest) (fun _ _ _=>False)) os a w->wpListIn (i' ro) n P ops Q (os++rest) a w:=by
  intro os
  induction os with
  | nil=>intro rest a w _ h;exact h
  | cons o r cb=>
    intro rest a w bG h
    have vo:=bG
    simp only [nq,Bool.and_eq_true] at vo
    simp only [wpList] at h
    simp only [List.cons_append,wpListIn]
    split
    · rename_i hw
      rw [if_pos hw] at h
      rcases h with h | ⟨_,bQ,az,h⟩
      · have aq:=LH (ro:=ro) (n:=n) (EX bG o (by simp)) (Oper.wp_mono (fun a w h=>cb rest a w vo.2 h) h)
        refine ⟨aq.1,?_⟩
        have aC:=aq.2
        revert aC
        generalize (o.semAt (i' ro).round a.eval).run P w=aiL
        intro aC
        cases aiL with
        | ok x az=>
          cases x <;> simp only [Oper.uponIn] at aC ⊢ <;> first
           | exact aC
           | exact ⟨aC.1,CallsIn.mono aC.2 (fun e SK he=>by cases e <;> first | exact he | exact absurd he (by simp [Exit.then,LetsOut]))⟩
           | exact ⟨aC.1,RoundIn.mono aC.2 (fun e SK he=>by cases e <;> first | exact he | exact absurd he (by simp [Exit.then,LetsOut]))⟩
        | halt x az=>cases x <;> simp only [Oper.uponIn] at aC ⊢ <;> first | exact aC | exact absurd aC (by simp [Exit.then])
      · exact absurd h (by simp [Exit.then])
    · rename_i hw
      rw [if_neg hw] at h
      exact ⟨fun _ _=>trivial,cb rest _ _ vo.2 h⟩
 have:=key (lo.take k) (lo.drop k) a w bG h
 rwa [List.take_append_drop] at this
theorem ain (fF:∀ a w,¬ Q .outgrown a w) (bG:nq ops.toList=true) {i:Nat} (h:wpOp P ops Q i K a w):wpOpIn (i' ro) n P ops Q i K a w:=by
 unfold wpOp at h
 unfold wpOpIn
 split
 · rename_i bk
   rw [bk] at h
   exact h
 · rename_i o bc
   rw [bc] at h
   have hm:o ∈ ops.toList:=by
    have:=List.mem_of_getElem? (l:=ops.toList) (i:=i) (a:=o) (by rw [Array.getElem?_toList];exact bc)
    exact this
   simp only at h
   split
   · rename_i hw
     rw [if_pos hw] at h
     rcases h with h | ⟨_,bQ,az,h⟩
     · exact LH (EX bG o hm) h
     · exact absurd h (fF _ _)
   · rename_i hw
     rw [if_neg hw] at h
     exact ⟨fun _ _=>trivial,h⟩
theorem N0 (fF:∀ a w,¬ Q .outgrown a w) (bG:nq ops.toList=true):∀ {f:Nat} {fX:Array Bool} {a:Act} {w:World},wpAny P .any ops Q f fX a w->wpAnyIn (i' ro) n P .any ops Q f fX a w
 | 0,_,_,_,h=>h
 | f+ 1,fX,a,w,h=>⟨h.1,fun i hi=>ain fF bG (wpOp_mono (fun a w h=>N0 fF bG h) (h.2 i hi))⟩
end
def hZ (ro:Option Nat) (n:Nat) (P:Program) (c:Code) (Q:Exit->Act->World->Prop) (a:Act) (w:World):Prop:=(∀ a w,¬ Q .outgrown a w)->c.wpIn (i' ro) n P Q a w
section
variable {P:Program} {Q:Exit->Act->World->Prop} {a:Act} {w:World} {ro:Option Nat} {n:Nat}
theorem FA (h:Q .normal a w):hZ ro n P .skip Q a w:=fun _=>wpIn_skip h
theorem MU {id:Nat} (h:Q (.exit id) a w):hZ ro n P (.exit id) Q a w:=fun _=>wpIn_exit h
theorem lz {x y:Code} (h:∀ K:Act->World->Prop,(∀ a w,hZ ro n P y Q a w->K a w)->hZ ro n P x (Exit.then K Q) a w):hZ ro n P (.seq x y) Q a w:=
 fun fF=>wpIn_seq (h _ (fun _ _ h=>h fF) fF)
theorem MT {c:Operand} {x y:Code} {t:Bool} (hc:a.eval c= .bool t) (bt:t=true->hZ ro n P x Q a w) (I:t=false->hZ ro n P y Q a w):hZ ro n P (.cond c x y) Q a w:=
 fun fF=>wpIn_cond_split hc (fun e=>bt e fF) (fun e=>I e fF)
theorem aky {c:Operand} {x y:Code} {b:Bool} (hc:a.eval c= .bool b) (aM:b=false) (h:hZ ro n P y Q a w):hZ ro n P (.cond c x y) Q a w:=fun fF=>wpIn_cond_false (by rw [hc,aM]) (h fF)
theorem MR {id:Nat} {c:Code} (h:hZ ro n P c (Exit.inBlock id Q) a w):hZ ro n P (.block id c) Q a w:=fun fF=>wpIn_block (h fF)
theorem MS {id:Nat} {c:Code} (j_:Act->World->Prop) (af:∀ K:Act->World->Prop,(∀ a w,j_ a w->K a w)->hZ ro n P c (Exit.inBlock id (Exit.then K Q)) a w) (hy:∀ a w,j_ a w->Q .normal a w):hZ ro n P (.block id c) Q a w:=by
 intro fF
 refine wpIn_block (wpIn_mono (af _ hy fF) ?_)
 intro e a w h
 cases e with
 | exit i=>
   by_cases hi:i=id
   · simpa [Exit.inBlock,Exit.then,hi] using h
   · simpa [Exit.inBlock,Exit.then,hi] using h
 | _=>exact h
theorem SY {c:Code} (mg:Nat->Act->World->Prop) (k:Nat) (h:mg k a w) (bk:∀ a w,¬ mg 0 a w)
 (round:∀ k a w,mg (k+ 1) a w-> ∀ K:Act->World->Prop,(∀ a w,mg k a w->K a w)->hZ ro n P c (Exit.then K Q) a w):hZ ro n P (.loop c) Q a w:=by
 intro fF
 refine wpIn_loop (fun a w=>∃ n,mg n a w) (fun a w=>leastOf (fun n=>mg n a w)) ⟨k,h⟩ ?_
 intro a w xg
 have aq:=(leastOf_spec xg).1
 cases aZ:leastOf (fun n=>mg n a w) with
 | zero=>rw [aZ] at aq;exact absurd aq (bk a w)
 | succ m=>
   rw [aZ] at aq
   exact round m a w aq _ (fun bQ az dh=>⟨⟨m,dh⟩,Nat.lt_succ_of_le ((leastOf_spec ⟨m,dh⟩).2 m dh)⟩) fF
theorem mP {id:Nat} {l:List Oper} (bG:nq l=true) (h:wpList P l.toArray Q l a w):hZ ro n P (.region id l.toArray false) Q a w:=fun fF=>wpIn_region_lit (EB fF bG h)
theorem SX {id m:Nat} {lo:List Oper} (p:Nat) (S:World->World->Prop) (hm:P.follows .mixedOrders=true) (ag:Nat.beq lo.length m=true) (bG:nq lo=true) (h:∀ az,aX [] w az->eH P lo.toArray Q p (S az) m [] a az):hZ ro n P (.region id lo.toArray true) Q a w:=by
 have ag:=Nat.eq_of_beq_eq_true ag
 subst ag
 intro fF
 exact wpIn_mono (Q:=NoPanic Q) (wpIn_region_any hm (N0 (Q:=NoPanic Q) (fun a w=>fF a w) bG (h _ (aX.drew [] w)).wpAny)) NoPanic.imp
theorem akz {id:Nat} {l:List Oper} (h:(∀ a w,¬ Q .outgrown a w)->wpListIn (i' ro) n P l.toArray Q l a w):hZ ro n P (.region id l.toArray false) Q a w:=fun fF=>wpIn_region_lit (h fF)
end
def aw.obj (g:Nat) (o:Obj):aw where
 fv:=[g]
 ok w:=w.heap[g]? =some o
 law w az h aZ:=(h g (by simp)).trans aZ
section
variable {W w:World} {aR X:List Nat} {E:List aw} {D:List ap}
theorem VO (w:World) (g:Nat) (o:Obj):aX [g] w (w.putObj g o):=
 ⟨rfl,rfl,rfl,by simp,fun k _ ad=>World.putObj_heap_other (by simpa using ad)⟩
theorem aD.putObj {g:Nat} {o:Obj} (hm:aD W aR X w E D) (i:Nat) (hi:E[i]? =some (aw.obj g o)) (j3:Obj):aD W aR X (w.putObj g j3) (E.set i (aw.obj g j3)) D:=
 hm.rR i hi (VO w g j3) (by
   have h:w.heap[g]? =some o:=hm.e i hi
   exact World.putObj_heap_same (Array.getElem?_eq_some_iff.1 h).1) (by simp [aw.obj]) (fun k aZ=>.inl aZ)
theorem aD.newObj (hm:aD W aR X w E D) (o:Obj):aD W aR X (w.alloc o) (aw.obj w.heap.size o::E) D:=
 hm.push _ (aX.alloc _ _ _) (World.alloc_heap_new w o) (fun k aZ=>by simp [aw.obj] at aZ;subst aZ;exact ⟨Nat.le_refl _,by simp⟩) (by simp [aw.obj])
end
def mark (r:Nat):Deferred:={ target:=.collected r,args:=#[] }
theorem PH {P:Program} {f:FuncId} {fn:Func} {c:Code} {vs:List Value} {w:World} {R:Ending->World->Prop} {n:Nat}
 (I:P.funcs[f]? =some fn) (aM:fn.body=some c) (ad:fn.ntmps=n) (ag:Nat.ble vs.length n=true)
 (h:∀ a,Fr ⟨n,[]⟩ (sP 0 vs) a->c.wp P (bodyPostM Fence.wide 0 P fn R) a w):Calls P f vs.toArray w R:=by
 refine (callsIn_wide (n:=0)).1 (callsIn_of_wp_marks I aM trivial (wpIn_wide.2 ?_))
 rw [ad]
 exact h _ (Fr.init vs n ag)
section
variable {P:Program} {a:Act} {w:World} {W:World} {aR X:List Nat} {E:List aw} {D:List ap} {fn:Func} {R:Ending->World->Prop} {l:List (Nat × Value)} {n g t u:Nat} {v oN:Value}
theorem RB (i:Nat) (I:Fr ⟨n,[mark g]⟩ l a) (hm:aD W aR X w E D) (hi:E[i]? =some (aw.obj g (.deferred (some [])))) (h:∀ az,aD W aR X az (E.set i (aw.obj g (.deferred none))) D-> ∃ v,(results fn a.tmps).run P az= .ok v az/\R (.returned v) az) :
 bodyPostM Fence.wide 0 P fn R .ret a w:=by
 show LeavesInM Fence.wide 0 P fn a.tmps R a.defers .returning w
 rw [I.defers]
 exact ⟨by simp,.inl ⟨g,_,rfl,run_takeDeferred (hm.e i hi),h _ (hm.putObj i hi _)⟩⟩
theorem ahW (i:Nat) (bm:fn.results= #[.tmp t]) (I:Fr ⟨n,[mark g]⟩ l a) (hm:aD W aR X w E D) (hi:E[i]? =some (aw.obj g (.deferred (some [])))) (ag:fQ l t=some v)
 (h:∀ az,aD W aR X az (E.set i (aw.obj g (.deferred none))) D->R (.returned v) az):bodyPostM Fence.wide 0 P fn R .ret a w:=
 RB i I hm hi fun az gx=>⟨_,results_tmp bm _ _ _,by rw [I.get _ _ ag];exact h az gx⟩
theorem ahX (i:Nat) (bm:fn.results= #[.tmp t,.tmp u]) (I:Fr ⟨n,[mark g]⟩ l a) (hm:aD W aR X w E D) (hi:E[i]? =some (aw.obj g (.deferred (some [])))) (ag:fQ l t=some v) (xy:fQ l u=some oN)
 (h:∀ az,aD W aR X az (E.set i (aw.obj g (.deferred none))) D->R (.returned (.tuple #[v,oN])) az):bodyPostM Fence.wide 0 P fn R .ret a w:=
 RB i I hm hi fun az gx=>⟨_,results_tmp2 bm _ _ _,by rw [I.get _ _ ag,I.get _ _ xy];exact h az gx⟩
end
theorem Vv {P:Program} {f:FuncId} {fn:Func} {c:Code} {vs:List Value} {w:World} {R:Ending->World->Prop} {n:Nat}
 (I:P.funcs[f]? =some fn) (aM:fn.body=some c) (ad:fn.ntmps=n) (ag:Nat.ble vs.length n=true) (hA:∀ w,¬ R .outgrown w)
 (h:∀ a,Fr ⟨n,[]⟩ (sP 0 vs) a->hZ none 1 P c (bodyPost P fn R) a w):CallsIn (i' none) 1 P f vs.toArray w R:=by
 refine callsIn_of_wp I aM trivial ?_
 rw [ad]
 exact h _ (Fr.init vs n ag) (fun a w h=>hA w h)
theorem uQ {P:Program} {fn:Func} {R:Ending->World->Prop} {a:Act} {w:World} (h:bodyPost P fn R .ret a w):bodyPost P fn R .normal a w:=h
theorem SL {n:Nat} (h:n<=maxLen):Cin.ay ((n:Int) - 1)=(n:Int) - 1 :=by
 unfold Cin.ay
 simp only [maxLen] at h
 omega
theorem agF {iS pre rem:List Int} {x:Int} (h:iS=(x::rem).reverse++pre):Cin.idx iS (rem.length:Int)=some x:=by
 subst h
 unfold Cin.idx
 rw [if_pos (by omega)]
 simp
def NT (P:Program) (f:FuncId):Prop:=∀ (j_:List Int->World->Prop) (iS:List Int) (A:Option Addr) (c jf L:Nat) (hk:World),
 (∀ rem w,j_ rem w-> ∃ W aR X E,aD W aR X w E [ap.cF jf [.slice A iS.length c],ap.of (aU (ax .i64)) [.slice A iS.length c] iS]) ->
 (∀ x rem w,j_ (x::rem) w->YieldAt (i' none) 0 P L #[.int .i64 (rem.length:Int),.int .i64 x] w (fun e az=>e= .returned (.bool true)/\j_ rem az)) ->
 j_ iS.reverse hk->CallsIn (i' none) 1 P f #[.func (.yield L) #[] #[],.pointer (some ⟨jf,0,none⟩)] hk (fun e az=>(∃ v,e= .returned v)/\j_ [] az)
section
variable {P:Program} {ops:Array Oper} {Q:Exit->Act->World->Prop} {a:Act} {w:World} {rest:List Oper} {o:Oper} {n:gE} {d L:Nat} {l:List (Nat × Value)}
theorem ajN {nU:Operand} {xs:List Operand} {jI:Array TypeId} {vs:List Value} (bc:o.op= .call { callee:=.value nU,args:=xs.toArray,argTypes:=jI }) (vt:a.eval nU= .func (.yield L) #[] #[]) (gJ:sS a xs vs) :
 (execOp a.eval o).run P w=(Instr.yield L vs.toArray).run P w:=by
 have aq:=DW gJ
 simp only [execOp,bc,resolve,List.map_toArray,aq,vt]
 simp [Deferred.ofValue,invoke]
theorem amG {nU:Operand} {xs:List Operand} {jI:Array TypeId} {vs:List Value} {R:Ending->World->Prop} (hw:Region.wanted o (yielded ops a.tmps)=true) (bc:o.op= .call { callee:=.value nU,args:=xs.toArray,argTypes:=jI })
 (vt:a.eval nU= .func (.yield L) #[] #[]) (gJ:sS a xs vs) (hy:YieldAt (i' none) 0 P L vs.toArray w R) (I:Fr n l a) (bG:o.dst=some d) (ad:Nat.blt d n=true)
 (k:∀ e az,R e az-> ∃ v,e= .returned v/\ ∀ bQ,Fr n ((d,v)::l) bQ->wpListIn (i' none) 1 P ops Q rest bQ az):wpListIn (i' none) 1 P ops Q (o::rest) a w:=by
 refine wpListIn_step fun K g2=>?_
 rw [if_pos hw]
 refine ⟨fun _ _=>trivial,?_⟩
 obtain ⟨fn,tmps,assign,body,aq,aC⟩:=hy
 rw [Oper.semAt_eq _ _ _ (by rw [bc];simp),ajN bc vt gJ,aq]
 refine ⟨Ml,RoundIn.mono aC ?_⟩
 intro e az bm
 obtain ⟨v,rfl,aZ⟩:=k e az bm
 rw [bG]
 exact g2 _ _ (aZ _ (I.put ad))
end
section
variable {P:Program} {Q:Exit->Act->World->Prop} {a:Act} {w:World} {W:World} {aR X:List Nat} {E:List aw} {D:List ap}
theorem OT {β:Type} {xH Sy gY gd n jf c:Nat} {A:Option Addr} {l:List (Nat × Value)} {l1:Int->Int->List (Nat × Value)} {assign body:Code} (wJ:β->List aw) (sj:β->List ap) (rel:List Int->β->Prop) (iS:List Int) (wV:β) (g4 hS:Nat)
 (acU:NT P xH) (PG:∀ args w,(callFunc xH args).run P w= .ok (.enter xH args) w)
 (I:Fr ⟨n,[]⟩ l a) (c0:fQ l Sy=some (.func (.func xH) #[] #[.pointer (some ⟨jf,0,none⟩)])) (adK:Nat.blt gY n=true) (adL:Nat.blt gd n=true)
 (hm:aD W aR X w (wJ wV) (sj wV)) (bk:rel iS.reverse wV)
 (adO:∀ b,(sj b)[g4]? =some (ap.cF jf [.slice A iS.length c])) (adP:∀ b,(sj b)[hS]? =some (ap.of (aU (ax .i64)) [.slice A iS.length c] iS))
 (a':∀ L i x w bQ (K:Act->World->Prop),Fr ⟨n,[]⟩ ((gd,.int .i64 x)::(gY,.int .i64 i)::l) bQ->(∀ wT,Fr ⟨n,[]⟩ (l1 i x) wT->K wT w)->hZ (some L) 0 P assign (Exit.then K (fun _ _ _=>False)) bQ w)
 (aM:∀ L g tM jL tN b i x rem w bQ (K:Exit->Act->World->Prop),rel (x::rem) b->Fr ⟨n,[]⟩ (l1 i x) bQ->aD W aR X w (aw.obj g tM::aw.obj jL tN::wJ b) (sj b) ->
  (∀ p9 wT az,rel rem p9->aD W aR X az (aw.obj g tM::aw.obj jL tN::wJ p9) (sj p9)->K .normal wT az)->hZ (some L) 0 P body K bQ w)
 (abt:∀ g b bQ az,rel [] b->Fr ⟨n,[mark g]⟩ l bQ->aD W aR X az (aw.obj g (.deferred (some []))::wJ b) (sj b)->Q .normal bQ az) :
 (Code.rangeFunc (.tmp Sy) #[gY,gd] assign body).wp P Q a w:=by
 refine (wpIn_wide (n:=2)).1 (wpIn_rangeFunc fun fn _=>?_)
 obtain ⟨rec,tb⟩:∃ rec:LoopState->Loop,rec=fun st=>{ state:=st,pending:=none,fn,tmps:=a.tmps,params:=#[gY,gd],assign,body,defers:=w.heap.size }:=⟨_,rfl⟩
 obtain ⟨uN,P_⟩:∃ uN,(w.alloc (.deferred (some []))).alloc (.loop (rec .ready))=uN:=⟨_,rfl⟩
 have adz:aD W aR X uN (aw.obj (w.heap.size+ 1) (.loop (rec .ready))::aw.obj w.heap.size (.deferred (some []))::wJ wV) (sj wV):=by
  have:=(hm.newObj (.deferred (some []))).newObj (.loop (rec .ready))
  rw [P_] at this
  simpa using this
 refine ⟨w.heap.size+ 1,[mark w.heap.size],uN,{ target:=.fn (.func xH) #[.pointer (some ⟨jf,0,none⟩)],args:=#[.func (.yield (w.heap.size+ 1)) #[] #[]] },uN,xH,
  #[.func (.yield (w.heap.size+ 1)) #[] #[],.pointer (some ⟨jf,0,none⟩)],uN,?_,?_,fun _ _=>trivial,?_,fun _=>by decide,?_⟩
 · rw [<-P_,tb];exact run_enterLoop_outer _ _ _ _ _
 · have Ix:=I.g c0
   simp only [resolve,Ix]
   simp [go_sem]
 · simp [invoke,go_sem,PG]
 · refine CallsIn.mono (acU (fun rem az=>∃ b,rel rem b/\aD W aR X az (aw.obj (w.heap.size+ 1) (.loop (rec .ready))::aw.obj w.heap.size (.deferred (some []))::wJ b) (sj b)) iS A c jf (w.heap.size+ 1) uN ?_ ?_ ⟨wV,bk,adz⟩) ?_
   · rintro rem az ⟨b,_,gx⟩
     exact ⟨_,_,_,_,gx.less fun y hy=>by
      simp only [List.mem_cons,List.not_mem_nil,or_false] at hy
      rcases hy with rfl | rfl
      · exact List.mem_of_getElem? (adO b)
      · exact List.mem_of_getElem? (adP b)⟩
   · rintro x rem az ⟨b,bm,gx⟩
     have ag:az.heap[w.heap.size+ 1]? =some (.loop (rec .ready)):=gx.e 0 rfl
     have hy:=run_yield (P:=P) (args:=#[.int .i64 (rem.length:Int),.int .i64 x]) ag (by rw [tb];rfl)
     rw [tb] at hy
     refine ⟨fn,_,assign,body,hy,roundIn_of_wpIn trivial ?_⟩
     have abA:Fr ⟨n,[]⟩ ((gd,.int .i64 x)::(gY,.int .i64 (rem.length:Int))::l) ⟨((#[gY,gd]:Array Tmp).zip #[Value.int .i64 (rem.length:Int),.int .i64 x]).foldl (fun tmps (x:Tmp × Value)=>tmps.setIfInBounds x.1 x.2) a.tmps,[]⟩:=by
      have aq:=(I.put (v:=.int .i64 (rem.length:Int)) adK).put (v:=.int .i64 x) adL
      have e:((#[gY,gd]:Array Tmp).zip #[Value.int .i64 (rem.length:Int),.int .i64 x]).foldl (fun tmps (x:Tmp × Value)=>tmps.setIfInBounds x.1 x.2) a.tmps=((a.put (some gY) (.int .i64 (rem.length:Int))).put (some gd) (.int .i64 x)).tmps:=by simp [Act.put]
      refine ⟨?_,rfl,?_⟩
      · simp only [e];exact aq.size
      · simp only [e];exact aq.get
     refine a' (w.heap.size+ 1) _ _ az _ _ abA ?_ (fun a w h=>h)
     intro wT abz
     have n':=gx.putObj 0 rfl (.loop { rec .ready with state:=.busy })
     refine ⟨_,run_beginRound ag (by rw [tb]),?_⟩
     refine aM (w.heap.size+ 1) _ _ _ _ b _ x rem _ wT _ bm abz n' ?_ (fun a w h=>h)
     intro p9 a3 ly Bd A6
     have JG:ly.heap[w.heap.size+ 1]? =some (.loop { rec .ready with state:=.busy }):=A6.e 0 rfl
     refine ⟨_,_,run_endRound none JG,rfl,p9,Bd,?_⟩
     have A7:=A6.putObj 0 rfl (.loop (rec .ready))
     rw [tb] at A7 ⊢
     exact A7
   · rintro e ly ⟨⟨v,rfl⟩,b,bm,A6⟩
     have JG:ly.heap[w.heap.size+ 1]? =some (.loop (rec .ready)):=A6.e 0 rfl
     have he:=run_endLoop (P:=P) JG (by rw [tb];simp)
     rw [tb] at he
     refine ⟨none,_,he,?_⟩
     have A7:=A6.putObj 0 rfl (.loop { rec .ready with state:=.exhausted })
     rw [tb] at A7
     refine abt w.heap.size b _ _ bm ⟨I.size,?_,I.get⟩ (A7.drop (List.sublist_cons_self _ _))
     show [mark w.heap.size]++a.defers= [mark w.heap.size]
     rw [I.defers];rfl
end
end Gg
namespace Gg
open Go Go.RowKit Cin
def ap.wm:ap:=⟨fun _ _=>True,fun _ _ _ _ _ _ _=>trivial⟩
def ap.dA {α:Type} (o:Option α) (f:α->ap):ap:=match o with
 | none=>ap.wm
 | some x=>f x
def eO {α:Type} (o:Option α) (g:Nat):Option Addr:=match o with
 | none=>none
 | some _=>some ⟨g,0,none⟩
section
variable {P:Program} {ops:Array Oper} {Q:Exit->Act->World->Prop} {a:Act} {w:World} {rest:List Oper} {o:Oper} {n:gE} {d:Nat} {l:List (Nat × Value)}
 {W:World} {aR X:List Nat} {E:List aw} {D:List ap}
theorem aD.none (h:aD W aR X w E D) {α:Type} (f:α->ap):aD W aR X w E (ap.dA (Option.none:Option α) f::D):=h.more (y:=ap.dA (Option.none:Option α) f) trivial
theorem aj3 {α:Type} {T:eJ α} {t e:TypeId} {x y:Operand} {z:Value} {bytes:Nat} {k:Int} {z0:α} {r:List α}
 (hm:aD W aR X w E D) (jR:P.underlying t=some (.slice e)) (k9:(P.info? e).map (fun i=>(i.zero,i.size,i.bytes))=some (some z,1,bytes)) (xD:z.cells= #[z]) (vi:T.size= 1)
 (xC:∀ F w,T.rd F w [z] z0) (ki:Nat.ble 1 bytes=true) (bm:EE z0 bytes k=some r) (hw:Region.wanted o (yielded ops a.tmps)=true) (bc:o.op= .makeSlice t x y) (af:a.eval x= .int .i64 k) (hy:a.eval y= .int .i64 k)
 (I:Fr n l a) (bG:o.dst=some d) (ad:Nat.blt d n=true)
 (next:∀ bQ A c xs az,aX [] w az->Fr n ((d,.slice A r.length c)::l) bQ->aD W aR X az (aw.row e T.size (.slice A r.length c) r xs::E) (ap.rows T xs r::D)->wpList P ops Q rest bQ az):wpList P ops Q (o::rest) a w:=by
 obtain ⟨bk,aq,rfl⟩:=aia bm
 obtain ⟨m,rfl⟩:=Int.eq_ofNat_of_zero_le bk
 simp only [Int.toNat_natCast] at *
 have ki:=Nat.le_of_ble_eq_true ki
 have hle:m<=bytes*m:=Nat.le_mul_of_pos_left m ki
 have py:=run_make_row' (P:=P) t e z bytes jR k9 xD .i64 .i64 m (by omega) (by omega) w
 have Bq:b5 P o a w (.slice (some ⟨w.heap.size,0,none⟩) m m) (w.alloc (.cells (madeCells #[z] m) e)):=by
  simp only [b5,execOp,bc,af,hy,Sem.run_bind,py,Result.andThen_ok,Sem.run_pure]
 have km:(aw.row e T.size (.slice (some ⟨w.heap.size,0,none⟩) m m) (List.replicate m z0) (List.replicate m z)).ok (w.alloc (.cells (madeCells #[z] m) e)):=by
  refine ⟨by simp [vi],.inr ⟨w.heap.size,m,madeCells #[z] m,by simp,Nat.zero_le _,heap_alloc_new w _,by simp,by simp only [maxLen];omega,by simp [size_madeCells,vi],?_⟩⟩
  rw [toList_madeCells_one]
  simp [vi]
 have aeZ:∀ (F:Nat->Prop) (w:World) (q:Nat),fl T F w (List.replicate q z) (List.replicate q z0):=by
  intro F w q
  induction q with
  | zero=>rfl
  | succ q cb=>exact ⟨[z],List.replicate q z,rfl,xC F w,cb⟩
 have n':=hm.push (aw.row e T.size (.slice (some ⟨w.heap.size,0,none⟩) m m) (List.replicate m z0) (List.replicate m z)) (aX.alloc [] w _) km (fun q dX=>by
  have:q=w.heap.size:=by simpa [aw.row,Value.ownBlock,eq_comm] using dX
  subst this;simp) (by simp [aw.row,Value.ownBlock])
 refine bW hw Bq I bG ad fun bQ eN=>next bQ (some ⟨w.heap.size,0,none⟩) m (List.replicate m z) _ (aX.alloc [] w _) ?_ ?_
 · simpa using eN
 · have:=n'.B7 (T:=T) (xs:=List.replicate m z) (li:=List.replicate m z0) (aeZ _ _ m)
   simpa using this
theorem Sc {α:Type} {T:eJ α} {z:Value} {z0:α} (xC:∀ F w,T.rd F w [z] z0) (F:Nat->Prop) (w:World):∀ q:Nat,fl T F w (List.replicate q z) (List.replicate q z0)
 | 0 =>rfl
 | q+ 1 =>⟨[z],List.replicate q z,rfl,xC F w,Sc xC F w q⟩
theorem ajS {α:Type} {T:eJ α} {t MG e:TypeId} {x y:Operand} {z:Value} {bytes:Nat} {k:Int} {z0:α} {r:List α}
 (hm:aD W aR X w E D) (jR:P.underlying t=some (.slice e)) (XM:P.underlying MG=some (.int .i64)) (k9:(P.info? e).map (fun i=>(i.zero,i.size,i.bytes))=some (some z,1,bytes)) (xD:z.cells= #[z]) (vi:T.size= 1)
 (xC:∀ F w,T.rd F w [z] z0) (ki:Nat.ble 1 bytes=true) (bm:zt z0 bytes k=some r) (hw:Region.wanted o (yielded ops a.tmps)=true) (bc:o.op= .call { callee:=.builtin .append,args:=#[x,y],argTypes:=#[t,MG] })
 (af:a.eval x= .slice none 0 0) (hy:a.eval y= .int .i64 k) (I:Fr n l a) (bG:o.dst=some d) (ad:Nat.blt d n=true)
 (next:∀ bQ A c xs az,aX [] w az->Fr n ((d,.slice A r.length c)::l) bQ->aD W aR X az (aw.row e T.size (.slice A r.length c) r xs::E) (ap.rows T xs r::D)->wpList P ops Q rest bQ az):wpList P ops Q (o::rest) a w:=by
 obtain ⟨bk,aq,rfl⟩:=TN bm
 obtain ⟨m,rfl⟩:=Int.eq_ofNat_of_zero_le (Int.le_of_lt bk)
 simp only [Int.toNat_natCast] at *
 have ki:=Nat.le_of_ble_eq_true ki
 have hle:m<=bytes*m:=Nat.le_mul_of_pos_left m ki
 obtain ⟨i0,hi,QV⟩:=Option.map_eq_some_iff.1 k9
 simp only [Prod.mk.injEq] at QV
 obtain ⟨cT,aY,aM⟩:=QV
 have py:=Lib.run_append_nil_zeros (P:=P) w t MG o.type e i0 z .i64 .i64 jR XM hi cT m (by omega) (by omega) (by omega) (by rw [aM,Nat.mul_comm];omega)
 let cap:=grownCap w m 0 e
 have Qd:m<=cap:=grownCap_ge w m 0 e
 have AU:cap<=maxLen:=grownCap_le_maxLen w m 0 e (by simp only [maxLen];omega)
 have agB:∀ q,(Builtin.zeroCells z.cells q).toList=List.replicate q z:=by
  intro q
  rw [xD]
  apply List.ext_getElem
  · simp [Builtin.zeroCells]
  · intro j aq aC
    simp [Builtin.zeroCells,Nat.mod_one]
 let cur:=Builtin.zeroCells z.cells m++Builtin.zeroCells z.cells (cap - m)
 have hcs:cur.size=cap:=by simp only [cur,Array.size_append,size_zeroCells,xD];simp;omega
 have Bq:b5 P o a w (.slice (some ⟨w.heap.size,0,none⟩) m cap) (w.drew.alloc (.cells cur e)):=by
  simp only [b5,execOp,bc,resolve,invoke,builtin,Sem.run_bind,Sem.run_pure,Result.andThen_ok,List.map_toArray,List.map_cons,List.map_nil,af,hy,py,cap,cur]
 have kl:aX [] w (w.drew.alloc (.cells cur e)):=(aX.drew [] w).trans (aX.alloc [] w.drew (.cells cur e)) (by simp)
 have D7:w.drew.heap.size=w.heap.size:=rfl
 have km:(aw.row e T.size (.slice (some ⟨w.heap.size,0,none⟩) m cap) (List.replicate m z0) (List.replicate m z)).ok (w.drew.alloc (.cells cur e)):=by
  refine ⟨by simp [vi],.inr ⟨w.heap.size,cap,cur,by simp,Nat.zero_le _,?_,by simpa using Qd,AU,by simp [hcs,vi],?_⟩⟩
  · rw [<-D7];exact heap_alloc_new w.drew _
  · simp only [cur,Array.toList_append,agB,vi,List.length_replicate,Nat.mul_one]
    rw [List.take_append_of_le_length (by simp),List.take_of_length_le (by simp)]
 have n':=hm.push (aw.row e T.size (.slice (some ⟨w.heap.size,0,none⟩) m cap) (List.replicate m z0) (List.replicate m z)) kl km (fun q dX=>by
  have:q=w.heap.size:=by simpa [aw.row,Value.ownBlock,eq_comm] using dX
  subst this;simp) (by simp [aw.row,Value.ownBlock])
 refine bW hw Bq I bG ad fun bQ eN=>next bQ (some ⟨w.heap.size,0,none⟩) cap (List.replicate m z) _ kl ?_ ?_
 · simpa using eN
 · have:=n'.B7 (T:=T) (xs:=List.replicate m z) (li:=List.replicate m z0) (Sc xC _ _ m)
   simpa using this
theorem ajU {α:Type} {T:eJ α} {t e c:Nat} {A:Option Addr} {li:List α} {xs:List Value} {x:Operand} {lo hi:Option Operand} (i:Nat) (hm:aD W aR X w E D) (s8:E[i]? =some (aw.row e T.size (.slice A li.length c) li xs))
 (bt:P.underlying t=some (.slice e)) (aY:∀ w,(Go.sizeOf e).run P w= .ok T.size w) (hw:Region.wanted o (yielded ops a.tmps)=true) (bc:o.op= .slice t x lo hi none) (af:a.eval x= .slice A li.length c)
 (n_:(lo=none/\(0 :Int)= 0)\/ ∃ z,lo=some z/\a.eval z= .int .i64 0) (n7:∃ z,hi=some z/\a.eval z= .int .i64 0) (I:Fr n l a) (bG:o.dst=some d) (ad:Nat.blt d n=true)
 (next:∀ bQ,Fr n ((d,.slice A ([]:List α).length c)::l) bQ->aD W aR X w (E.set i (aw.row e T.size (.slice A ([]:List α).length c) ([]:List α) [])) (ap.rows T [] ([]:List α)::D)->wpList P ops Q rest bQ w):wpList P ops Q (o::rest) a w:=by
 have JO:w.ownsRow 0 e T.size (.slice A li.length c) li.length xs:=hm.e i s8
 obtain ⟨iD,dw,U,hle,_,Ed,hx⟩:=Ms (hm.e i s8)
 simp only [Value.slice.injEq,true_and] at U
 obtain ⟨rfl,rfl⟩:=U
 have hy:=Gl (P:=P) (w:=w) (a:=a) (o:=o) bt aY bc af n_ (.inr n7) (i:=0) (j:=0) ⟨Int.le_refl _,Int.le_refl _,by omega⟩ hle
 have hAdd:(if c=(0 :Int).toNat then A else A.map (·.add ((0 :Int).toNat*T.size)))=A:=by
  split
  · rfl
  · cases P6:A with
    | none=>rfl
    | some ka=>
      have:=hx (by rw [P6];simp)
      rw [P6] at this
      simp only [Option.some.injEq] at this
      rw [this,Option.map_some,nL]
      simp
 rw [hAdd] at hy
 have hy:b5 P o a w (.slice A ([]:List α).length c) w:=by simpa using hy
 have km:(aw.row e T.size (.slice A ([]:List α).length c) ([]:List α) []).ok w:=by
  refine ⟨by simp,?_⟩
  rcases JO.2 with ⟨bn,bI⟩ | ⟨g,cap,cur,bn,bI,df,fu,ii,u3,_⟩
  · left
    simp only [Value.slice.injEq] at bn
    obtain ⟨rfl,_,rfl⟩:=bn
    exact ⟨rfl,rfl⟩
  · right
    simp only [Value.slice.injEq] at bn
    obtain ⟨rfl,_,rfl⟩:=bn
    exact ⟨g,c,cur,rfl,bI,df,Nat.zero_le _,ii,u3,by simp⟩
 refine bW hw hy I bG ad fun bQ eN=>next bQ eN ?_
 refine (hm.more (y:=ap.rows T [] ([]:List α)) rfl).rR i s8 (aX.refl _ _) km (LJ _) (fun q dX=>.inl (by
  cases A with
  | none=>simp [aw.row,Value.ownBlock] at dX
  | some ka=>simpa [aw.row,Value.ownBlock] using dX))
theorem ama {t e:TypeId} {sz:Nat} {x:Operand} {lo hi:Option Operand} (bt:P.underlying t=some (.slice e)) (aY:∀ w,(Go.sizeOf e).run P w= .ok sz w) (bc:o.op= .slice t x lo hi none) (af:a.eval x= .slice none 0 0)
 (n_:(lo=none/\(0 :Int)= 0)\/ ∃ z,lo=some z/\a.eval z= .int .i64 0) (n7:(hi=none/\(0 :Int)=(0 :Nat))\/ ∃ z,hi=some z/\a.eval z= .int .i64 0):b5 P o a w (.slice none 0 0) w:=by
 have h:=Gl (P:=P) (w:=w) bt aY bc af n_ n7 (i:=0) (j:=0) ⟨Int.le_refl _,Int.le_refl _,by omega⟩ (Nat.le_refl 0)
 simpa using h
theorem Tw {t e:TypeId} {A:Option Addr} {m c:Nat} {x:Operand} (bt:P.underlying t=some (.slice e)) (bc:o.op= .call { callee:=.builtin .cap,args:=#[x],argTypes:=#[t] }) (af:a.eval x= .slice A m c):b5 P o a w (.int .i64 c) w:=by
 simp [b5,execOp,bc,resolve,invoke,builtin,Builtin.cap_,af,run_underlying bt,goInt]
theorem al_ {t dH:TypeId} {x:Operand} {m:Int} (bt:P.underlying t=some (.int .i64)) (kn:P.underlying dH=some (.int .u64)) (bc:o.op= .convert t dH x) (af:a.eval x= .int .i64 m):b5 P o a w (.int .u64 (kE m)) w:=by
 have h:=Gk (P:=P) (w:=w) bt kn bc af
 rwa [show IntKind.u64.wrap m=kE m by rw [IntKind.wrap_u64];rfl] at h
theorem al8 {t dH:TypeId} {x:Operand} {m:Int} (bt:P.underlying t=some (.int .u64)) (kn:P.underlying dH=some (.int .i64)) (bc:o.op= .convert t dH x) (af:a.eval x= .int .u64 m):b5 P o a w (.int .i64 (ay m)) w:=by
 have h:=Gk (P:=P) (w:=w) bt kn bc af
 rwa [ug] at h
theorem amD {t dH:TypeId} {x y:Operand} {k:IntKind} {m:Int} {n:Nat} (ad:Nat.ble n 64 =true) (bc:o.op= .binOp .shr t x y dH) (af:a.eval x= .int .u64 m) (hy:a.eval y= .int k (n:Int)):b5 P o a w (.int .u64 (kD m n)) w:=by
 have hle:=Nat.le_of_ble_eq_true ad
 unfold kD
 simp only [b5,execOp,bc,af,hy]
 simp [go_sem,hle]
end
end Gg
namespace Gg
open Go Go.RowKit Cin Go.Shelf Go.Proofs
theorem xa (b:Nat):∀ (vs:List Value) (o:Nat) (w:World),aX [b] w (w.setCells b o vs)
 | [],_,w=>aX.refl _ w
 | v::r,o,w=>(aX.set w ⟨b,o,none⟩ v).trans (xa b r (o+ 1) _) (fun x af=>.inl af)
theorem x7 (b:Nat) (e:TypeId) (DZ:Nat × Nat):∀ (vs:List Value) (o:Nat) (w:World) (cur:List Value),w.heap[b]? =some (.cells cur.toArray e DZ)->o+vs.length<=cur.length ->
 (w.setCells b o vs).heap[b]? =some (.cells (cur.take o++vs++cur.drop (o+vs.length)).toArray e DZ)
 | [],o,w,cur,h,_=>by simpa [World.setCells] using h
 | v::r,o,w,cur,h,ag=>by
   simp only [List.length_cons] at ag
   have aM:b <w.heap.size:=by
    rcases Nat.lt_or_ge b w.heap.size with dh | dh
    · exact dh
    · rw [Array.getElem?_eq_none dh] at h;cases h
   have aq:(w.setCell ⟨b,o,none⟩ v).heap[b]? =some (.cells (cur.set o v).toArray e DZ):=by
    simp only [World.setCell,Array.getElem?_modify,if_pos,h,Option.map_some]
    simp
   have:=x7 b e DZ r (o+ 1) _ (cur.set o v) aq (by simp;omega)
   show ((w.setCell ⟨b,o,none⟩ v).setCells b (o+ 1) r).heap[b]? =_
   rw [this]
   have vH:cur.set o v=cur.take o++v::cur.drop (o+ 1):=by rw [List.set_eq_take_append_cons_drop,if_pos (by omega)]
   have bt:(cur.take o).length=o:=by rw [List.length_take];omega
   have bn:(cur.set o v).take (o+ 1)=cur.take o++[v]:=by
    rw [vH,List.take_append,bt,List.take_of_length_le (by rw [bt];omega)]
    simp
   have bI:(cur.set o v).drop (o+ 1 +r.length)=cur.drop (o+(v::r).length):=by
    rw [List.drop_set_of_lt (by omega)]
    congr 1
    simp;omega
   rw [bn,bI]
   simp
theorem aj0 {cur xs:List Value} {x:Value} {n m:Nat} (bt:cur.take n=xs) (ad:xs.length=n) (hm:m<=n) (hc:n+ 1 <=cur.length) :
 ((cur.take (m+ 1)++xs.drop m++cur.drop (m+ 1 +(xs.drop m).length)).take m++[x]++(cur.take (m+ 1)++xs.drop m++cur.drop (m+ 1 +(xs.drop m).length)).drop (m+ 1)).take (n+ 1)=xs.take m++[x]++xs.drop m:=by
 have aq:(cur.take (m+ 1)).length=m+ 1 :=by rw [List.length_take];omega
 have aC:(cur.take (m+ 1)++xs.drop m++cur.drop (m+ 1 +(xs.drop m).length)).take m=xs.take m:=by
  rw [List.append_assoc,List.take_append_of_le_length (by omega),List.take_take,Nat.min_eq_left (by omega),<-bt,List.take_take,Nat.min_eq_left hm]
 have bw:(cur.take (m+ 1)++xs.drop m++cur.drop (m+ 1 +(xs.drop m).length)).drop (m+ 1)=xs.drop m++cur.drop (m+ 1 +(xs.drop m).length):=by
  rw [List.append_assoc,List.drop_append,aq,List.drop_eq_nil_of_le (by omega)]
  simp
 rw [aC,bw,<-List.append_assoc,List.take_append_of_le_length (by simp;omega),List.take_of_length_le (by simp;omega)]
theorem Wf {z0 xs:List Value} {x:Value} {n m:Nat} (ad:xs.length=n) (hm:m<=n) (cT:z0.take m=xs.take m) (ag:n+ 1 <=z0.length) :
 ((z0.take m++[x]++z0.drop (m+ 1)).take (m+ 1)++xs.drop m++(z0.take m++[x]++z0.drop (m+ 1)).drop (m+ 1 +(xs.drop m).length)).take (n+ 1)=xs.take m++[x]++xs.drop m:=by
 have aq:(z0.take m++[x]).length=m+ 1 :=by simp;omega
 rw [List.take_append_of_le_length (l₁:=z0.take m++[x]) (by omega),List.take_of_length_le (l:=z0.take m++[x]) (by omega),cT,List.take_append_of_le_length (by simp;omega),List.take_of_length_le (by simp;omega)]
section
variable {P:Program} {ρ:Ren} {w:World} {W:World} {aR X:List Nat} {E:List aw} {D:List ap}
theorem Sa {F:Nat->Prop}:∀ {li:List Int} {xs:List Value},fl (ax .i64) F w xs li->xs=li.map (Value.int .i64)
 | [],_,h=>h
 | b::r,_,⟨cs,ys,e,aq,aC⟩=>by
   have aq:cs= [.int .i64 b]:=aq
   rw [e,aq,Sa aC]
   rfl
theorem Sb {F:Nat->Prop}:∀ li:List Int,fl (ax .i64) F w (li.map (Value.int .i64)) li
 | []=>rfl
 | b::r=>⟨[.int .i64 b],r.map (Value.int .i64),rfl,rfl,Sb r⟩
theorem Uw (L:Lays2.n21 P ρ) {A:Option Addr} {c g:Nat} {li r:List Int} {xs:List Value} {n x:Int} (i j q:Nat) (Qn:Nat.beq i j=false) (hm:aD W aR X w E D) (hi:E[i]? =some (aw.row (ρ.t 3) 1 (.slice A li.length c) li xs))
 (bf:E[j]? =some (aw.br g (ρ.t 3) [.int .i64 x])) (dX:D[q]? =some (ap.rows (ax .i64) xs li)) (bm:Bu li n x=some r) :
 Calls P (ρ.f 21) [.slice A li.length c,.int .i64 n,.slice (some ⟨g,0,none⟩) 1 1].toArray w (fun e az=>∃ iD dw fD,e= .returned (.slice iD r.length dw)/\aD W aR X az (E.set i (aw.row (ρ.t 3) 1 (.slice iD r.length dw) r fD)) (ap.rows (ax .i64) fD r::D)):=by
 obtain ⟨bk,aq,pj,rfl⟩:=agS bm
 obtain ⟨m,rfl⟩:=Int.eq_ofNat_of_zero_le bk
 have gx:m<=li.length:=by omega
 simp only [Int.toNat_natCast]
 have gJ:xs=li.map (Value.int .i64):=Sa (hm.d q dX)
 have km:w.ownsRow 0 (ρ.t 3) 1 (.slice A li.length c) li.length xs:=hm.e i hi
 have Zy:w.heap[g]? =some (.cells [Value.int .i64 x].toArray (ρ.t 3) (0,0)):=hm.e j bf
 have tg:∀ q v,[Value.int .i64 x][q]? =some v->w.cell? ⟨g,0 +q,none⟩=some v:=fun q v dX=>by
  have:=wY (hm.e j bf) dX
  simpa using this
 have Ab:∀ v ∈ [Value.int .i64 x],v.oneCell'=true:=fun v U=>by simp at U;subst U;rfl
 have P5:∀ v ∈ xs,v.oneCell'=true:=fun v U=>by rw [gJ] at U;simp at U;obtain ⟨_,_,rfl⟩:=U;rfl
 have lN:xs.length=li.length:=by rw [gJ];simp
 have hlen:(li.take m++x::li.drop m).length=li.length+ 1 :=by simp;omega
 have vA:(li.take m++x::li.drop m).map (Value.int .i64)=xs.take m++[Value.int .i64 x]++xs.drop m:=by rw [gJ];simp [List.map_take,List.map_drop]
 have go:∀ (iD:Option Addr) (dw:Nat) (az:World),aX (Value.slice A li.length c).ownBlock.toList w az->az.ownsRow 0 (ρ.t 3) 1 (.slice iD (li.length+ 1) dw) (li.length+ 1) (xs.take m++[Value.int .i64 x]++xs.drop m) ->
  (∀ k,(Value.slice iD (li.length+ 1) dw).ownBlock=some k->(Value.slice A li.length c).ownBlock=some k\/(w.heap.size<=k/\k <az.heap.size)) ->
  ∃ Nc N_ fD,Ending.returned (.slice iD (li.length+ 1) dw)= .returned (.slice Nc (li.take m++x::li.drop m).length N_)/\aD W aR X az (E.set i (aw.row (ρ.t 3) 1 (.slice Nc (li.take m++x::li.drop m).length N_) (li.take m++x::li.drop m) fD)) (ap.rows (ax .i64) fD (li.take m++x::li.drop m)::D):=by
  intro iD dw az U oa I
  have JO:(aw.row (ρ.t 3) 1 (.slice iD (li.take m++x::li.drop m).length dw) (li.take m++x::li.drop m) ((li.take m++x::li.drop m).map (Value.int .i64))).ok az:=by
   show az.ownsRow 0 (ρ.t 3) 1 _ (li.take m++x::li.drop m).length _
   rw [hlen,vA]
   exact oa
  refine ⟨iD,dw,(li.take m++x::li.drop m).map (Value.int .i64),by rw [hlen],?_⟩
  refine (hm.B7 (T:=ax .i64) (Sb (li.take m++x::li.drop m))).rR i hi U JO (LJ _) (fun k aZ=>?_)
  have ji:(Value.slice iD (li.length+ 1) dw).ownBlock=some k:=by
   have:(Value.slice iD (li.take m++x::li.drop m).length dw).ownBlock=some k:=by simpa [aw.row] using aZ
   rwa [hlen] at this
  rcases I k ji with e | e
  · exact .inl (by simpa [aw.row] using e)
  · exact .inr e
 have Iy:grownCap w (li.length+ 1) c (ρ.t 3)<=maxLen:=grownCap_le_maxLen _ _ _ _ (by simp only [maxLen];omega)
 have vw:li.length+ 1 <=grownCap w (li.length+ 1) c (ρ.t 3):=grownCap_ge _ _ _ _
 rcases km.2 with ⟨U,adC⟩ | ⟨b,cap,cur,U,_,aM,Ed,k6,hcs,J9⟩
 ·
   simp only [Value.slice.injEq] at U
   obtain ⟨rfl,_,rfl⟩:=U
   have xz:li= []:=List.eq_nil_of_length_eq_zero adC
   subst xz
   have bM:m= 0 :=by simpa using gx
   subst bM
   have agt:xs= []:=by simpa using gJ
   subst agt
   have hc:=Any2.slices_Insert_int_end_grow L none 0 0 g 0 1 1 [] [Value.int .i64 x] w (by decide) (by decide) (by decide) (by decide) rfl rfl (fun _=>rfl) (fun a a'=>by cases a') tg Ab
   refine Calls.mono hc ?_
   rintro e az ⟨rfl,rfl⟩
   refine go (some ⟨w.heap.size,0,none⟩) (grownCap w 1 0 (ρ.t 3)) _ ((aX.drew [] w).trans (aX.alloc [] w.drew _) (by simp) |>.mono (by simp)) ?_ (fun k aZ=>.inr ?_)
   · refine ⟨by simp,.inr ⟨w.heap.size,_,_,rfl,Nat.zero_le _,heap_alloc_new w.drew _,vw,Iy,?_,?_⟩⟩
     · simp only [Array.size_append,List.size_toArray,size_zeroCells];simp at vw ⊢;simp [Value.cells];omega
     · simp
   · have:w.heap.size=k:=by simpa [Value.ownBlock] using aZ
     subst this;simp
 · simp only [Value.slice.injEq,true_and] at U
   obtain ⟨rfl,rfl⟩:=U
   have Io:cur.size=c:=by simpa using hcs
   have lM:cur.toList.length=c:=by simpa using Io
   have bt:cur.toList.take li.length=xs:=by simpa using J9
   have hN:w.heap[b]? =some (.cells cur.toList.toArray (ρ.t 3) (0,0)):=by simpa using aM
   have mA:∀ j v,xs[j]? =some v->w.cell? ⟨b,0 +j,none⟩=some v:=fun j v bf=>by
    have:=(km.cells (g:=b) rfl) j v bf
    rw [Nat.zero_add]
    have e:(⟨b,j,none⟩:Addr)=if j= 0 then ⟨b,0,none⟩ else ⟨b,j,none⟩:=by split <;> simp_all
    rw [e]
    simpa [Addr.add] using this
   have eS:g≠b:=by
    intro e
    have bG:=DX hm.dM
    have JL:i≠j:=by intro h;subst h;simp at Qn
    exact (bG i _ hi).2 j _ bf JL b (by simp [aw.row,Value.ownBlock]) (by simp [aw.br,e])
   have pz:∀ j,j <c->(w.cell? ⟨b,0 +j,none⟩).isSome=true:=fun j bf=>by
    simp [World.cell?,aM,Io,bf]
   have Iv:∀ j,w.frozen? ⟨b,0 +j,none⟩=false:=fun j=>by simp [World.frozen?,aM]
   by_cases m6:li.length+ 1 <=c
   · by_cases qJ:m=li.length
     · subst qJ
       have hc:=Any2.slices_Insert_int_end_room L b 0 li.length c g 0 1 1 [Value.int .i64 x] w (by decide) m6 (by simp only [maxLen] at k6;omega) rfl (fun j bf=>by rw [Nat.add_assoc];exact pz _ (by omega)) (fun j bf=>by rw [Nat.add_assoc];exact Iv _) tg Ab
       refine Calls.mono hc ?_
       rintro e az ⟨rfl,rfl⟩
       refine go (some ⟨b,0,none⟩) c _ ((xa b _ _ w).mono (by simp [Value.ownBlock])) ?_ (fun k aZ=>.inl (by simpa [Value.ownBlock] using aZ))
       have hf:=x7 b (ρ.t 3) (0,0) [Value.int .i64 x] (0 +li.length) w cur.toList hN (by simp;omega)
       refine ⟨by simp;omega,.inr ⟨b,c,_,rfl,Nat.zero_le _,hf,m6,k6,?_,?_⟩⟩
       · simp;omega
       · simp only [Nat.zero_add,Nat.mul_one,bt]
         rw [List.take_append_of_le_length (by simp;omega),List.take_of_length_le (by simp;omega),List.take_of_length_le (by omega),List.drop_eq_nil_of_le (by omega)]
         simp
     · have hc:=Any2.slices_Insert_int_shift L b 0 li.length c m g 0 1 1 xs [Value.int .i64 x] w (by omega) (by decide) m6 (by simp only [maxLen] at k6;omega) eS lN rfl mA (fun j bf=>pz j (by omega)) (fun j _=>Iv j) tg P5 Ab
        (ρ.t 3) (ρ.t 3) 1 c (by simp [World.shape?,Zy]) (by simp [World.shape?,aM,Io]) (by omega) (N9 (hm.e j bf) 0) (N9 (hm.e j bf) 1)
       refine Calls.mono hc ?_
       rintro e az ⟨rfl,rfl⟩
       have lJ:=xa b (xs.drop m) (0 +(m+ 1)) w.drew
       have DT:=xa b [Value.int .i64 x] (0 +m) (w.drew.setCells b (0 +(m+ 1)) (xs.drop m))
       refine go (some ⟨b,0,none⟩) c _ ((((aX.drew [b] w).trans lJ (fun x af=>.inl af)).trans DT (fun x af=>.inl af)).mono (by simp [Value.ownBlock])) ?_ (fun k aZ=>.inl (by simpa [Value.ownBlock] using aZ))
       have abG:=x7 b (ρ.t 3) (0,0) (xs.drop m) (0 +(m+ 1)) w.drew cur.toList hN (by simp;omega)
       have hf:=x7 b (ρ.t 3) (0,0) [Value.int .i64 x] (0 +m) _ _ abG (by simp;omega)
       refine ⟨by simp;omega,.inr ⟨b,c,_,rfl,Nat.zero_le _,hf,m6,k6,?_,?_⟩⟩
       · simp;omega
       · have:=aj0 (x:=Value.int .i64 x) bt lN gx (by omega)
         simpa using this
   · have Qd:li.length=c:=by omega
     by_cases qJ:m=li.length
     · subst qJ
       have hc:=Any2.slices_Insert_int_end_grow L (some ⟨b,0,none⟩) li.length c g 0 1 1 xs [Value.int .i64 x] w (by decide) (by omega) (by omega) (by omega) lN rfl (fun h=>by cases h) (fun a a' j v bf=>by
        cases a'
        have:=(km.cells (g:=b) rfl) j v bf
        simpa [Addr.add] using this) tg Ab
       refine Calls.mono hc ?_
       rintro e az ⟨rfl,rfl⟩
       refine go (some ⟨w.heap.size,0,none⟩) (grownCap w (li.length+ 1) c (ρ.t 3)) _ (((aX.drew [] w).trans (aX.alloc [] w.drew _) (by simp)).mono (by simp)) ?_ (fun k aZ=>.inr ?_)
       · refine ⟨by simp;omega,.inr ⟨w.heap.size,_,_,rfl,Nat.zero_le _,heap_alloc_new w.drew _,vw,Iy,?_,?_⟩⟩
         · simp only [Array.size_append,List.size_toArray,size_zeroCells,List.length_append,lN];simp [Value.cells];omega
         · simp only [Nat.mul_one,List.drop_zero,Array.toList_append]
           rw [List.take_append_of_le_length (by simp [lN]),List.take_of_length_le (by simp [lN]),List.take_of_length_le (l:=xs) (by omega),List.drop_eq_nil_of_le (by omega)]
           simp
       · have:w.heap.size=k:=by simpa [Value.ownBlock] using aZ
         subst this;simp
     · have hc:=Any2.slices_Insert_int_grow L b 0 li.length c m g 0 1 1 xs [Value.int .i64 x] w (by omega) (by decide) (by omega) (by omega) (by omega) lN rfl mA tg P5 Ab
       refine Calls.mono hc ?_
       rintro e az ⟨rfl,rfl⟩
       have XT:=heap_alloc_new w (.cells ((xs.take m).toArray++Builtin.zeroCells (Value.int .i64 0).cells (li.length+ 1 - m)++Builtin.zeroCells (Value.int .i64 0).cells (grownCap w (li.length+ 1) c (ρ.t 3) - (li.length+ 1))) (ρ.t 3))
       have xD:∀ q,(Builtin.zeroCells (Value.int .i64 0).cells q).toList.length=q:=fun q=>by rw [Array.length_toList,size_zeroCells];simp [Value.cells]
       have acY:((xs.take m)++(Builtin.zeroCells (Value.int .i64 0).cells (li.length+ 1 - m)).toList++(Builtin.zeroCells (Value.int .i64 0).cells (grownCap w (li.length+ 1) c (ρ.t 3) - (li.length+ 1))).toList).length=grownCap w (li.length+ 1) c (ρ.t 3):=by
        simp only [List.length_append,xD,List.length_take,lN];omega
       have H5:(w.alloc (.cells ((xs.take m).toArray++Builtin.zeroCells (Value.int .i64 0).cells (li.length+ 1 - m)++Builtin.zeroCells (Value.int .i64 0).cells (grownCap w (li.length+ 1) c (ρ.t 3) - (li.length+ 1))) (ρ.t 3))).drew.heap[w.heap.size]? =some (.cells ((xs.take m)++(Builtin.zeroCells (Value.int .i64 0).cells (li.length+ 1 - m)).toList++(Builtin.zeroCells (Value.int .i64 0).cells (grownCap w (li.length+ 1) c (ρ.t 3) - (li.length+ 1))).toList).toArray (ρ.t 3) (0,0)):=by
        refine XT.trans ?_
        congr 2
        apply Array.toList_inj.mp
        simp
       generalize El:(xs.take m)++(Builtin.zeroCells (Value.int .i64 0).cells (li.length+ 1 - m)).toList++(Builtin.zeroCells (Value.int .i64 0).cells (grownCap w (li.length+ 1) c (ρ.t 3) - (li.length+ 1))).toList=z0 at acY H5
       have agC:z0.take m=xs.take m:=by
        rw [<-El,List.append_assoc,List.take_append_of_le_length (by simp;omega),List.take_of_length_le (by simp;omega)]
       have kl:aX [] w (w.alloc (.cells ((xs.take m).toArray++Builtin.zeroCells (Value.int .i64 0).cells (li.length+ 1 - m)++Builtin.zeroCells (Value.int .i64 0).cells (grownCap w (li.length+ 1) c (ρ.t 3) - (li.length+ 1))) (ρ.t 3))).drew:=(aX.alloc [] w _).trans (aX.drew [] _) (by simp)
       generalize afn:(w.alloc (.cells ((xs.take m).toArray++Builtin.zeroCells (Value.int .i64 0).cells (li.length+ 1 - m)++Builtin.zeroCells (Value.int .i64 0).cells (grownCap w (li.length+ 1) c (ρ.t 3) - (li.length+ 1))) (ρ.t 3))).drew=bV at H5 kl
       have tc:w.heap.size <bV.heap.size:=by rw [<-afn];simp
       have lJ:=xa w.heap.size [Value.int .i64 x] m bV
       have DT:=aX.drew [] (bV.setCells w.heap.size m [Value.int .i64 x])
       have PO:=xa w.heap.size (xs.drop m) (m+ 1) (bV.setCells w.heap.size m [Value.int .i64 x]).drew
       have VL:=((kl.trans lJ (fun x af=>.inr (by simp at af;omega))).trans DT (by simp)).trans PO (fun x af=>.inr (by simp at af;omega))
       have aC:=x7 w.heap.size (ρ.t 3) (0,0) [Value.int .i64 x] m bV z0 H5 (by simp;omega)
       have bw:=x7 w.heap.size (ρ.t 3) (0,0) (xs.drop m) (m+ 1) (bV.setCells w.heap.size m [Value.int .i64 x]).drew _ aC (by simp;omega)
       refine go (some ⟨w.heap.size,0,none⟩) (grownCap w (li.length+ 1) c (ρ.t 3)) _ (VL.mono (by simp)) ?_ (fun k aZ=>.inr ?_)
       · refine ⟨by simp;omega,.inr ⟨w.heap.size,_,_,rfl,Nat.zero_le _,bw,vw,Iy,?_,?_⟩⟩
         · simp;omega
         · have:=Wf (x:=Value.int .i64 x) lN gx agC (by omega)
           simpa using this
       · have:w.heap.size=k:=by simpa [Value.ownBlock] using aZ
         subst this
         exact ⟨Nat.le_refl _,Nat.lt_of_lt_of_le tc (Nat.le_trans lJ.size (Nat.le_trans DT.size PO.size))⟩
end
end Gg
namespace Go.Proofs.Ytpkhpagplommoaa
open Go Go.Shelf
def agU:Ren:=⟨fun f=>match f with | 21 =>56 | 27 =>70 | 28 =>71 | 35 =>89 | 39 =>92 | f=>f,fun t=>t,fun g=>g⟩
theorem agT:Lays2.n21 Try.prog agU:={
 mixed:=by kernel_rfl,f21:=by kernel_rfl,f27:=by kernel_rfl,f28:=by kernel_rfl,f35:=by kernel_rfl,f39:=by kernel_rfl
 t0:=by kernel_rfl,a0:=fun w=>by kernel_rfl,z0:=fun w=>by kernel_rfl,v0:=fun w=>by kernel_rfl
 t3:=by kernel_rfl,a3:=fun w=>by kernel_rfl,z3:=fun w=>by kernel_rfl,v3:=fun w=>by kernel_rfl
 t4:=by kernel_rfl,a4:=fun w=>by kernel_rfl,z4:=fun w=>by kernel_rfl,v4:=fun w=>by kernel_rfl
 t22:=by kernel_rfl,a22:=fun w=>by kernel_rfl,z22:=fun w=>by kernel_rfl,v22:=fun w=>by kernel_rfl
 i3:=by kernel_rfl }
end Go.Proofs.Ytpkhpagplommoaa
namespace Cin
structure Kind where
 Kind:Int
 aG:List UInt8
 deriving DecidableEq
structure Handler where
 From:Int
 To:Int
 db:Int
 aG:List UInt8
 deriving DecidableEq
structure Method where
 Name:List UInt8
 Static:Bool
 bA:List Kind
 Returns:Kind
 c9:Int
 c8:Int
 Code:List UInt8
 bi:List Handler
structure Field where
 Name:List UInt8
 Kind:Kind
 deriving DecidableEq
structure aG where
 Name:List UInt8
 bY:List UInt8
 Fields:List Field
 aE:List Method
structure cZ where
 l:List aG
 cc:List ((List UInt8) × Int)
 bx:List Int
structure Target where
 aG:Int
 Method:Int
 deriving DecidableEq
structure bb where
 aK:List aG
 aI:List Int
 Fields:List (List Field)
 Names:List (List (List UInt8))
 aH:List (List Target)
structure bd where
 Words:List Int
 ai:Int
 ak:Int
 aB:Int
 aA:Int
 al:List Int
 Next:Int
structure cd where
 K:bb
structure bU where
 H:bd
 S:cd
 ai:List Int
 ak:List Int
 cj:List (Int × Bool)
structure qj where
 db:Int
 N:Int
 Value:Int
 Tag:Int
 Length:Int
 ak:Bool
 deriving DecidableEq
end Cin
