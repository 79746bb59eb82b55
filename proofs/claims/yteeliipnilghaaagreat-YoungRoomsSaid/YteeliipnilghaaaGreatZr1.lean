/- Part 1 of the proof that is ended in the last text: small logic, what the functions compute, walks, plain laws. -/
import Derived.WalkKit
import Derived.Deep.LoopGhost
import Derived.Deep.Quiet
import Derived.Maps.AppendAt
import Derived.KernelRfl
import Derived.Deep.RegionHeld3
import Derived.Laws.StructEq
import Derived.Carry
import Derived.ChangeSame
import Derived.OpenShut
import Derived.Deep.Slices
import Derived.Deep.Fields
import Derived.ChangeMaps5
import Derived.Lib.LaidTab
import Derived.OrdersHeld
import Derived.MapKept
import Derived.Laws.OwnMore
import Derived.Laws.IdiomStrings
import Derived.RangeFuncRecord
import Derived.RangeFuncSeq
import Derived.RangeFuncIn
import Derived.RangeFuncLeaves
import Derived.OrdersIn
import Derived.TacticsIn
import Derived.Deep.OwnRows
import Derived.Lib.AppendZeros
import Derived.ArgAppend
import Derived.Test.YteeliipnilghaaaGreatChecked
namespace I
def aX (n:Int):Int:=(n+ 9223372036854775808) % 18446744073709551616 - 9223372036854775808
def y1 (n:Int):Int:=n % 18446744073709551616
def O6 (a b:Int):Int:=aX ((BitVec.ofInt 64 a ||| BitVec.ofInt 64 b).toNat:Int)
def Kn (a b:Int):Int:=aX ((BitVec.ofInt 64 a &&& BitVec.ofInt 64 b).toNat:Int)
def ru (a:Int) (n:Nat):Int:=a / 2 ^ n
def xw (n:Int):UInt8:=UInt8.ofNat (n % 256).toNat
def idx {α:Type} (l:List α) (i:Int):Option α:=if 0 <=i then l[i.toNat]? else none
def Em (b:Bool):Option Unit:=if b then some () else none
def cq {α:Type} (bytes:Nat) (l m:List α):Option (List α):=if (l.length+m.length)*bytes<= 140737488355328 then some (l++m) else none
def bytesOf (s:List UInt8):Option (List UInt8):=if s.length<= 140737488355328 then some s else none
def HN {α:Type} (z:α) (bytes:Nat) (n:Int):Option (List α):=if 0 <=n/\bytes*n.toNat<= 140737488355328 then some (List.replicate n.toNat z) else none
def CG {α:Type} (z:α) (bytes:Nat) (n:Int):Option (List α):=if 0 <n/\bytes*n.toNat<= 140737488355328 then some (List.replicate n.toNat z) else none
def cut {α:Type} (l:List α) (i j:Int):Option (List α):=if 0 <=i/\i<=j/\j<=l.length then some ((l.take j.toNat).drop i.toNat) else none
theorem KB {α:Type} {b:Bool} {x y:Option α} {r:α} (ai:b=true) (h:cond b x y=some r):x=some r:=by subst ai;exact h
theorem KA {α:Type} {b:Bool} {x y:Option α} {r:α} (ai:b=false) (h:cond b x y=some r):y=some r:=by subst ai;exact h
theorem fK {α β:Type} {o:Option α} {f:α->Option β} {r:β} (h:o.bind f=some r):∃ x,o=some x/\f x=some r:=by
 cases o with
 | none=>cases h
 | some x=>exact ⟨x,rfl,h⟩
theorem jr {α:Type} {l:List α} {i:Int} {d:α} (h:idx l i=some d):0 <=i/\i.toNat <l.length/\l[i.toNat]? =some d:=by
 unfold idx at h
 split at h
 · rename_i aY
   exact ⟨aY,(List.getElem?_eq_some_iff.1 h).1,h⟩
 · cases h
theorem FR {α:Type} {bytes:Nat} {l m r:List α} (h:cq bytes l m=some r):(l.length+m.length)*bytes<= 140737488355328 /\r=l++m:=by
 unfold cq at h
 split at h
 · rename_i aY;exact ⟨aY,by simpa using h.symm⟩
 · cases h
theorem aon {α:Type} {z:α} {bytes:Nat} {n:Int} {r:List α} (h:HN z bytes n=some r):0 <=n/\bytes*n.toNat<= 140737488355328 /\r=List.replicate n.toNat z:=by
 unfold HN at h
 split at h
 · rename_i aY;exact ⟨aY.1,aY.2,by simpa using h.symm⟩
 · cases h
theorem adu {α:Type} {z:α} {bytes:Nat} {n:Int} {r:List α} (h:CG z bytes n=some r):0 <n/\bytes*n.toNat<= 140737488355328 /\r=List.replicate n.toNat z:=by
 unfold CG at h
 split at h
 · rename_i aY;exact ⟨aY.1,aY.2,by simpa using h.symm⟩
 · cases h
theorem OT {b:Bool} {u:Unit} (h:Em b=some u):b=true:=by
 unfold Em at h
 split at h
 · assumption
 · cases h
theorem adw (n:Int):((xw n).toNat:Int)=n % 256 :=by
 unfold xw
 have aY:0 <=n % 256 :=Int.emod_nonneg _ (by omega)
 have J:n % 256 < 256 :=Int.emod_lt_of_pos _ (by omega)
 simp only [UInt8.toNat_ofNat']
 omega
end I
namespace I
def join {cL α:Type} (k:cL) (b:cL->Option α):Option α:=b k
end I
namespace I
section
variable {cL β:Type} [DecidableEq cL]
def dL:List (cL × β)->cL->Option β
 | [],_=>none
 | p::r,k=>if p.1 =k then some p.2 else dL r k
def hT:List (cL × β)->cL->β->List (cL × β)
 | [],k,v=>[(k,v)]
 | p::r,k,v=>if p.1 =k then (k,v)::r else p::hT r k v
def lP:List (cL × β)->cL->Option Nat
 | [],_=>none
 | p::r,k=>if p.1 =k then some 0 else (lP r k).map (· + 1)
end
end I
namespace I
inductive Way (ρ α:Type)
 | go (a:α)
 | out (r:ρ)
def cu {ρ α:Type} (x:Option (Way ρ α)) (k:α->Option ρ):Option ρ:=match x with
 | none=>none
 | some (.go a)=>k a
 | some (.out r)=>some r
def cY {ρ α β:Type} (x:Option (Way ρ α)) (k:α->Option (Way ρ β)):Option (Way ρ β):=match x with
 | none=>none
 | some (.go a)=>k a
 | some (.out r)=>some (.out r)
def SS {ρ α:Type} (k:α->Option ρ):Way ρ α->Option ρ
 | .go a=>k a
 | .out r=>some r
theorem avN {ρ α:Type} {x:Option (Way ρ α)} {k:α->Option ρ} {r:ρ} (h:cu x k=some r):∃ y,x=some y/\SS k y=some r:=by
 cases x with
 | none=>cases h
 | some y=>cases y <;> exact ⟨_,rfl,h⟩
@[simp] theorem m1 {ρ α:Type} (a:α) (k:α->Option ρ):cu (some (.go a)) k=k a:=rfl
@[simp] theorem abF {ρ α:Type} (r:ρ) (k:α->Option ρ):cu (some (.out r)) k=some r:=rfl
@[simp] theorem k_ {ρ α β:Type} (a:α) (k:α->Option (Way ρ β)):cY (some (.go a)) k=k a:=rfl
@[simp] theorem azQ {ρ α β:Type} (r:ρ) (k:α->Option (Way ρ β)):cY (some (.out r)) k=some (.out r):=rfl
end I
namespace I
end I
namespace ay
open Go Go.RowKit
def eb:List (Nat × Value)->Nat->Option Value
 | [],_=>none
 | p::r,t=>match Nat.beq p.1 t with
   | true=>some p.2
   | false=>eb r t
structure cQ where
 n:Nat
 ds:List Deferred
instance:Coe cQ Nat:=⟨cQ.n⟩
structure Fr (n:cQ) (l:List (Nat × Value)) (a:Act):Prop where
 size:a.tmps.size=n.n
 defers:a.defers=n.ds
 get:∀ t v,eb l t=some v->a.tmps.getD t undef=v
theorem Fr.g {n:cQ} {l:List (Nat × Value)} {a:Act} {t:Nat} {v:Value} (ag:Fr n l a) (h:eb l t=some v):a.eval (.tmp t)=v:=ag.get t v h
theorem Fr.put {n:cQ} {d:Nat} {l:List (Nat × Value)} {a:Act} {v:Value} (ag:Fr n l a) (aO:Nat.blt d n=true):Fr n ((d,v)::l) (a.put (some d) v):=by
 have bL:d <n:=Nat.le_of_ble_eq_true aO
 refine ⟨by simpa [Act.put] using ag.size,ag.defers,fun t u h=>?_⟩
 have ar:=ag.size
 simp only [eb] at h
 cases ai:Nat.beq d t with
 | true=>
   rw [ai] at h
   simp only [Option.some.injEq] at h
   have e:d=t:=Nat.eq_of_beq_eq_true ai
   subst e;subst h
   simp [Act.put,ar,bL]
 | false=>
   rw [ai] at h
   have e:d≠t:=by intro e;subst e;simp at ai
   have:=ag.get t u h
   simp only [Act.put,Array.getD_eq_getD_getElem?] at this ⊢
   rw [Array.getElem?_setIfInBounds,if_neg e]
   exact this
def E5 (l:List (Nat × Value)):List (Nat × Value)->Prop
 | []=>True
 | p::r=>eb l p.1 =some p.2 /\E5 l r
theorem an7 {l l':List (Nat × Value)} (h:E5 l l'):∀ t v,eb l' t=some v->eb l t=some v:=by
 induction l' with
 | nil=>intro t v aL;simp [eb] at aL
 | cons p r bH=>
   intro t v aL
   simp only [eb] at aL
   cases ai:Nat.beq p.1 t with
   | true=>
     rw [ai] at aL
     have e:p.1 =t:=Nat.eq_of_beq_eq_true ai
     simp only [Option.some.injEq] at aL
     rw [<-e,<-aL];exact h.1
   | false=>rw [ai] at aL;exact bH h.2 t v aL
theorem Fr.sub {n:cQ} {l l':List (Nat × Value)} {a:Act} (ag:Fr n l a) (h:E5 l l'):Fr n l' a:=
 ⟨ag.size,ag.defers,fun t v aL=>ag.get t v (an7 h t v aL)⟩
def oJ:Nat->List Value->List (Nat × Value)
 | _,[]=>[]
 | k,v::r=>(k,v)::oJ (k+ 1) r
theorem an6 (vs:List Value):∀ k t v,eb (oJ k vs) t=some v->k<=t/\vs[t - k]? =some v:=by
 induction vs with
 | nil=>intro k t v h;simp [oJ,eb] at h
 | cons u r bH=>
   intro k t v h
   simp only [oJ,eb] at h
   cases ai:Nat.beq k t with
   | true=>
     rw [ai] at h
     have e:k=t:=Nat.eq_of_beq_eq_true ai
     subst e
     simpa using h
   | false=>
     rw [ai] at h
     have e:k≠t:=by intro e;subst e;simp at ai
     obtain ⟨J,aa⟩:=bH (k+ 1) t v h
     refine ⟨by omega,?_⟩
     have:t - k=(t - (k+ 1))+ 1 :=by omega
     rw [this];simpa using aa
theorem Fr.init (vs:List Value) (n:Nat) (h:Nat.ble vs.length n=true):Fr ⟨n,[]⟩ (oJ 0 vs) { tmps:=vs.toArray++Array.replicate (n - vs.toArray.size) undef,defers:=[] }:=by
 have hle:vs.length<=n:=by simpa using h
 refine ⟨by simp;omega,rfl,fun t v aL=>?_⟩
 obtain ⟨_,aa⟩:=an6 vs 0 t v aL
 have bL:t <vs.length:=by
  rcases Nat.lt_or_ge t vs.length with h | h
  · exact h
  · rw [List.getElem?_eq_none (by simpa using h)] at aa;cases aa
 have az:vs[t]? =some v:=by simpa using aa
 rw [Array.getD_eq_getD_getElem?]
 rw [List.getElem?_eq_getElem bL,Option.some.injEq] at az
 simp [Array.getElem?_append,bL,az]
theorem enter {P:Program} {f:FuncId} {fn:Func} {c:Code} {vs:List Value} {w:World} {R:Ending->World->Prop} {n:Nat}
 (ag:P.funcs[f]? =some fn) (ai:fn.body=some c) (aS:fn.ntmps=n) (au:Nat.ble vs.length n=true)
 (h:∀ a,Fr ⟨n,[]⟩ (oJ 0 vs) a->c.wp P (bodyPost P fn R) a w):Calls P f vs.toArray w R:=by
 refine calls_of_wp ag ai ?_
 rw [aS]
 exact h _ (Fr.init vs n au)
structure bw (M:List Nat) (w w':World):Prop where
 os:w'.os=w.os
 tape:w'.tape=w.tape
 output:w'.output=w.output
 size:w.heap.size<=w'.heap.size
 block:∀ k,k <w.heap.size->k ∉ M->w'.heap[k]? =w.heap[k]?
theorem bw.refl (M:List Nat) (w:World):bw M w w:=⟨rfl,rfl,rfl,Nat.le_refl _,fun _ _ _=>rfl⟩
theorem bw.trans {M hJ:List Nat} {a b c:World} (h:bw M a b) (k:bw hJ b c) (hm:∀ x ∈ hJ,x ∈ M\/a.heap.size<=x):bw M a c:=
 ⟨k.os.trans h.os,k.tape.trans h.tape,k.output.trans h.output,Nat.le_trans h.size k.size,fun i hi aS=>
   (k.block i (Nat.lt_of_lt_of_le hi h.size) (fun af=>by rcases hm i af with e | e;exact aS e;omega)).trans (h.block i hi aS)⟩
theorem bw.drew (M:List Nat) (w:World):bw M w w.drew:=⟨rfl,rfl,rfl,Nat.le_refl _,fun _ _ _=>rfl⟩
theorem bw.alloc (M:List Nat) (w:World) (o:Obj):bw M w (w.alloc o):=⟨rfl,rfl,rfl,by simp,fun k ak _=>Below.heap_alloc _ _ _ ak⟩
theorem bw.set (w:World) (a:Addr) (u:Value):bw [a.block] w (w.setCell a u):=
 ⟨rfl,rfl,rfl,by simp [World.setCell],fun k _ aS=>Below.heap_setCell _ _ _ _ (by simpa using aS)⟩
theorem bw.mono {M hJ:List Nat} {a b:World} (h:bw M a b) (hm:∀ x ∈ M,x ∈ hJ):bw hJ a b:=⟨h.os,h.tape,h.output,h.size,fun k ak aS=>h.block k ak (fun af=>aS (hm k af))⟩
theorem bw.grown {w w':World} {row:Option Nat} (h:w.grownBy w' row):bw row.toList w w':=
 ⟨h.os,h.tape,h.output,h.size,fun k ak aS=>h.block k ak (fun e=>aS (by rw [<-e];simp))⟩
theorem bw.below {w w':World} (h:bw [] w w'):Below w.heap.size w w':=⟨h.os,h.tape,h.output,h.size,fun k ak=>h.block k ak (by simp)⟩
structure ba where
 bD:List Nat
 ok:World->Prop
 law:∀ w w',(∀ k ∈ bD,w'.heap[k]? =w.heap[k]?)->ok w->ok w'
structure bF where
 ok:List Nat->World->Prop
 law:∀ M hJ w w',bw M w w'->(∀ k ∈ hJ,k ∈ M\/w.heap.size<=k)->ok M w->ok hJ w'
def cc (E:List ba):List Nat:=E.flatMap ba.bD
structure bz (W:World) (aD X:List Nat) (w:World) (E:List ba) (D:List bF):Prop where
 cr:bw aD W w
 gZ:∀ k ∈ X,k <W.heap.size/\k ∉ aD
 lt:∀ k ∈ cc E,k <w.heap.size/\(k ∈ aD\/W.heap.size<=k)
 ok:∀ x ∈ E,x.ok w
 bA:(cc E).Nodup
 rd:∀ y ∈ D,y.ok (X++cc E) w
section
variable {W w w':World} {aD X:List Nat} {E:List ba} {D:List bF}
theorem bz.start (aD X:List Nat) (w:World) (E:List ba) (D:List bF) (akh:∀ k ∈ X,k <w.heap.size/\k ∉ aD) (bL:∀ k ∈ cc E,k <w.heap.size/\k ∈ aD) (nI:∀ x ∈ E,x.ok w) (oV:(cc E).Nodup) (fX:∀ y ∈ D,y.ok (X++cc E) w) :
 bz w aD X w E D:=⟨bw.refl _ _,akh,fun k ak=>⟨(bL k ak).1,.inl (bL k ak).2⟩,nI,oV,fX⟩
theorem bz.e5 (h:bz W aD X w E D) (aj:bw [] w w'):bz W aD X w' E D:=
 ⟨h.cr.trans aj (by simp),h.gZ,fun k ak=>⟨Nat.lt_of_lt_of_le (h.lt k ak).1 aj.size,(h.lt k ak).2⟩,
  fun x af=>x.law w w' (fun k ak=>aj.block k (h.lt k (List.mem_flatMap.2 ⟨x,af,ak⟩)).1 (by simp)) (h.ok x af),h.bA,
  fun y hy=>y.law (X++cc E) _ w w' (aj.mono (by simp)) (fun k ak=>.inl ak) (h.rd y hy)⟩
theorem bz.drew (h:bz W aD X w E D):bz W aD X w.drew E D:=h.e5 (bw.drew _ _)
theorem bz.push (h:bz W aD X w E D) (x:ba) (aj:bw [] w w') (af:x.ok w') (ag:∀ k ∈ x.bD,w.heap.size<=k/\k <w'.heap.size) (aS:x.bD.Nodup):bz W aD X w' (x::E) D:=by
 have J:=h.e5 aj
 refine ⟨J.cr,h.gZ,fun k ak=>?_,fun y hy=>?_,?_,fun y hy=>?_⟩
 · rcases List.mem_append.1 (by simpa [cc] using ak:k ∈ x.bD++cc E) with e | e
   · exact ⟨(ag k e).2,.inr (Nat.le_trans h.cr.size (ag k e).1)⟩
   · exact J.lt k e
 · rcases List.mem_cons.1 hy with rfl | e
   · exact af
   · exact J.ok y e
 · have:cc (x::E)=x.bD++cc E:=by simp [cc]
   rw [this,List.nodup_append]
   refine ⟨aS,h.bA,fun a a3 b ai e=>?_⟩
   subst e
   have:=(ag a a3).1
   have:=(h.lt a ai).1
   omega
 · refine y.law (X++cc E) _ w w' (aj.mono (by simp)) (fun k ak=>?_) (h.rd y hy)
   have cS:k ∈ X++(x.bD++cc E):=by simpa [cc] using ak
   simp only [List.mem_append] at cS
   rcases cS with e | e | e
   · exact .inl (by simp [e])
   · exact .inr (ag k e).1
   · exact .inl (by simp [e])
theorem bz.drop (h:bz W aD X w E D) {jf:List ba} (ar:List.Sublist jf E):bz W aD X w jf D:=by
 have ag:List.Sublist (cc jf) (cc E):=by
  unfold cc
  clear h
  induction ar with
  | slnil=>simp
  | cons a _ bH=>simpa using bH.trans (List.sublist_append_right _ _)
  | cons_cons a _ bH=>simpa using List.Sublist.append_left bH a.bD
 exact ⟨h.cr,h.gZ,fun k ak=>h.lt k (ag.subset ak),fun x af=>h.ok x (ar.subset af),h.bA.sublist ag,
  fun y hy=>y.law (X++cc E) _ w w (bw.refl _ _) (fun k ak=>.inl (by rcases List.mem_append.1 ak with e | e;exact List.mem_append.2 (.inl e);exact List.mem_append.2 (.inr (ag.subset e)))) (h.rd y hy)⟩
theorem bz.uy (h:bz W aD X w E D) {A B:List ba} {x l3:ba} (ah:E=A++x::B) (aj:bw x.bD w w') (af:l3.ok w') (aS:l3.bD.Nodup)
 (ag:∀ k ∈ l3.bD,k ∈ x.bD\/(w.heap.size<=k/\k <w'.heap.size)):bz W aD X w' (A++l3::B) D:=by
 subst ah
 have ao:cc (A++x::B)=cc A++(x.bD++cc B):=by simp [cc]
 have aq:cc (A++l3::B)=cc A++(l3.bD++cc B):=by simp [cc]
 have oV:=h.bA
 rw [ao,List.nodup_append,List.nodup_append] at oV
 obtain ⟨aes,⟨azn,aet,Tb⟩,KG⟩:=oV
 have o5:∀ k ∈ x.bD,k <w.heap.size/\(k ∈ aD\/W.heap.size<=k):=fun k ak=>h.lt k (by rw [ao];simp [ak])
 refine ⟨h.cr.trans aj (fun k ak=>(o5 k ak).2),h.gZ,fun k ak=>?_,fun y hy=>?_,?_,fun y hy=>?_⟩
 · rw [aq] at ak
   simp only [List.mem_append] at ak
   rcases ak with ak | ak | ak
   · have:=h.lt k (by rw [ao];simp [ak]);exact ⟨Nat.lt_of_lt_of_le this.1 aj.size,this.2⟩
   · rcases ag k ak with e | e
     · exact ⟨Nat.lt_of_lt_of_le (o5 k e).1 aj.size,(o5 k e).2⟩
     · exact ⟨e.2,.inr (Nat.le_trans h.cr.size e.1)⟩
   · have:=h.lt k (by rw [ao];simp [ak]);exact ⟨Nat.lt_of_lt_of_le this.1 aj.size,this.2⟩
 · have XS:∀ z,z ∈ A\/z ∈ B->z.ok w':=fun z al=>by
    have Hm:z ∈ A++x::B:=by rcases al with e | e <;> simp [e]
    refine z.law w w' (fun k ak=>aj.block k (h.lt k (List.mem_flatMap.2 ⟨z,Hm,ak⟩)).1 (fun G'=>?_)) (h.ok z Hm)
    rcases al with e | e
    · exact KG k (List.mem_flatMap.2 ⟨z,e,ak⟩) k (by simp [G']) rfl
    · exact Tb k G' k (List.mem_flatMap.2 ⟨z,e,ak⟩) rfl
   simp only [List.mem_append,List.mem_cons] at hy
   rcases hy with hy | rfl | hy
   · exact XS y (.inl hy)
   · exact af
   · exact XS y (.inr hy)
 · rw [aq,List.nodup_append,List.nodup_append]
   have cj:∀ k ∈ l3.bD,∀ b,(b ∈ cc A\/b ∈ cc B)->k≠b:=fun k ak b ai e=>by
    subst e
    rcases ag k ak with e | e
    · rcases ai with ai | ai
      · exact KG k ai k (by simp [e]) rfl
      · exact Tb k e k ai rfl
    · have:=(h.lt k (by rw [ao];rcases ai with ai | ai <;> simp [ai])).1
      omega
   exact ⟨aes,⟨aS,aet,fun a a3 b ai=>cj a a3 b (.inr ai)⟩,fun a a3 b ai=>by
    rcases List.mem_append.1 ai with ai | ai
    · exact fun e=>cj b ai a (.inl a3) e.symm
    · exact KG a a3 b (by simp [ai])⟩
 · refine y.law (X++cc (A++x::B)) _ w w' (aj.mono (fun k ak=>by rw [ao];simp [ak])) (fun k ak=>?_) (h.rd y hy)
   rw [aq] at ak
   simp only [List.mem_append] at ak
   rcases ak with ak | ak | ak | ak
   · exact .inl (by simp [ak])
   · exact .inl (by rw [ao];simp [ak])
   · rcases ag k ak with e | e
     · exact .inl (by rw [ao];simp [e])
     · exact .inr e.1
   · exact .inl (by rw [ao];simp [ak])
theorem bz.more (h:bz W aD X w E D) {y:bF} (hy:y.ok (X++cc E) w):bz W aD X w E (y::D):=
 ⟨h.cr,h.gZ,h.lt,h.ok,h.bA,fun z al=>by rcases List.mem_cons.1 al with rfl | e;exact hy;exact h.rd z e⟩
theorem bz.less (h:bz W aD X w E D) {fo:List bF} (ar:∀ y ∈ fo,y ∈ D):bz W aD X w E fo:=⟨h.cr,h.gZ,h.lt,h.ok,h.bA,fun y hy=>h.rd y (ar y hy)⟩
theorem bz.e (h:bz W aD X w E D) (i:Nat) {x:ba} (hi:E[i]? =some x):x.ok w:=h.ok x (List.mem_of_getElem? hi)
theorem bz.d (h:bz W aD X w E D) (i:Nat) {y:bF} (hi:D[i]? =some y):y.ok (X++cc E) w:=h.rd y (List.mem_of_getElem? hi)
theorem bF.less {y:bF} {M hJ:List Nat} (h:y.ok M w) (hm:∀ k ∈ hJ,k ∈ M):y.ok hJ w:=y.law M hJ w w (bw.refl _ _) (fun k ak=>.inl (hm k ak)) h
theorem bz.I9 (h:bz W aD X w E D) (i:Nat) {x l3:ba} (hi:E[i]? =some x) (aj:bw x.bD w w') (af:l3.ok w') (aS:l3.bD.Nodup)
 (ag:∀ k ∈ l3.bD,k ∈ x.bD\/(w.heap.size<=k/\k <w'.heap.size)):bz W aD X w' (E.set i l3) D:=by
 obtain ⟨au,rfl⟩:=List.getElem?_eq_some_iff.1 hi
 have ah:E=E.take i++E[i]::E.drop (i+ 1):=by simp
 have:=h.uy ah aj af aS ag
 rwa [List.set_eq_take_append_cons_drop,if_pos au]
end
end ay
namespace ay
open Go Go.RowKit I
abbrev cv (l:List UInt8):Value:=.string ⟨⟨l⟩⟩
structure c8 (α:Type) where
 size:Nat
 rd:(Nat->Prop)->World->List Value->α->Prop
 len:∀ {F w cs d},rd F w cs d->cs.length=size
 one:∀ {F w cs d},rd F w cs d-> ∀ v ∈ cs,v.oneCell'=true
 law:∀ {F F' w w' cs d},(∀ k,F k->F' k/\w'.heap[k]? =w.heap[k]?)->rd F w cs d->rd F' w' cs d
def gS (M:List Nat) (w:World):Nat->Prop:=fun k=>k ∉ M/\k <w.heap.size
def bF.of {α:Type} (T:c8 α) (cs:List Value) (d:α):bF where
 ok M w:=T.rd (gS M w) w cs d
 law M hJ w w' aj hm h:=T.law (fun k ak=>⟨⟨fun af=>by rcases hm k af with e | e;exact ak.1 e;exact absurd ak.2 (by omega),Nat.lt_of_lt_of_le ak.2 aj.size⟩,aj.block k ak.2 ak.1⟩) h
def eF (k:IntKind):c8 Int where
 size:=1
 rd _ _ cs d:=cs= [.int k d]
 len h:=by subst h;rfl
 one h v aj:=by subst h;simp at aj;subst aj;rfl
 law _ h:=h
def I_:c8 UInt8 where
 size:=1
 rd _ _ cs d:=cs= [.int .u8 (d.toNat:Int)]
 len h:=by subst h;rfl
 one h v aj:=by subst h;simp at aj;subst aj;rfl
 law _ h:=h
def awc:c8 Bool where
 size:=1
 rd _ _ cs d:=cs= [.bool d]
 len h:=by subst h;rfl
 one h v aj:=by subst h;simp at aj;subst aj;rfl
 law _ h:=h
def hF:c8 (List UInt8) where
 size:=1
 rd _ _ cs d:=cs= [cv d]
 len h:=by subst h;rfl
 one h v aj:=by subst h;simp at aj;subst aj;rfl
 law _ h:=h
section
variable {α:Type} (T:c8 α)
def dF (F:Nat->Prop) (w:World):List Value->List α->Prop
 | xs,[]=>xs= []
 | xs,d::r=>∃ cs ys,xs=cs++ys/\T.rd F w cs d/\dF F w ys r
theorem rq {F:Nat->Prop} {w:World}:∀ {l:List α} {xs:List Value},dF T F w xs l->xs.length=l.length*T.size
 | [],xs,h=>by simp only [dF] at h;subst h;simp
 | d::r,xs,h=>by
   obtain ⟨cs,ys,rfl,J,aa⟩:=h
   rw [List.length_append,T.len J,rq aa,List.length_cons,Nat.add_mul];omega
theorem yC {F:Nat->Prop} {w:World}:∀ {l:List α} {xs:List Value},dF T F w xs l-> ∀ v ∈ xs,v.oneCell'=true
 | [],xs,h=>by simp only [dF] at h;subst h;simp
 | d::r,xs,h=>by
   obtain ⟨cs,ys,rfl,J,aa⟩:=h
   intro v aj
   rcases List.mem_append.1 aj with e | e
   · exact T.one J v e
   · exact yC aa v e
theorem k7 {F F':Nat->Prop} {w w':World} (aR:∀ k,F k->F' k/\w'.heap[k]? =w.heap[k]?):∀ {l:List α} {xs:List Value},dF T F w xs l->dF T F' w' xs l
 | [],xs,h=>h
 | d::r,xs,h=>by
   obtain ⟨cs,ys,rfl,J,aa⟩:=h
   exact ⟨cs,ys,rfl,T.law aR J,k7 aR aa⟩
theorem abd {F:Nat->Prop} {w:World} {d:α} {cs:List Value} (aO:T.rd F w cs d):∀ {l:List α} {xs:List Value},dF T F w xs l->dF T F w (xs++cs) (l++[d])
 | [],xs,h=>by simp only [dF] at h;subst h;exact ⟨cs,[],by simp,aO,rfl⟩
 | e::r,xs,h=>by
   obtain ⟨c,ys,rfl,J,aa⟩:=h
   exact ⟨c,ys++cs,by simp,J,abd aO aa⟩
theorem EK {F:Nat->Prop} {w:World} {l':List α} {eC:List Value} (h':dF T F w eC l'):∀ {l:List α} {xs:List Value},dF T F w xs l->dF T F w (xs++eC) (l++l')
 | [],xs,h=>by simp only [dF] at h;subst h;simpa using h'
 | e::r,xs,h=>by
   obtain ⟨c,ys,rfl,J,aa⟩:=h
   exact ⟨c,ys++eC,by simp,J,EK h' aa⟩
theorem EL {F:Nat->Prop} {w:World}:∀ {l:List α} {xs:List Value} {i:Nat} {d:α},dF T F w xs l->l[i]? =some d ->
 ∃ cs,T.rd F w cs d/\ ∀ j u,cs[j]? =some u->xs[i*T.size+j]? =some u
 | [],_,i,d,_,hi=>by simp at hi
 | e::r,xs,0,d,h,hi=>by
   obtain ⟨cs,ys,rfl,J,_⟩:=h
   simp only [List.getElem?_cons_zero,Option.some.injEq] at hi
   subst hi
   refine ⟨cs,J,fun j u aJ=>?_⟩
   have au:j <cs.length:=by
    rcases Nat.lt_or_ge j cs.length with h | h
    · exact h
    · rw [List.getElem?_eq_none h] at aJ;cases aJ
   simpa [List.getElem?_append,au] using aJ
 | e::r,xs,i+ 1,d,h,hi=>by
   obtain ⟨cs,ys,rfl,J,aa⟩:=h
   obtain ⟨c,hc,aJ⟩:=EL (i:=i) aa (by simpa using hi)
   refine ⟨c,hc,fun j u Dv=>?_⟩
   have hlen:=T.len J
   have ao:(i+ 1)*T.size+j=cs.length+(i*T.size+j):=by rw [Nat.add_mul];omega
   rw [ao,List.getElem?_append_right (by omega)]
   simpa using aJ j u Dv
def eW (w:World) (a:Addr) (xs:List Value):Prop:=∀ j u,xs[j]? =some u->w.cell? ⟨a.block,a.off+j,none⟩=some u
theorem eW.law {w w':World} {a:Addr} {xs:List Value} (h:eW w a xs) (ai:w'.heap[a.block]? =w.heap[a.block]?):eW w' a xs:=
 fun j u aJ=>(World.cell?_of_block (a:=⟨a.block,a.off+j,none⟩) ai).trans (h j u aJ)
def dO (A:Option Addr):Nat:=(A.getD ⟨0,0,none⟩).block
def f' (A:Option Addr):Nat:=(A.getD ⟨0,0,none⟩).off
def ca:c8 (List α) where
 size:=1
 rd F w cs l:=∃ A c,cs= [.slice A l.length c]/\l.length<=c/\c<=maxLen/\(A=none->c= 0) /\
  (l≠ []->A=some ⟨dO A,f' A,none⟩/\F (dO A)/\ ∃ xs,dF T F w xs l/\eW w ⟨dO A,f' A,none⟩ xs)
 len h:=by obtain ⟨A,c,rfl,_⟩:=h;rfl
 one h v aj:=by obtain ⟨A,c,rfl,_⟩:=h;simp at aj;subst aj;rfl
 law aR h:=by
  obtain ⟨A,c,J,az,bp,dj,gn⟩:=h
  refine ⟨A,c,J,az,bp,dj,fun au=>?_⟩
  obtain ⟨ao,aq,xs,a0,ch⟩:=gn au
  exact ⟨ao,(aR _ aq).1,xs,k7 T aR a0,ch.law (aR _ aq).2⟩
theorem jH {F:Nat->Prop} {w:World} {v:Value} {l:List α} (h:(ca T).rd F w [v] l):∃ A c,v= .slice A l.length c:=by
 obtain ⟨A,c,J,_⟩:=h
 exact ⟨A,c,by simpa using J⟩
theorem wO {F:Nat->Prop} {w:World} {A:Option Addr} {n c:Nat} {l:List α} {i:Int} {d:α} (h:(ca T).rd F w [.slice A n c] l) (hi:idx l i=some d) :
 A=some ⟨dO A,f' A,none⟩/\(0 <=i/\i <n)/\ ∃ cs,T.rd F w cs d/\eW w ⟨dO A,f' A+i.toNat*T.size,none⟩ cs:=by
 obtain ⟨aY,J,aa⟩:=jr hi
 obtain ⟨db,bO,ao,a0,ch,dt,gk⟩:=h
 simp only [List.cons.injEq,Value.slice.injEq,and_true] at ao
 obtain ⟨rfl,rfl,rfl⟩:=ao
 obtain ⟨dz,bN,xs,fh,hL⟩:=gk (fun Ng=>by rw [Ng] at J;simp at J)
 obtain ⟨cs,hc,sY⟩:=EL T fh aa
 refine ⟨dz,⟨aY,by omega⟩,cs,hc,fun j u aJ=>?_⟩
 have:=hL (i.toNat*T.size+j) u (sY j u aJ)
 simpa [Nat.add_assoc] using this
end
def ba.dD (g:Nat) (t:TypeId) (cs:List Value):ba where
 bD:=[g]
 ok w:=w.heap[g]? =some (.cells cs.toArray t (0,0))
 law w w' h ak:=(h g (by simp)).trans ak
def ba.row {α:Type} (e:TypeId) (size:Nat) (v:Value) (l:List α) (xs:List Value):ba where
 bD:=v.ownBlock.toList
 ok w:=w.ownsRow 0 e size v l.length xs
 law w w' h ak:=by
  refine ⟨ak.1,?_⟩
  rcases ak.2 with aS | ⟨g,cap,cur,rfl,ai,Dn,rest⟩
  · exact .inl aS
  · exact .inr ⟨g,cap,cur,rfl,ai,(h g (by simp [Value.ownBlock])).trans Dn,rest⟩
def bF.rows {α:Type} (T:c8 α) (xs:List Value) (l:List α):bF where
 ok M w:=dF T (gS M w) w xs l
 law M hJ w w' aj hm h:=k7 T (fun k ak=>⟨⟨fun af=>by rcases hm k af with e | e;exact ak.1 e;exact absurd ak.2 (by omega),Nat.lt_of_lt_of_le ak.2 aj.size⟩,aj.block k ak.2 ak.1⟩) h
theorem IQ {α:Type} {w:World} {e:TypeId} {size:Nat} {v:Value} {l:List α} {xs:List Value} (h:(ba.row e size v l xs).ok w):∃ A c,v= .slice A l.length c/\l.length<=c/\c<=maxLen/\(A=none->c= 0)/\(A≠none->A=some ⟨dO A,0,none⟩):=by
 have h':w.ownsRow 0 e size v l.length xs:=h
 rcases h'.2 with ⟨rfl,aY⟩ | ⟨g,cap,cur,rfl,_,_,J,aa,_⟩
 · exact ⟨none,0,by rw [aY],by omega,Nat.zero_le _,fun _=>rfl,fun h=>absurd rfl h⟩
 · exact ⟨some ⟨g,0,none⟩,cap,rfl,J,aa,(fun h=>by cases h),fun _=>rfl⟩
theorem avm {α:Type} {T:c8 α} {M:List Nat} {w:World} {e:TypeId} {A:Option Addr} {n c:Nat} {l:List α} {xs:List Value} (h:(ba.row e T.size (.slice A n c) l xs).ok w) (aN:(bF.rows T xs l).ok M w)
 (eu:∀ k ∈ (Value.slice A n c).ownBlock.toList,k ∉ M):(bF.of (ca T) [.slice A n c] l).ok M w:=by
 have h':w.ownsRow 0 e T.size (.slice A n c) l.length xs:=h
 have jq:dF T (gS M w) w xs l:=aN
 show (ca T).rd (gS M w) w _ l
 rcases h'.2 with ⟨J,aY⟩ | ⟨g,cap,cur,J,_,aA,hle,hm,ar,af⟩
 · have au:l= []:=List.eq_nil_of_length_eq_zero aY
   simp only [Value.slice.injEq] at J
   obtain ⟨rfl,rfl,rfl⟩:=J
   subst au
   exact ⟨none,0,rfl,by simp,Nat.zero_le _,fun _=>rfl,fun h=>absurd rfl h⟩
 · simp only [Value.slice.injEq] at J
   obtain ⟨rfl,rfl,rfl⟩:=J
   refine ⟨_,_,rfl,hle,hm,(fun h=>by cases h),fun _=>⟨rfl,⟨eu g (by simp [Value.ownBlock]),(Array.getElem?_eq_some_iff.1 aA).1⟩,xs,jq,fun j u aJ=>?_⟩⟩
   have hv:=h'.cells (g:=g) rfl j u aJ
   simpa [Addr.add,dO,f'] using (by
    have e:(⟨g,0,none⟩:Addr).add j=⟨g,0 +j,none⟩:=by unfold Addr.add;split <;> simp_all
    rw [e] at hv;exact hv:w.cell? ⟨g,0 +j,none⟩=some u)
theorem sH {w:World} {g:Nat} {t:TypeId} {cs:List Value} (h:(ba.dD g t cs).ok w) {j:Nat} {v:Value} (aJ:cs[j]? =some v):w.cell? ⟨g,j,none⟩=some v:=by
 have h':w.heap[g]? =some (.cells cs.toArray t (0,0)):=h
 simp [World.cell?,h',aJ]
theorem CJ {w:World} {g:Nat} {t:TypeId} {cs:List Value} (h:(ba.dD g t cs).ok w):g <w.heap.size:=by
 have h':w.heap[g]? =some (.cells cs.toArray t (0,0)):=h
 exact (Array.getElem?_eq_some_iff.1 h').1
theorem adz (w:World) (t:TypeId) (cs:List Value):(ba.dD w.heap.size t cs).ok (w.alloc (.cells cs.toArray t)):=heap_alloc_new w _
def bF.hs (g:Nat) (cs:List Value):bF where
 ok M w:=g ∉ M/\g <w.heap.size/\eW w ⟨g,0,none⟩ cs
 law M hJ w w' aj hm h:=⟨fun af=>by rcases hm g af with e | e;exact h.1 e;exact absurd h.2.1 (by omega),Nat.lt_of_lt_of_le h.2.1 aj.size,h.2.2.law (aj.block g h.2.1 h.1)⟩
theorem la {α:Type} {T:c8 α} {F:Nat->Prop} {w:World} {cs:List Value} {l:List α} (h:(ca T).rd F w cs l):∃ A c,cs= [.slice A l.length c]:=by
 obtain ⟨A,c,J,_⟩:=h
 exact ⟨A,c,J⟩
theorem avl {α:Type} {T:c8 α} {M:List Nat} {w:World} {e:TypeId} {A:Option Addr} {n c:Nat} {l:List α} {xs:List Value} {i:Int} {d:α} (h:(ba.row e T.size (.slice A n c) l xs).ok w) (aN:(bF.rows T xs l).ok M w) (hi:idx l i=some d) :
 A=some ⟨dO A,f' A,none⟩/\(0 <=i/\i <n)/\ ∃ cs,T.rd (gS M w) w cs d/\eW w ⟨dO A,f' A+i.toNat*T.size,none⟩ cs:=by
 obtain ⟨aY,J,aa⟩:=jr hi
 have h':w.ownsRow 0 e T.size (.slice A n c) l.length xs:=h
 have jq:dF T (gS M w) w xs l:=aN
 rcases h'.2 with ⟨ao,dn⟩ | ⟨g,cap,cur,ao,_,aA,_⟩
 · omega
 · simp only [Value.slice.injEq] at ao
   obtain ⟨rfl,rfl,rfl⟩:=ao
   obtain ⟨cs,hc,sY⟩:=EL T jq aa
   refine ⟨rfl,⟨aY,by omega⟩,cs,hc,fun j u aJ=>?_⟩
   have hv:=h'.cells (g:=g) rfl _ u (sY j u aJ)
   have aq:(⟨g,0,none⟩:Addr).add (i.toNat*T.size+j)=⟨g,0 +(i.toNat*T.size+j),none⟩:=by unfold Addr.add;split <;> simp_all
   rw [aq] at hv
   show w.cell? ⟨g,0 +i.toNat*T.size+j,none⟩=some u
   rw [Nat.add_assoc];exact hv
end ay
namespace ay
open Go Go.RowKit I
theorem ZO (p q:List UInt8):(p == q)=decide (p=q):=by
 rw [Bool.eq_iff_iff];simp
section
variable {P:Program} {o:Oper} {a:Act} {w:World}
abbrev bj (P:Program) (o:Oper) (a:Act) (w:World) (v:Value) (w':World):Prop:=(execOp a.eval o).run P w= .ok (.value v) w'
abbrev nn (P:Program) (o:Oper) (a:Act) (w:World) (w':World):Prop:=(execOp a.eval o).run P w= .ok .skip w'
theorem ac6 {x:Operand} {v:Value} (aC:o.op= .move x) (af:a.eval x=v):bj P o a w v w:=by
 simp only [bj,execOp,aC,af];rfl
theorem acZ {x:Operand} {v:Value} (aC:o.op= .assign x) (af:a.eval x=v):bj P o a w v w:=by
 simp only [bj,execOp,aC,af];rfl
theorem JQ {c x y:Operand} {v:Value} (aC:o.op= .pick c x y) (hc:a.eval c= .bool true) (af:a.eval x=v):bj P o a w v w:=by
 simp only [bj,execOp,aC,hc,af];rfl
theorem JP {c x y:Operand} {v:Value} (aC:o.op= .pick c x y) (hc:a.eval c= .bool false) (hy:a.eval y=v):bj P o a w v w:=by
 simp only [bj,execOp,aC,hc,hy];rfl
section
variable {x y:Operand} {t t':TypeId} {k:IntKind} {m n:Int}
theorem ayl (aC:o.op= .binOp .add t x y t') (af:a.eval x= .int k m) (hy:a.eval y= .int k n):bj P o a w (.int k (k.wrap (m+n))) w:=by
 simp only [bj,execOp,aC,af,hy]
 simp [go_sem]
theorem ayS (aC:o.op= .binOp .sub t x y t') (af:a.eval x= .int k m) (hy:a.eval y= .int k n):bj P o a w (.int k (k.wrap (m - n))) w:=by
 simp only [bj,execOp,aC,af,hy]
 simp [go_sem]
theorem ayH (aC:o.op= .binOp .mul t x y t') (af:a.eval x= .int k m) (hy:a.eval y= .int k n):bj P o a w (.int k (k.wrap (m*n))) w:=by
 simp only [bj,execOp,aC,af,hy]
 simp [go_sem]
theorem ayQ (aC:o.op= .binOp .quo t x y t') (af:a.eval x= .int k m) (hy:a.eval y= .int k n) (aY:n≠ 0):bj P o a w (.int k (k.wrap (m.tdiv n))) w:=by
 simp only [bj,execOp,aC,af,hy]
 simp [go_sem,aY]
theorem ayF (aC:o.op= .binOp .lss t x y t') (af:a.eval x= .int k m) (hy:a.eval y= .int k n):bj P o a w (.bool (decide (m <n))) w:=by
 simp only [bj,execOp,aC,af,hy]
 simp [go_sem]
theorem ayE (aC:o.op= .binOp .leq t x y t') (af:a.eval x= .int k m) (hy:a.eval y= .int k n):bj P o a w (.bool (decide (m<=n))) w:=by
 simp only [bj,execOp,aC,af,hy]
 simp [go_sem]
theorem ayA (aC:o.op= .binOp .gtr t x y t') (af:a.eval x= .int k m) (hy:a.eval y= .int k n):bj P o a w (.bool (decide (n <m))) w:=by
 simp only [bj,execOp,aC,af,hy]
 simp [go_sem]
theorem ayz (aC:o.op= .binOp .geq t x y t') (af:a.eval x= .int k m) (hy:a.eval y= .int k n):bj P o a w (.bool (decide (n<=m))) w:=by
 simp only [bj,execOp,aC,af,hy]
 simp [go_sem]
theorem ayx (aL:P.underlying t=some (.int k)) (aC:o.op= .binOp .eql t x y t') (af:a.eval x= .int k m) (hy:a.eval y= .int k n):bj P o a w (.bool (decide (m=n))) w:=by
 have:=run_underlying (P:=P) aL
 simp only [bj,execOp,aC,af,hy]
 simp [go_sem,this]
 rfl
theorem ayK (aL:P.underlying t=some (.int k)) (aC:o.op= .binOp .neq t x y t') (af:a.eval x= .int k m) (hy:a.eval y= .int k n):bj P o a w (.bool (!decide (m=n))) w:=by
 have:=run_underlying (P:=P) aL
 simp only [bj,execOp,aC,af,hy]
 simp [go_sem,this]
 rfl
end
section
variable {x y:Operand} {t t':TypeId} {p q:Bool}
theorem avz (aL:P.underlying t=some .bool) (p q:Bool) (w:World):(binOp .eql t (.bool p) (.bool q)).run P w= .ok (.bool (p == q)) w:=by
 have h:∀ d:Nat,(Op.equalIn (d+ 1) t (.bool p) (.bool q)).run P w= .ok (p == q) w:=fun d=>by
  simp [Op.equalIn,run_underlying aL]
 simp only [binOp]
 simp [Op.equal,Op.maxDepth,h 9999]
theorem avA (aL:P.underlying t=some .bool) (p q:Bool) (w:World):(binOp .neq t (.bool p) (.bool q)).run P w= .ok (.bool (!(p == q))) w:=by
 have h:∀ d:Nat,(Op.equalIn (d+ 1) t (.bool p) (.bool q)).run P w= .ok (p == q) w:=fun d=>by
  simp [Op.equalIn,run_underlying aL]
 simp only [binOp]
 simp [Op.equal,Op.maxDepth,h 9999]
theorem ayw (aL:P.underlying t=some .bool) (aC:o.op= .binOp .eql t x y t') (af:a.eval x= .bool p) (hy:a.eval y= .bool q):bj P o a w (.bool (p == q)) w:=by
 simp only [bj,execOp,aC,af,hy]
 simp [go_sem,avz aL]
theorem ayJ (aL:P.underlying t=some .bool) (aC:o.op= .binOp .neq t x y t') (af:a.eval x= .bool p) (hy:a.eval y= .bool q):bj P o a w (.bool (!(p == q))) w:=by
 simp only [bj,execOp,aC,af,hy]
 simp [go_sem,avA aL]
theorem ac8 (aC:o.op= .unOp .not t x) (af:a.eval x= .bool p):bj P o a w (.bool (!p)) w:=by
 simp only [bj,execOp,aC,af]
 simp [go_sem]
end
section
variable {x y:Operand} {t t':TypeId} {p q:List UInt8}
theorem ayy (aL:P.underlying t=some .string) (aC:o.op= .binOp .eql t x y t') (af:a.eval x=cv p) (hy:a.eval y=cv q):bj P o a w (.bool (decide (p=q))) w:=by
 have:=run_underlying (P:=P) aL
 simp only [bj,execOp,aC,af,hy]
 simp [go_sem,this]
 exact ZO p q
theorem ayL (aL:P.underlying t=some .string) (aC:o.op= .binOp .neq t x y t') (af:a.eval x=cv p) (hy:a.eval y=cv q):bj P o a w (.bool (!decide (p=q))) w:=by
 have:=run_underlying (P:=P) aL
 simp only [bj,execOp,aC,af,hy]
 simp [go_sem,this]
 exact ZO p q
theorem ac4 {kA:TypeId} (aL:P.underlying kA=some .string) (aC:o.op= .call { callee:=.builtin .len,args:=#[x],argTypes:=#[kA] }) (af:a.eval x=cv p):bj P o a w (.int .i64 p.length) w:=by
 simp only [bj,execOp,aC,resolve,invoke,List.map_toArray,List.map_cons,List.map_nil,af]
 simp [go_sem,Builtin.len_,run_underlying aL,goInt]
theorem ac3 {kA:TypeId} {A:Option Addr} {n c:Nat} {e:TypeId} (aL:P.underlying kA=some (.slice e)) (aC:o.op= .call { callee:=.builtin .len,args:=#[x],argTypes:=#[kA] }) (af:a.eval x= .slice A n c):bj P o a w (.int .i64 n) w:=by
 simp only [bj,execOp,aC,resolve,invoke,List.map_toArray,List.map_cons,List.map_nil,af]
 simp [go_sem,Builtin.len_,run_underlying aL,goInt]
theorem ayC {i:Nat} {b:UInt8} (aL:P.underlying t=some .string) (aC:o.op= .index t x y) (af:a.eval x=cv p) (hy:a.eval y= .int .i64 i) (ai:p[i]? =some b):bj P o a w (.int .u8 b.toNat) w:=by
 simp only [bj,execOp,aC,af,hy]
 obtain ⟨J,aa⟩:=List.getElem?_eq_some_iff.1 ai
 have e:(⟨⟨p⟩⟩:ByteArray)[i]? =some b:=by
  show (if h:i <_ then some _ else none)=_
  rw [dif_pos (show i <(⟨⟨p⟩⟩:ByteArray).size from J)]
  exact congrArg some aa
 simp [go_sem,Instr.index,run_underlying aL,e]
theorem RE {k k':IntKind} {n:Int} (aL:P.underlying t=some (.int k)) (qF:P.underlying t'=some (.int k')) (aC:o.op= .convert t t' x) (af:a.eval x= .int k n):bj P o a w (.int k' (k'.wrap n)) w:=by
 simp only [bj,execOp,aC,af]
 simp [go_sem,convert,run_underlying aL,run_underlying qF]
end
end
theorem rF (n:Int):IntKind.i64.wrap n=aX n:=by rw [IntKind.wrap_i64];rfl
theorem ab4 (n:Int):IntKind.u8.wrap n=((xw n).toNat:Int):=by rw [adw,IntKind.wrap_u8]
section
variable {P:Program} {o:Oper} {a:Act} {w:World} {x y:Operand} {t t':TypeId} {m n:Int}
theorem aym (aC:o.op= .binOp .add t x y t') (af:a.eval x= .int .i64 m) (hy:a.eval y= .int .i64 n):bj P o a w (.int .i64 (aX (m+n))) w:=by rw [<-rF];exact ayl aC af hy
theorem ayT (aC:o.op= .binOp .sub t x y t') (af:a.eval x= .int .i64 m) (hy:a.eval y= .int .i64 n):bj P o a w (.int .i64 (aX (m - n))) w:=by rw [<-rF];exact ayS aC af hy
theorem ayI (aC:o.op= .binOp .mul t x y t') (af:a.eval x= .int .i64 m) (hy:a.eval y= .int .i64 n):bj P o a w (.int .i64 (aX (m*n))) w:=by rw [<-rF];exact ayH aC af hy
theorem ac_ (aC:o.op= .binOp .rem t x y t') (af:a.eval x= .int .i64 m) (hy:a.eval y= .int .i64 n) (aY:(!decide (n= 0))=true):bj P o a w (.int .i64 (m.tmod n)) w:=by
 have aY:n≠ 0 :=by simpa using aY
 simp only [bj,execOp,aC,af,hy]
 simp [go_sem,aY]
theorem ac9 (aC:o.op= .binOp .quo t x y t') (af:a.eval x= .int .i64 m) (hy:a.eval y= .int .i64 n) (aY:(!decide (n= 0))=true):bj P o a w (.int .i64 (aX (m.tdiv n))) w:=by rw [<-rF];exact ayQ aC af hy (by simpa using aY)
theorem ayr (aL:P.underlying t=some (.int .i64)) (qF:P.underlying t'=some (.int .i64)) (aC:o.op= .convert t t' x) (af:a.eval x= .int .i64 m):bj P o a w (.int .i64 (aX m)) w:=by
 have h:=RE (P:=P) (w:=w) aL qF aC af
 rwa [rF] at h
theorem ays (aL:P.underlying t=some (.int .i64)) (qF:P.underlying t'=some (.int .u8)) (aC:o.op= .convert t t' x) (af:a.eval x= .int .i64 m):bj P o a w (.int .u8 ((xw m).toNat:Int)) w:=by
 have h:=RE (P:=P) (w:=w) aL qF aC af
 rwa [ab4] at h
theorem TG (a:Act) (g:Nat):a.eval (.global g)= .pointer (some ⟨g,0,none⟩):=rfl
theorem ac0 {vs:List Value} {i:Nat} {v:Value} (aC:o.op= .extract x i) (af:a.eval x= .tuple vs.toArray) (aj:vs[i]? =some v):bj P o a w v w:=by
 simp only [bj,execOp,aC,af]
 simp [go_sem,Instr.extract,aj]
theorem ac7 {p:Addr} (aC:o.op= .nilCheck x) (af:a.eval x= .pointer (some p)):bj P o a w (.pointer (some p)) w:=by
 simp only [bj,execOp,aC,af]
 rfl
end
end ay
namespace ay
open Go Go.RowKit I
theorem iK (b o n:Nat):(⟨b,o,none⟩:Addr).add n=⟨b,o+n,none⟩:=by
 unfold Addr.add;split <;> simp_all
section
variable {P:Program} {o:Oper} {a:Act} {w:World} {x y:Operand} {t e s:TypeId}
theorem ayD {i:Int} {b:UInt8} {p:List UInt8} (aL:P.underlying t=some .string) (aC:o.op= .index t x y) (af:a.eval x=cv p) (hy:a.eval y= .int .i64 i) (ai:idx p i=some b):bj P o a w (.int .u8 b.toNat) w:=by
 obtain ⟨aY,J,aa⟩:=jr ai
 obtain ⟨n,rfl⟩:=Int.eq_ofNat_of_zero_le aY
 exact ayC aL aC af hy (by simpa using aa)
theorem oj {A:Option Addr} {n c sz:Nat} {i:Int} (aL:P.underlying t=some (.slice e)) (ar:∀ w,(Go.sizeOf e).run P w= .ok sz w)
 (aC:o.op= .indexAddr t x y) (af:a.eval x= .slice A n c) (hy:a.eval y= .int .i64 i) (dT:A=some ⟨dO A,f' A,none⟩) (hi:0 <=i/\i <n) :
 bj P o a w (.pointer (some ⟨dO A,f' A+i.toNat*sz,none⟩)) w:=by
 obtain ⟨aY,J⟩:=hi
 obtain ⟨k,rfl⟩:=Int.eq_ofNat_of_zero_le aY
 have bL:k <n:=by omega
 rw [dT] at af
 simp only [bj,execOp,aC,af,hy]
 simp [go_sem,Instr.indexAt,run_underlying aL,bL,ar,iK]
theorem ac1 {cM:Array Field} {f:Field} {j b p sz:Nat} (aL:P.underlying s=some (.struct cM)) (ag:cM[j]? =some f) (ar:∀ w,(Go.sizeOf f.type).run P w= .ok sz w) (aY:Nat.beq sz 0 =false)
 (aC:o.op= .fieldAddr s x j) (af:a.eval x= .pointer (some ⟨b,p,none⟩)):bj P o a w (.pointer (some ⟨b,p+f.offset,none⟩)) w:=by
 have ajT:sz≠ 0 :=by intro e;subst e;simp at aY
 simp only [bj,execOp,aC,af]
 simp [go_sem,Instr.fieldAt,run_underlying aL,ag,fieldPlace,ar,ajT,iK]
theorem RF {b p:Nat} {v:Value} (aA:∀ w,(isAgg t).run P w= .ok false w) (aC:o.op= .load t x) (af:a.eval x= .pointer (some ⟨b,p,none⟩)) (hc:w.cell? ⟨b,p,none⟩=some v):bj P o a w v w:=by
 simp only [bj,execOp,aC,af]
 simp [go_sem,Instr.loadAt,loadVar,aA,hc]
theorem ac5 {b p sz:Nat} {cs:List Value} (aA:∀ w,(isAgg t).run P w= .ok true w) (ar:∀ w,(Go.sizeOf t).run P w= .ok sz w) (au:cs.length=sz) (aC:o.op= .load t x)
 (af:a.eval x= .pointer (some ⟨b,p,none⟩)) (hc:eW w ⟨b,p,none⟩ cs):bj P o a w (.agg cs.toArray) w:=by
 have h:=run_loadCells_list (P:=P) w ⟨b,p,none⟩ cs (fun j u aJ=>by rw [iK];exact hc j u aJ)
 rw [au] at h
 unfold loadCells at h
 simp only [bj,execOp,aC,af]
 simp [go_sem,Instr.loadAt,loadVar,aA,ar,h]
theorem JL {v:Value} {cs:List Value} (aj:v.cells=cs.toArray) (aC:o.op= .box t x) (af:a.eval x=v):bj P o a w (.pointer (some ⟨w.heap.size,0,none⟩)) (w.alloc (.cells cs.toArray t)):=by
 have gr:=aj
 unfold Value.cells at gr
 simp only [bj,execOp,aC,af]
 simp [go_sem,Instr.box,newVar,newRow,gr]
theorem uL {z:Value} {cs:List Value} (al:∀ w,(zeroValue t).run P w= .ok z w) (aj:z.cells=cs.toArray) (aC:o.op= .alloc t):bj P o a w (.pointer (some ⟨w.heap.size,0,none⟩)) (w.alloc (.cells cs.toArray t)):=by
 have gr:=aj
 unfold Value.cells at gr
 simp only [bj,execOp,aC]
 simp [go_sem,Instr.alloc,newVar,newRow,al,gr]
end
def lay:List Value->Nat->List Value->List Value
 | l,0,cs=>cs++l.drop cs.length
 | [],_+ 1,_=>[]
 | u::l,n+ 1,cs=>u::lay l n cs
theorem Oa:∀ (l:List Value) (n:Nat) (cs:List Value),n+cs.length<=l.length->lay l n cs=l.take n++cs++l.drop (n+cs.length)
 | l,0,cs,_=>by simp [lay]
 | [],n+ 1,cs,h=>by simp at h
 | u::l,n+ 1,cs,h=>by
   have:=Oa l n cs (by simp at h;omega)
   simp only [lay,this,List.take_succ_cons,List.cons_append]
   have e:n+ 1 +cs.length=(n+cs.length)+ 1 :=by omega
   rw [e,List.drop_succ_cons]
section
variable {P:Program} {o:Oper} {a:Act} {w:World} {x y:Operand} {t e s:TypeId}
theorem RG {g p sz:Nat} {tb:TypeId} {cs vs:List Value} {v:Value} (aj:v.cells=vs.toArray) (ar:∀ w,(Go.sizeOf t).run P w= .ok sz w) (au:Nat.beq vs.length sz=true) (J:vs.all (·.oneCell')=true)
 (hle:Nat.ble (p+vs.length) cs.length=true) (ai:(ba.dD g tb cs).ok w) (aC:o.op= .store t x y) (af:a.eval x= .pointer (some ⟨g,p,none⟩)) (hy:a.eval y=v) :
 ∃ w',nn P o a w w'/\bw [g] w w'/\(ba.dD g tb (lay cs p vs)).ok w':=by
 have fi:w.heap[g]? =some (.cells cs.toArray tb (0,0)):=ai
 have hlen:vs.length=sz:=Nat.eq_of_beq_eq_true au
 have Hb:p+vs.length<=cs.length:=Nat.le_of_ble_eq_true hle
 have h:=run_storeCells_at P g p tb vs 0 cs.toArray w fi (by simpa using Hb) (fun u hu=>List.all_eq_true.1 J u hu)
 simp only [Nat.add_zero] at h
 refine ⟨w.setRow g (lay cs p vs).toArray,?_,?_,?_⟩
 · simp only [nn,execOp,aC,af,hy]
   rw [Oa _ _ _ Hb]
   simp only [List.append_assoc,hlen] at h
   have gr:=aj
   unfold Value.cells at gr
   simp [go_sem,Instr.storeAt,storeVar,ar,gr,hlen,h]
 · refine ⟨rfl,rfl,rfl,by simp [World.setRow],fun k _ aS=>?_⟩
   simp only [World.setRow,Array.getElem?_modify]
   rw [if_neg (by simpa [eq_comm] using aS)]
 · show (w.setRow g _).heap[g]? =_
   simp [World.setRow,Array.getElem?_modify,fi]
end
section
variable {P:Program} {o:Oper} {a:Act} {w:World} {x y:Operand} {t e:TypeId}
def Gt (a:Act):List (Nat × Operand)->List (Nat × Value)->Prop
 | [],[]=>True
 | (i,x)::xs,(j,v)::vs=>(a.eval x=v/\i=j)/\Gt a xs vs
 | _,_=>False
theorem Lh:∀ {xs:List (Nat × Operand)} {vs:List (Nat × Value)},Gt a xs vs->xs.map (fun p=>(p.1,a.eval p.2))=vs
 | [],[],_=>rfl
 | (i,x)::xs,(j,v)::vs,h=>by
   obtain ⟨⟨J,rfl⟩,aa⟩:=h
   rw [List.map_cons,Lh aa,J]
def placesOf (P:Program) (t:TypeId):Sem (Array (Nat × Nat)):=(match P.underlying t with | some (.struct cM)=>cM | _=>#[]).mapM fun (f:Field)=>do pure (f.offset,<-Go.sizeOf f.type)
theorem ayp {z:Value} {cM:Array Field} {pl:Array (Nat × Nat)} {xs:List (Nat × Operand)} {vs:List (Nat × Value)} {cs:List Value} (al:∀ w,(zeroValue t).run P w= .ok z w) (hu:P.underlying t=some (.struct cM))
 (aP:∀ w,(placesOf P t).run P w= .ok pl w) (aC:o.op= .build t xs.toArray) (af:Gt a xs vs) (MQ:Instr.fill (fun i=>pl[i]?) z.cells vs=some cs.toArray):bj P o a w (.agg cs.toArray) w:=by
 have s5:=aP w
 simp only [placesOf,hu] at s5
 have J:=Lh af
 simp only [bj,execOp,aC,Instr.build,Sem.run_bind,al,Result.andThen_ok,run_underlying hu,s5,List.map_toArray]
 have e:(xs.map fun (i,x)=>(i,a.eval x))=vs:=J
 simp only [e,MQ]
 rfl
theorem y4 {z:Value} {sz n:Nat} {xs:List (Nat × Operand)} {vs:List (Nat × Value)} {cs:List Value} (hu:P.underlying t=some (.slice e)) (ar:∀ w,(Go.sizeOf e).run P w= .ok sz w) (al:∀ w,(zeroValue e).run P w= .ok z w)
 (hle:Nat.ble (n*sz) 16777216 =true) (cj:Nat.beq (n*sz) 0 =false) (aC:o.op= .buildSlice t n xs.toArray) (af:Gt a xs vs)
 (MQ:Instr.fill (fun i=>some (i*sz,sz)) ((Array.range (n*sz)).map (z.cells[· % z.cells.size]!)) vs=some cs.toArray) :
 bj P o a w (.slice (some ⟨w.heap.size,0,none⟩) n n) (w.alloc (.cells cs.toArray e)):=by
 have J:=Lh af
 have ao:(xs.map fun (i,x)=>(i,a.eval x))=vs:=J
 have aa: ¬ (n*sz > 2 ^ 24):=by have:=Nat.le_of_ble_eq_true hle;omega
 have az:n*sz≠ 0 :=by intro aY;rw [aY] at cj;simp at cj
 simp only [bj,execOp,aC,Instr.buildSlice,Sem.run_bind,Sem.run_pure,ar,al,Result.andThen_ok,run_underlying hu,List.map_toArray,ao,if_neg aa,if_neg az,MQ]
 rfl
theorem ayN {t':TypeId} {m n:Int} (aC:o.op= .binOp .or t x y t') (af:a.eval x= .int .i64 m) (hy:a.eval y= .int .i64 n):bj P o a w (.int .i64 (O6 m n)) w:=by
 unfold O6
 rw [<-rF]
 simp only [bj,execOp,aC,af,hy]
 rfl
theorem ayn {t':TypeId} {m n:Int} (aC:o.op= .binOp .and t x y t') (af:a.eval x= .int .i64 m) (hy:a.eval y= .int .i64 n):bj P o a w (.int .i64 (Kn m n)) w:=by
 unfold Kn
 rw [<-rF]
 simp only [bj,execOp,aC,af,hy]
 rfl
end
end ay
namespace ay
open Go Go.RowKit I
section
variable {P:Program} {ops:Array Oper} {Q:Exit->Act->World->Prop} {a:Act} {w w':World} {rest:List Oper} {o:Oper} {n:cQ} {d:Nat} {l:List (Nat × Value)} {v:Value}
theorem Jn (aA:o.guard=none):Region.wanted o (yielded ops a.tmps)=true:=by simp [Region.wanted,aA]
theorem m3 (hw:Region.wanted o (yielded ops a.tmps)=true) (hy:bj P o a w v w') (ag:Fr n l a) (aO:o.dst=some d) (aS:Nat.blt d n=true) (k:∀ a7,Fr n ((d,v)::l) a7->wpList P ops Q rest a7 w'):wpList P ops Q (o::rest) a w:=by
 refine wpList_step fun K cV=>?_
 rw [if_pos hw]
 unfold Oper.wp
 rw [show (execOp a.eval o).run P w=_ from hy]
 show K (a.put o.dst v) w'
 rw [aO]
 exact cV _ _ (k _ (ag.put aS))
theorem hE (hw:Region.wanted o (yielded ops a.tmps)=true) (hy:nn P o a w w') (aO:o.dst=none) (k:wpList P ops Q rest a w'):wpList P ops Q (o::rest) a w:=by
 refine wpList_step fun K cV=>?_
 rw [if_pos hw]
 unfold Oper.wp
 rw [show (execOp a.eval o).run P w=_ from hy]
 show K (a.put o.dst undef) w'
 rw [aO]
 exact cV _ _ k
theorem awq {j bA:Nat} {b:Bool} (ag:Fr n l a) (aA:o.guard=some (j,b)) (aJ:(ops[j]?).bind (·.dst)=some bA) (au:eb l bA=some (.bool b)) (aS:Nat.blt bA n=true):Region.wanted o (yielded ops a.tmps)=true:=by
 have bL:bA <n:=Nat.le_of_ble_eq_true aS
 have h:=ag.get bA _ au
 have ar:=ag.size
 have aa:a.tmps[bA]? =some (.bool b):=by
  rw [Array.getElem?_eq_getElem (by omega)]
  simpa [Array.getD_eq_getD_getElem?,ar,bL] using h
 simp [Region.wanted,aA,yielded,aJ,aa]
theorem awp {j bA:Nat} {b h8:Bool} (ag:Fr n l a) (aA:o.guard=some (j,b)) (aJ:(ops[j]?).bind (·.dst)=some bA) (au:eb l bA=some (.bool h8)) (cj:(h8 == b)=false) (aS:Nat.blt bA n=true):Region.wanted o (yielded ops a.tmps)=false:=by
 have bL:bA <n:=Nat.le_of_ble_eq_true aS
 have h:=ag.get bA _ au
 have ar:=ag.size
 have aa:a.tmps[bA]? =some (.bool h8):=by
  rw [Array.getElem?_eq_getElem (by omega)]
  simpa [Array.getD_eq_getD_getElem?,ar,bL] using h
 simpa [Region.wanted,aA,yielded,aJ,aa] using cj
theorem awr {j bA:Nat} {b:Bool} (ag:Fr n l a) (aA:o.guard=some (j,b)) (aJ:(ops[j]?).bind (·.dst)=some bA) (au:eb l bA=some undef) (aS:Nat.blt bA n=true):Region.wanted o (yielded ops a.tmps)=false:=by
 have bL:bA <n:=Nat.le_of_ble_eq_true aS
 have h:=ag.get bA _ au
 have ar:=ag.size
 have aa:a.tmps[bA]? =some undef:=by
  rw [Array.getElem?_eq_getElem (by omega)]
  simpa [Array.getD_eq_getD_getElem?,ar,bL] using h
 simp [Region.wanted,aA,yielded,aJ,aa,undef]
theorem fQ (hw:Region.wanted o (yielded ops a.tmps)=false) (ag:Fr n l a) (aO:o.dst=some d) (aS:Nat.blt d n=true) (k:∀ a7,Fr n ((d,undef)::l) a7->wpList P ops Q rest a7 w):wpList P ops Q (o::rest) a w:=by
 refine wpList_step fun K cV=>?_
 rw [if_neg (by simp [hw]),aO]
 exact cV _ _ (k _ (ag.put aS))
def xQ (a:Act):List Operand->List Value->Prop
 | [],[]=>True
 | x::xs,v::vs=>a.eval x=v/\xQ a xs vs
 | _,_=>False
theorem Li:∀ {xs:List Operand} {vs:List Value},xQ a xs vs->xs.map a.eval=vs
 | [],[],_=>rfl
 | x::xs,v::vs,h=>by rw [List.map_cons,h.1,Li h.2]
theorem awz {f:FuncId} {xs:List Operand} {kA:Array TypeId} {vs:List Value} {R:Ending->World->Prop} {K:Act->World->Prop}
 (aC:o.op= .call { callee:=.value (.func f),args:=xs.toArray,argTypes:=kA }) (Df:∀ args w,(callFunc f args).run P w= .ok (.enter f args) w)
 (ia:xQ a xs vs) (hc:Calls P f vs.toArray w R) (k:∀ e w',R e w'-> ∃ v,e= .returned v/\K (a.put o.dst v) w'):o.wp P a w K Q:=by
 unfold Oper.wp
 have e:(execOp a.eval o).run P w= .ok (.enter f vs.toArray) w:=by
  have J:=Li ia
  simp only [execOp,aC,resolve,List.map_toArray,J]
  simp [go_sem,Act.eval,Deferred.ofValue,invoke,Df]
 rw [e]
 exact hc.mono fun e w' aN=>by
  obtain ⟨v,rfl,ak⟩:=k e w' aN
  exact ak
theorem EU {f:FuncId} {xs:List Operand} {kA:Array TypeId} {vs:List Value} {R:Ending->World->Prop} (hw:Region.wanted o (yielded ops a.tmps)=true)
 (aC:o.op= .call { callee:=.value (.func f),args:=xs.toArray,argTypes:=kA }) (Df:∀ args w,(callFunc f args).run P w= .ok (.enter f args) w)
 (ia:xQ a xs vs) (hc:Calls P f vs.toArray w R) (ag:Fr n l a) (aO:o.dst=some d) (aS:Nat.blt d n=true)
 (k:∀ e w',R e w'-> ∃ v,e= .returned v/\ ∀ a7,Fr n ((d,v)::l) a7->wpList P ops Q rest a7 w'):wpList P ops Q (o::rest) a w:=by
 refine wpList_step fun K cV=>?_
 rw [if_pos hw]
 refine awz aC Df ia hc fun e w' aN=>?_
 obtain ⟨v,he,ak⟩:=k e w' aN
 rw [aO]
 exact ⟨v,he,cV _ _ (ak _ (ag.put aS))⟩
end
section
variable {P:Program} {Q:Exit->Act->World->Prop} {a:Act} {w:World}
theorem SH {c:Code} (lk:Nat->Act->World->Prop) (k:Nat) (h:lk k a w) (aY:∀ a w,¬ lk 0 a w)
 (round:∀ k a w,lk (k+ 1) a w-> ∀ K:Act->World->Prop,(∀ a w,lk k a w->K a w)->c.wp P (Exit.then K Q) a w):(Code.loop c).wp P Q a w:=
 wp_loop_ghost lk k h fun m a w sW=>by
  cases m with
  | zero=>exact absurd sW (aY a w)
  | succ m=>exact round m a w sW _ fun a7 w' h'=>⟨m,Nat.lt_succ_self m,h'⟩
theorem auy {fn:Func} {R:Ending->World->Prop} {n:Nat} {l:List (Nat × Value)} (aN:fn.results= #[]) (ag:Fr ⟨n,[]⟩ l a) (h:R (.returned (.tuple #[])) w):bodyPost P fn R .ret a w:=
 ⟨ag.defers,_,results_none aN _ _ _,h⟩
theorem IB {fn:Func} {R:Ending->World->Prop} {n:Nat} {t:Nat} {l:List (Nat × Value)} {v:Value} (aN:fn.results= #[.tmp t]) (ag:Fr ⟨n,[]⟩ l a) (au:eb l t=some v) (h:R (.returned v) w):bodyPost P fn R .ret a w:=
 ⟨ag.defers,_,results_tmp aN _ _ _,by rw [ag.get _ _ au];exact h⟩
def QE (P:Program) (a:Act) (w:World):ResultVar->Value->Prop
 | .tmp t,v=>a.tmps.getD t undef=v
 | .cell dR ty,v=>∃ b p,a.tmps.getD dR undef= .pointer (some ⟨b,p,none⟩) /\
  ((∃ cs:List Value,(∀ w,(isAgg ty).run P w= .ok true w)/\(∀ w,(Go.sizeOf ty).run P w= .ok cs.length w)/\eW w ⟨b,p,none⟩ cs/\v= .agg cs.toArray) \/
   ((∀ w,(isAgg ty).run P w= .ok false w)/\w.cell? ⟨b,p,none⟩=some v))
def IK (P:Program) (a:Act) (w:World):List ResultVar->List Value->Prop
 | [],[]=>True
 | r::rs,v::vs=>QE P a w r v/\IK P a w rs vs
 | _,_=>False
def pack:List Value->Value
 | [v]=>v
 | vs=>.tuple vs.toArray
def IJ (a:Act):ResultVar->Sem Value
 | .tmp t=>pure (a.tmps.getD t undef)
 | .cell dR t=>do loadVar t (<-asAddr (a.tmps.getD dR undef))
theorem avB {r:ResultVar} {v:Value} (h:QE P a w r v):(IJ a r).run P w= .ok v w:=by
 cases r with
 | tmp t=>exact congrArg (fun x=>Result.ok x w) h
 | cell dR ty=>
   obtain ⟨b,p,J,aa⟩:=h
   simp only [IJ,J]
   rcases aa with ⟨cs,aA,ar,hc,rfl⟩ | ⟨aA,hc⟩
   · have au:=run_loadCells_list (P:=P) w ⟨b,p,none⟩ cs (fun j u aJ=>by rw [iK];exact hc j u aJ)
     unfold loadCells at au
     simp [go_sem,loadVar,asAddr,aA,ar,au]
   · simp [go_sem,loadVar,asAddr,aA,hc]
theorem abz:∀ {rs:List ResultVar} {vs:List Value},IK P a w rs vs->(rs.mapM (IJ a)).run P w= .ok vs w
 | [],[],_=>rfl
 | r::rs,v::vs,h=>by
   have J:=avB h.1
   have aa:=abz h.2
   rw [List.mapM_cons]
   simp only [Sem.run_bind,J,aa,Result.andThen_ok]
   rfl
theorem auv {fn:Func} {R:Ending->World->Prop} {n:Nat} {l:List (Nat × Value)} {rs:List ResultVar} {vs:List Value} (aN:fn.results=rs.toArray) (ag:Fr ⟨n,[]⟩ l a) (aj:IK P a w rs vs)
 (h:R (.returned (pack vs)) w):bodyPost P fn R .ret a w:=by
 refine ⟨ag.defers,pack vs,?_,h⟩
 have J:=abz aj
 unfold results
 have e:(fun x=>match x with | .tmp t=>pure (a.tmps.getD t undef) | .cell dR t=>do loadVar t (<-asAddr (a.tmps.getD dR undef)):ResultVar->Sem Value)=IJ a:=by
  funext x;cases x <;> rfl
 rw [aN,List.mapM_toArray]
 simp only [Sem.run_bind]
 show Result.andThen (((List.toArray <$> rs.mapM (fun x=>match x with | .tmp t=>pure (a.tmps.getD t undef) | .cell dR t=>do loadVar t (<-asAddr (a.tmps.getD dR undef)):ResultVar->Sem Value))).run P w) _=_
 rw [e,map_eq_pure_bind,Sem.run_bind,J]
 match vs with
 | []=>rfl
 | [v]=>rfl
 | v::u::r=>rfl
end
section
variable {P:Program} {ops:Array Oper} {Q:Exit->Act->World->Prop} {a:Act} {w:World} {rest:List Oper} {o:Oper} {n:cQ} {d:Nat} {l:List (Nat × Value)}
 {W:World} {aD X:List Nat} {E:List ba} {D:List bF}
theorem bz.new (hm:bz W aD X w E D) (t:TypeId) (cs:List Value):bz W aD X (w.alloc (.cells cs.toArray t)) (ba.dD w.heap.size t cs::E) D:=
 hm.push _ (bw.alloc _ _ _) (adz w t cs) (fun k ak=>by simp [ba.dD] at ak;subst ak;exact ⟨Nat.le_refl _,by simp⟩) (by simp [ba.dD])
theorem rA {g p sz:Nat} {t tb:TypeId} {x y:Operand} {cs vs:List Value} {v:Value} (i:Nat) (hm:bz W aD X w E D) (hi:E[i]? =some (ba.dD g tb cs)) (hw:Region.wanted o (yielded ops a.tmps)=true)
 (aj:v.cells=vs.toArray) (ar:∀ w,(Go.sizeOf t).run P w= .ok sz w) (au:Nat.beq vs.length sz=true) (J:vs.all (·.oneCell')=true) (hle:Nat.ble (p+vs.length) cs.length=true)
 (aC:o.op= .store t x y) (af:a.eval x= .pointer (some ⟨g,p,none⟩)) (hy:a.eval y=v) (aO:o.dst=none)
 (k:∀ w',bz W aD X w' (E.set i (ba.dD g tb (lay cs p vs))) D->wpList P ops Q rest a w'):wpList P ops Q (o::rest) a w:=by
 obtain ⟨w',J,aa,az⟩:=RG aj ar au J hle (hm.e i hi) aC af hy
 exact hE hw J aO (k w' (hm.I9 i hi aa az (by simp [ba.dD]) (fun k ak=>.inl ak)))
theorem bz.H7 {α:Type} (hm:bz W aD X w E D) (e:TypeId) (size:Nat):bz W aD X w (ba.row e size (.slice none 0 0) ([]:List α) []::E) D:=
 hm.push _ (bw.refl _ _) (World.ownsRow_nil w 0 e size) (fun k ak=>by simp [ba.row,Value.ownBlock] at ak) (by simp [ba.row,Value.ownBlock])
theorem asE (o:Option Nat):o.toList.Nodup:=by cases o <;> simp
theorem V1 {e:TypeId} {z:Value} {sz bytes:Nat} (h:(P.info? e).map (fun i=>(i.zero,i.size,i.bytes))=some (some z,sz,bytes)):∃ i,P.info? e=some i/\i.zero=some z/\i.size=sz/\i.bytes=bytes:=by
 cases hi:P.info? e with
 | none=>rw [hi] at h;cases h
 | some i=>
   rw [hi] at h
   simp only [Option.map_some,Option.some.injEq,Prod.mk.injEq] at h
   exact ⟨i,rfl,h.1,h.2.1,h.2.2⟩
end
end ay
namespace ay
open Go Go.RowKit I
section
variable {P:Program} {ops:Array Oper} {C:World->Prop} {nc:Act->Prop} {a:Act} {w:World} {rest:List Oper} {o:Oper} {n:cQ} {d:Nat} {l:List (Nat × Value)} {v:Value}
theorem qs (hw:Region.wanted o (yielded ops a.tmps)=false) (ag:Fr n l a) (aO:o.dst=some d) (aS:Nat.blt d n=true) (k:∀ a7,Fr n ((d,undef)::l) a7->wpQuiet P ops C nc rest a7):wpQuiet P ops C nc (o::rest) a:=by
 unfold wpQuiet
 rw [if_neg (by simp [hw]),aO]
 exact k _ (ag.put aS)
theorem adY {id:Nat} {Q:Exit->Act->World->Prop} {l:List Oper} (hm:P.follows .mixedOrders=true) (bZ:Region.lexB .any l.toArray=true)
 (h:wpQuiet P l.toArray (fun w'=>bw [] w w') (fun a=>∀ w',bw [] w w'->Q .normal a w') l a):(Code.region id l.toArray true).wp P Q a w:=
 wp_region_quiet (C:=fun w'=>bw [] w w') hm bZ (bw.drew [] w) (by
  refine Eq.mp ?_ h
  rw [List.toList_toArray]) |> fun h=>wp_mono h (fun e a w q=>q)
end
theorem ajp {w w':World} {p:Addr} {v:Value} (h:bw [] w w') (hc:w.cell? p=some v):w'.cell? p=some v:=
 (World.cell?_of_block (h.block p.block (World.block_lt_of_cell? w p hc) (by simp))).trans hc
theorem xP {w w':World} {p:Addr} {cs:List Value} (h:bw [] w w') (hc:eW w p cs):eW w' p cs:=fun j u aJ=>ajp h (hc j u aJ)
section
variable {P:Program} {Q:Exit->Act->World->Prop} {K:Act->World->Prop} {a:Act} {w:World}
theorem rL {i:Nat} (h:Q (.exit i) a w):Exit.then K Q (.exit i) a w:=h
theorem Fi {i:Nat} (h:Q .normal a w):Exit.inBlock i Q (.exit i) a w:=by simpa [Exit.inBlock] using h
theorem JC (h:Q .ret a w):Exit.then K Q .ret a w:=h
theorem acR {i:Nat} (h:Q .ret a w):Exit.inBlock i Q .ret a w:=h
theorem SE {id:Nat} {c:Code} (ll:Act->World->Prop) (af:∀ K:Act->World->Prop,(∀ a w,ll a w->K a w)->c.wp P (Exit.inBlock id (Exit.then K Q)) a w) (hy:∀ a w,ll a w->Q .normal a w):(Code.block id c).wp P Q a w:=by
 refine wp_block (wp_mono (af _ hy) ?_)
 intro e a w h
 cases e with
 | exit i=>
   by_cases hi:i=id
   · simpa [Exit.inBlock,Exit.then,hi] using h
   · simpa [Exit.inBlock,Exit.then,hi] using h
 | _=>exact h
theorem mo {id:Nat} {l:List Oper} (h:wpList P l.toArray Q l a w):(Code.region id l.toArray false).wp P Q a w:=wp_region_lit h
end
section
variable {W w:World} {aD X:List Nat} {E:List ba} {D:List bF}
def Ik (D:List bF):List bF->Prop
 | []=>True
 | y::r=>(∃ i:Nat,D[i]? =some y)/\Ik D r
theorem aaG {D:List bF}:∀ {fo:List bF},Ik D fo-> ∀ y ∈ fo,y ∈ D
 | [],_,y,hy=>by simp at hy
 | z::r,h,y,hy=>by
   rcases List.mem_cons.1 hy with rfl | e
   · obtain ⟨i,hi⟩:=h.1;exact List.mem_of_getElem? hi
   · exact aaG h.2 y e
theorem bz.pick (h:bz W aD X w E D) {fo:List bF} (ar:Ik D fo):bz W aD X w E fo:=h.less (aaG ar)
theorem bz.Gh (h:bz W aD X w E D) (i:Nat):bz W aD X w (E.eraseIdx i) D:=h.drop (List.eraseIdx_sublist E i)
theorem bz.freeze {α:Type} {T:c8 α} {e:TypeId} {A:Option Addr} {n c:Nat} {l:List α} {xs:List Value} (h:bz W aD X w E D) (i j:Nat) (hi:E[i]? =some (ba.row e T.size (.slice A n c) l xs)) (aJ:D[j]? =some (bF.rows T xs l)) :
 bz W aD X w (E.eraseIdx i) (bF.of (ca T) [.slice A n c] l::D):=by
 have J:=h.Gh i
 refine J.more (avm (h.e i hi) (J.d j aJ) ?_)
 intro k ak cS
 rcases List.mem_append.1 cS with ao | ao
 · have bL:=h.gZ k ao
   rcases (h.lt k (List.mem_flatMap.2 ⟨_,List.mem_of_getElem? hi,ak⟩)).2 with aq | aq
   · exact bL.2 aq
   · omega
 · obtain ⟨au,af⟩:=List.getElem?_eq_some_iff.1 hi
   have ah:E=E.take i++E[i]::E.drop (i+ 1):=by simp
   have aO:=h.bA
   rw [ah,af] at aO
   have aq:cc (E.take i++ba.row e T.size (.slice A n c) l xs::E.drop (i+ 1))=cc (E.take i)++((ba.row e T.size (.slice A n c) l xs).bD++cc (E.drop (i+ 1))):=by simp [cc]
   rw [aq,List.nodup_append,List.nodup_append] at aO
   rw [List.eraseIdx_eq_take_drop_succ] at ao
   rcases List.mem_append.1 (by simpa [cc] using ao:k ∈ cc (E.take i)++cc (E.drop (i+ 1))) with a0 | a0
   · exact aO.2.2 k a0 k (List.mem_append.2 (.inl ak)) rfl
   · exact aO.2.1.2.2 k ak k a0 rfl
theorem bz.UH {g:Nat} {t:TypeId} {cs:List Value} (h:bz W aD X w E D) (i:Nat) (hi:E[i]? =some (ba.dD g t cs)):bz W aD X w (E.eraseIdx i) (bF.hs g cs::D):=by
 have J:=h.Gh i
 refine J.more ⟨?_,CJ (h.e i hi),fun j u aJ=>?_⟩
 · intro cS
   have ak:g ∈ (ba.dD g t cs).bD:=by simp [ba.dD]
   rcases List.mem_append.1 cS with ao | ao
   · have bL:=h.gZ g ao
     rcases (h.lt g (List.mem_flatMap.2 ⟨_,List.mem_of_getElem? hi,ak⟩)).2 with aq | aq
     · exact bL.2 aq
     · omega
   · obtain ⟨au,af⟩:=List.getElem?_eq_some_iff.1 hi
     have ah:E=E.take i++E[i]::E.drop (i+ 1):=by simp
     have aO:=h.bA
     rw [ah,af] at aO
     have aq:cc (E.take i++ba.dD g t cs::E.drop (i+ 1))=cc (E.take i)++((ba.dD g t cs).bD++cc (E.drop (i+ 1))):=by simp [cc]
     rw [aq,List.nodup_append,List.nodup_append] at aO
     rw [List.eraseIdx_eq_take_drop_succ] at ao
     rcases List.mem_append.1 (by simpa [cc] using ao:g ∈ cc (E.take i)++cc (E.drop (i+ 1))) with a0 | a0
     · exact aO.2.2 g a0 g (List.mem_append.2 (.inl ak)) rfl
     · exact aO.2.1.2.2 g ak g a0 rfl
 · have:=sH (h.e i hi) aJ
   simpa using this
end
end ay
namespace ay
open Go Go.RowKit I
def dw (n:Nat):List Nat->Array Bool
 | []=>Array.replicate n false
 | i::d=>(dw n d).setIfInBounds i true
def xg (K:Act->World->Prop) (Q:Exit->Act->World->Prop):Exit->Act->World->Prop
 | .normal,a,w=>K a w
 | e,a,w=>Q e a w
section
variable {P:Program} {ops:Array Oper} {Q:Exit->Act->World->Prop} {a:Act} {w:World} {o:Oper} {n:cQ} {f d i:Nat} {ds:List Nat} {l:List (Nat × Value)} {v:Value}
def I5 (ops:Array Oper) (ds:List Nat) (i:Nat):Bool:=Region.noSelect ops && Region.free .any ops (dw ops.size ds) i && (Region.ready .any ops (dw ops.size ds)).contains i
theorem awy {K:Act->World->Prop} {Q:Exit->Act->World->Prop} (h:o.wp P a w K (xg K Q)):o.wp P a w K Q:=by
 unfold Oper.wp at *
 generalize (execOp a.eval o).run P w=r at *
 cases r with
 | ok n w'=>
   cases n <;> simp only [Oper.upon] at h ⊢ <;>
    first
     | exact h
     | exact Calls.mono h (fun e w'' he=>by cases e <;> first | exact he | exact he)
 | halt x w'=>cases x <;> simp only [Oper.upon] at h ⊢ <;> exact h
theorem Ri {K:Act->World->Prop} (hi:ops[i]? =some o) (h:wpList P ops (xg K (NoPanic Q)) [o] a w):wpOp P ops (NoPanic Q) i K a w:=by
 unfold wpOp
 simp only [hi]
 unfold wpList at h
 split at h
 · rename_i hw
   rw [if_pos hw]
   rcases h with h | ⟨J,aa⟩
   · exact .inl (awy h)
   · exact .inr ⟨J,aa.elim fun a h=>h.elim fun w h=>⟨a,w,h⟩⟩
 · rename_i hw
   rw [if_neg hw]
   exact h
end
section
variable {P:Program} {o:Oper} {a:Act} {w:World} {t t':TypeId} {x y:Operand} {cM:Array Go.Field} {xs ys:Array Value} {b:Bool}
theorem JN (aL:P.underlying t=some (.struct cM)) (aP:P.stoodInHeld t=false) (hm:P.eqGuardType P.depth t=false)
 (aN:(Op.eqFields 9999 xs ys cM.toList).run P w= .ok b w) (aC:o.op= .binOp .eql t x y t') (af:a.eval x= .agg xs) (hy:a.eval y= .agg ys):bj P o a w (.bool b) w:=by
 have ag:P.fieldsOf t=cM:=by simp [Program.fieldsOf,aL]
 have h:=run_equalIn_struct (P:=P) w 9999 t xs ys (by rw [ag];exact aL) aP
 rw [ag,aN] at h
 have h:(Op.equalIn 10000 t (Value.agg xs) (Value.agg ys)).run P w= .ok b w:=h
 simp only [bj,execOp,aC,af,hy]
 simp [go_sem,Op.equal,Op.maxDepth,h,run_eqGuard_agg w _ _ _ _ _ _ hm]
theorem JO (aL:P.underlying t=some (.struct cM)) (aP:P.stoodInHeld t=false) (hm:P.eqGuardType P.depth t=false)
 (aN:(Op.eqFields 9999 xs ys cM.toList).run P w= .ok b w) (aC:o.op= .binOp .neq t x y t') (af:a.eval x= .agg xs) (hy:a.eval y= .agg ys):bj P o a w (.bool (!b)) w:=by
 have ag:P.fieldsOf t=cM:=by simp [Program.fieldsOf,aL]
 have h:=run_equalIn_struct (P:=P) w 9999 t xs ys (by rw [ag];exact aL) aP
 rw [ag,aN] at h
 have h:(Op.equalIn 10000 t (Value.agg xs) (Value.agg ys)).run P w= .ok b w:=h
 simp only [bj,execOp,aC,af,hy]
 simp [go_sem,Op.equal,Op.maxDepth,h,run_eqGuard_agg w _ _ _ _ _ _ hm]
theorem oK {d:Nat}:(Op.eqFields d xs ys []).run P w= .ok true w:=rfl
theorem kI {d:Nat} {f:Go.Field} {l:List Go.Field} {k:IntKind} {m n:Int} {e:Prop} [Decidable e] (aS:(f.name != "_")=true) (hu:P.underlying f.type=some (.int k)) (aA:∀ w,(isAgg f.type).run P w= .ok false w)
 (af:xs[f.offset]? =some (.int k m)) (hy:ys[f.offset]? =some (.int k n)) (h:(Op.eqFields (d+ 1) xs ys l).run P w= .ok (decide e) w):(Op.eqFields (d+ 1) xs ys (f::l)).run P w= .ok (decide (m=n/\e)) w:=by
 have nH:f.name≠ "_" :=by simpa using aS
 simp only [Op.eqFields,nH,if_true,ne_eq,not_false_iff,part,Sem.run_bind,aA,Result.andThen_ok,af,hy,Bool.false_eq_true,if_false,Sem.run_pure,run_equalIn_int w d f.type k k m n hu]
 by_cases qD:m=n
 · subst qD;simp [h]
 · simp [qD,show (m == n)=false from by simpa using qD]
end
end ay
namespace ay
open Go Go.RowKit Go.ChangeShapes Go.WideShapes Go.Deep I
section
variable {H:Type} {enc:TypeId × Value->H} {P:Program}
theorem SJ (au:laidOutB P=true) {W h5:World} {gR:Nat->Bool}:∀ {rC:List TypeId} {vs:List Value} {ds:List (DataW H)} {ps:List MemPlace},DataW.TrodAll enc P W 0 (fun _=>true) true rC vs ds ps ->
 (rC.all fun t=>P.readableRec t && Nat.blt t P.types.size)=true->(∀ p ∈ ps,W.sameAt h5 p)->(∀ p ∈ ps,gR p.block=true)->DataW.TrodAll enc P h5 0 gR true rC vs ds ps
 | [],vs,ds,ps,h,_,_,_=>by obtain ⟨rfl,rfl,rfl⟩:=trodAll_nil h;exact trodAll_mk0
 | t::rC,vs,ds,ps,h,aN,ar,aP=>by
   obtain ⟨v,yZ,d,azk,p,q,rfl,rfl,rfl,aY,J⟩:=trodAll_cons h
   simp only [List.all_cons,Bool.and_eq_true] at aN
   exact trodAll_cons_mk (WideElems.Trod_stays au aN.1.1 (Nat.le_of_ble_eq_true aN.1.2) aY (fun x af=>ar x (List.mem_append_left _ af)) (fun x af=>aP x (List.mem_append_left _ af)))
    (SJ au J aN.2 (fun x af=>ar x (List.mem_append_right _ af)) (fun x af=>aP x (List.mem_append_right _ af)))
theorem asN {f:Func} {s:ChangeSpec} {W h5:World} {args:Array Value} {ds gs:List (DataW H)} {before:List MemPlace} {tb:TypeId}
 (ht:DataW.Whole enc P f.params.toList s.vars false W args.toList ds gs before) (au:laidOutB P=true) (aN:(f.params.toList.all fun t=>P.readableRec t && Nat.blt t P.types.size)=true)
 (aj:s.vars= []) (gK:s.fn H ds= { results:=[.lit (.bool true)],args:=ds }) (ai:P.underlying tb=some .bool) (VJ:f.resultTypes= #[tb]) (iC:bw [] W h5) :
 s.post enc P f false true false false W args (.bool true) h5:=by
 have qu:=iC.below
 have bL:∀ p ∈ before,p.block <W.heap.size:=fun p aP=>ht.lt p aP
 have akg:=ht
 obtain ⟨p,q,dT,oQ,DM,al,aS⟩:=ht
 rw [aj] at oQ
 obtain ⟨rfl,rfl⟩:=trodVars_none oQ
 simp only [List.append_nil] at DM
 subst DM
 have hold:∀ x ∈ before,(fun b=>decide (b <W.heap.size)) x.block=true:=fun x af=>by simpa using bL x af
 have MD:∀ gR:Nat->Bool,(∀ x ∈ before,gR x.block=true)->DataW.TrodAll enc P h5 0 gR true f.params.toList args.toList ds before:=
  fun gR vO=>SJ au dT aN (fun x af=>qu.same (bL x af)) vO
 have DP:∀ (b:Nat) (gR:Nat->Bool) (aO:Bool),DataW.TrodAll enc P h5 b gR aO f.resultTypes.toList ((Value.bool true).resultList f.resultTypes.size) [.lit (.bool true)] []:=fun b gR aO=>by
  rw [VJ];exact trodAll_cons_mk (p:=[]) (shut_bool ai true) trodAll_mk0
 have Hk:∀ gR:Nat->Bool,DataW.TrodVars enc P h5 gR s.vars [] []:=fun gR=>by rw [aj];rfl
 refine ⟨ds,[],before,[],before,[],akg,?_,?_,?_,World.keptBut_mono (fun x af=>⟨af,Or.inr (by simpa using af)⟩) (qu.frame (· ∈ before)),fun _=>?_⟩
 · simp only [List.append_nil,gK];exact DP _ _ _
 · simp only [List.append_nil,gK];exact MD _ hold
 · simp only [List.append_nil,gK];exact Hk _
 · refine ⟨ok_one VJ rfl (okWide_bool_mk ai true),_,_,([]++before)++[],⟨[]++before,[],trodAll_append (MD (fun _=>true) (fun _ _=>rfl)) (DP _ _ _),Hk _,rfl,?_,?_⟩,?_⟩
   · intro b off aP
     have ha:MemPlace.cell b off ∈ before:=by simpa using aP
     rw [qu.frozen (bL _ ha)]
     exact al b off ha
   · intro a3;simpa using aS a3
   · intro x af _;simpa using af
theorem aby {α:Type} {T:c8 α} {F:Nat->Prop} {W:World} {b o:Nat} {R:α->Prop}:∀ m:Nat,(∀ i,i <m-> ∃ cs d,eW W ⟨b,o+i*T.size,none⟩ cs/\T.rd F W cs d/\R d) ->
 ∃ (l:List α) (xs:List Value),l.length=m/\dF T F W xs l/\eW W ⟨b,o,none⟩ xs/\ ∀ d ∈ l,R d
 | 0,_=>⟨[],[],rfl,rfl,fun j u aJ=>by simp at aJ,fun d aO=>by cases aO⟩
 | m+ 1,h=>by
   obtain ⟨l,xs,J,aa,az,bp⟩:=aby m (fun i hi=>h i (by omega))
   obtain ⟨cs,d,cJ,cm,dS⟩:=h m (by omega)
   refine ⟨l++[d],xs++cs,by simp [J],abd (T:=T) cm aa,fun j u aJ=>?_,fun e he=>?_⟩
   · have au:=rq (T:=T) aa
     rcases Nat.lt_or_ge j xs.length with bL | MU
     · exact az j u (by simpa [List.getElem?_append,bL] using aJ)
     · rw [List.getElem?_append_right MU] at aJ
       have:=cJ (j - xs.length) u aJ
       rw [au,J] at this
       rw [show o+j=o+m*T.size+(j - m*T.size) by rw [au,J] at MU;omega]
       simpa using this
   · rcases List.mem_append.1 he with ao | ao
     · exact bp e ao
     · simp at ao;subst ao;exact dS
end
end ay
namespace ay
open Go Go.RowKit Go.ChangeShapes Go.WideShapes Go.Deep I
def gg {H:Type} (P:Program) (enc:TypeId × Value->H) (N:Nat) (t:TypeId) {α:Type} (T:c8 α) (R:α->Prop):Prop:=
 ∀ (W:World) (n:Nat) (cs:List Value) (x:DataW H × List MemPlace),DataW.trod enc P W 0 (fun _=>true) true n t cs=some x->(∀ p ∈ x.2,p.block <W.heap.size)->(∀ m ∈ x.1.weights P t,m<=N)-> ∃ d,T.rd (gS [] W) W cs d/\R d
def h2 (n:Int):Prop:=-9223372036854775808 <=n/\n<= 9223372036854775807
section
variable {H:Type} {enc:TypeId × Value->H} {P:Program} {N:Nat} {t e:TypeId}
theorem ud (aL:P.underlying t=some .string):gg P enc N t hF (fun s=>s.length<=N):=by
 intro W n cs x h _ hw
 obtain ⟨s,rfl,rfl,_⟩:=DataW.trod_string aL h
 exact ⟨s.data.toList,rfl,hw _ (by simp [DataW.weights])⟩
theorem k8 (aL:P.underlying t=some (.int .i64)):gg P enc N t (eF .i64) h2:=by
 intro W n cs x h _ _
 obtain ⟨z,rfl,_,al⟩:=DataW.trod_int aL h
 exact ⟨z,rfl,by simpa [h2,Lit.wf,IntKind.min,IntKind.max,IntKind.signed,IntKind.bits] using al⟩
theorem au5 (aL:P.underlying t=some .bool):gg P enc N t awc (fun _=>True):=by
 intro W n cs x h _ _
 obtain ⟨b,rfl,_⟩:=DataW.trod_bool aL h
 exact ⟨b,rfl,trivial⟩
theorem Z2 {d:DataW H} {m:Nat} (hm:m ∈ d.weights P e):∀ {l:List (DataW H)},d ∈ l->m ∈ DataW.weightsAll P e l
 | [],h=>by cases h
 | x::r,h=>by
   simp only [DataW.weightsAll,List.mem_append]
   rcases List.mem_cons.1 h with rfl | h
   · exact .inl hm
   · exact .inr (Z2 hm h)
theorem n9 {α:Type} {T:c8 α} {R:α->Prop} (aL:P.underlying t=some (.slice e)) (ej:P.cellsOf e=T.size) (hb:Nat.blt 0 T.size=true) (Di:gg P enc N e T R):gg P enc N t (ca T) (fun l=>l.length*P.bytesOf e<=N/\ ∀ d ∈ l,R d):=by
 have hb:0 <T.size:=Nat.le_of_ble_eq_true hb
 intro W n cs x h aP hw
 rcases open_slice aL h with ⟨rfl,rfl⟩ | ⟨a,q4,cap,m,e8,D,adn,rfl,_,au,hm,DF,af,hi⟩
 · exact ⟨[],⟨none,0,rfl,Nat.le_refl _,Nat.zero_le _,fun _=>rfl,fun h=>absurd rfl h⟩,by simp,fun d aO=>by cases aO⟩
 · have ea:m=cap:=by simpa using DF
   subst ea
   have VG:x.2 =MemPlace.row a (m*P.cellsOf e)++(List.range m).flatMap adn:=congrArg Prod.snd af
   have Vl:x.1 = .slice ((List.range q4).map D) ((List.range (m - q4)).map fun j=>D (q4+j)):=congrArg Prod.fst af
   have s9:(q4+(m - q4))*P.bytesOf e<=N:=by
    refine hw _ ?_
    rw [Vl]
    simp only [DataW.weights,aL,List.length_map,List.length_range]
    exact List.mem_cons_self
   have hlen:q4*P.bytesOf e<=N:=Nat.le_trans (Nat.mul_le_mul_right _ (Nat.le_add_right _ _)) s9
   by_cases aY:q4= 0
   · subst aY
     exact ⟨[],⟨some a,m,rfl,by simp,hm,fun h=>(by cases h),fun h=>absurd rfl h⟩,by simp,fun d aO=>by cases aO⟩
   · have hv:∀ i,i <q4-> ∃ cs d,(∀ j u,cs[j]? =some u->W.cell? (a.add (i*T.size+j))=some u)/\cs.length=T.size/\T.rd (gS [] W) W cs d/\R d:=fun i dN=>by
      have Vt:i <m:=by omega
      obtain ⟨ix,hc,qF⟩:=hi i Vt
      obtain ⟨d,aO,eR⟩:=Di W e8 ix _ qF (fun p Nm=>aP p (by
       rw [VG,List.mem_append]
       exact .inr (List.mem_flatMap.2 ⟨i,by simpa using Vt,Nm⟩))) (fun k ak=>hw k (by
       rw [Vl]
       simp only [DataW.weights,aL,List.mem_cons,List.mem_append]
       exact .inr (.inl (Z2 ak (List.mem_map.2 ⟨i,by simpa using dN,rfl⟩)))))
      rw [ej] at hc
      obtain ⟨_,iR,sY⟩:=World.cells?_some hc
      refine ⟨ix,d,fun j u aJ=>?_,iR,aO,eR⟩
      have qB:j <T.size:=by rw [<-iR];exact (List.getElem?_eq_some_iff.1 aJ).1
      have:=sY j qB
      rw [aJ,Go.Deep.add_add] at this
      exact this
     have VM:a.spot=none:=by
      obtain ⟨cs,d,J,aa,_⟩:=hv 0 (by omega)
      have:=J 0 _ (List.getElem?_eq_getElem (by omega))
      unfold World.cell? at this
      split at this
      · split at this
        · cases this
        · rename_i ar;simpa [Addr.add] using ar
      · cases this
     obtain ⟨ab,Sc,azb⟩:=a
     simp only at VM
     subst VM
     obtain ⟨l,xs,J,aa,az,bp⟩:=aby (T:=T) (F:=gS [] W) (W:=W) (b:=ab) (o:=Sc) (R:=R) q4 (fun i dN=>by
      obtain ⟨cs,d,cJ,_,dS,hq⟩:=hv i dN
      exact ⟨cs,d,fun j u aJ=>by have:=cJ j u aJ;rw [iK] at this;simpa [Nat.add_assoc] using this,dS,hq⟩)
     subst J
     refine ⟨l,⟨_,m,rfl,au,hm,fun h=>(by cases h),fun _=>⟨rfl,⟨by simp,?_⟩,xs,aa,az⟩⟩,hlen,bp⟩
     have ha:MemPlace.cell ab Sc ∈ x.2 :=by
      rw [VG,List.mem_append]
      left
      have:0 <m*P.cellsOf e:=Nat.mul_pos (by omega) (by omega)
      simp only [MemPlace.row,List.mem_map,List.mem_range]
      exact ⟨0,this,by simp⟩
     exact aP _ ha
theorem Z3 {m:Nat}:∀ {rC:List TypeId} {l:List (DataW H)} {j:Nat} {u:TypeId} {d:DataW H},rC[j]? =some u->l[j]? =some d->m ∈ d.weights P u->m ∈ DataW.weightsEach P rC l
 | [],_,j,_,_,h,_,_=>by simp at h
 | _::_,[],j,_,_,_,h,_=>by simp at h
 | t::rC,x::l,0,u,d,J,aa,hm=>by
   simp only [List.getElem?_cons_zero,Option.some.injEq] at J aa
   subst J;subst aa
   simp only [DataW.weightsEach,List.mem_append]
   exact .inl hm
 | t::rC,x::l,j+ 1,u,d,J,aa,hm=>by
   simp only [DataW.weightsEach,List.mem_append]
   exact .inr (Z3 (j:=j) (by simpa using J) (by simpa using aa) hm)
theorem lv {cM:Array Go.Field} {W:World} {n:Nat} {cs:List Value} {x:DataW H × List MemPlace} (aL:P.underlying t=some (.struct cM)) (h:DataW.trod enc P W 0 (fun _=>true) true n t cs=some x) (aP:∀ p ∈ x.2,p.block <W.heap.size) (hw:∀ m ∈ x.1.weights P t,m<=N) :
 ∃ e8,cs.length=P.cellsOf t/\ ∀ (j:Nat) (f:Go.Field),cM[j]? =some f-> ∃ y,DataW.trod enc P W 0 (fun _=>true) true e8 f.type ((cs.drop f.offset).take (P.cellsOf f.type))=some y/\(∀ p ∈ y.2,p.block <W.heap.size)/\(∀ m ∈ y.1.weights P f.type,m<=N):=by
 obtain ⟨ys,e8,_,af,au,azH,aA⟩:=DataW.trod_struct aL h
 refine ⟨e8,au,fun j f aJ=>?_⟩
 have qB:j <cM.size:=(Array.getElem?_eq_some_iff.1 aJ).1
 have hy:ys[j]? =some (ys[j]'(by omega)):=List.getElem?_eq_getElem _
 refine ⟨ys[j]'(by omega),by rw [aA j f aJ,hy],fun p Nm=>aP p ?_,fun m hm=>hw m ?_⟩
 · rw [af]
   exact List.mem_flatMap.2 ⟨_,List.getElem_mem _,Nm⟩
 · rw [af]
   simp only [DataW.weights,aL]
   refine Z3 (j:=j) (u:=f.type) (d:=(ys[j]'(by omega)).1) ?_ ?_ hm
   · rw [List.getElem?_map,Array.getElem?_toList,aJ];rfl
   · rw [List.getElem?_map,hy];rfl
theorem eO {cM:Array Go.Field} {W:World} {e8:Nat} {cs:List Value} (ag:∀ (j:Nat) (f:Go.Field),cM[j]? =some f-> ∃ y,DataW.trod enc P W 0 (fun _=>true) true e8 f.type ((cs.drop f.offset).take (P.cellsOf f.type))=some y/\(∀ p ∈ y.2,p.block <W.heap.size)/\(∀ m ∈ y.1.weights P f.type,m<=N))
 (j:Nat) {f:Go.Field} (aJ:cM[j]? =some f) {t off k:Nat} (aL:f.type=t) (aC:f.offset=off) (ak:P.cellsOf t=k) {r:List Value} (aN:(cs.drop off).take k=r):∃ y,DataW.trod enc P W 0 (fun _=>true) true e8 t r=some y/\(∀ p ∈ y.2,p.block <W.heap.size)/\(∀ m ∈ y.1.weights P t,m<=N):=by
 obtain ⟨y,J,aa,az⟩:=ag j f aJ
 rw [aL,aC] at J
 rw [aL] at az
 rw [ak,aN] at J
 exact ⟨y,J,aa,az⟩
theorem R_ {v:Array Value} {l:List Value} (h:(Value.agg v).cells.toList=l):v=l.toArray:=by
 have h:v.toList=l:=h
 rw [<-h]
theorem Sh {α:Type} {T:c8 α} {R:α->Prop} {W:World} {v:Value} {d:DataW H} {ps:List MemPlace} (aN:gg P enc N t T R) (h:DataW.Trod enc P W 0 (fun _=>true) true t v d ps) (aP:∀ p ∈ ps,p.block <W.heap.size) (hw:∀ m ∈ d.weights P t,m<=N):∃ d',T.rd (gS [] W) W v.cells.toList d'/\R d':=by
 obtain ⟨n,aS⟩:=h
 exact aN W n _ _ aS aP hw
end
end ay
namespace ay
open Go Go.RowKit I
inductive kv
 | i (k:IntKind)
 | b
 | s
 | cz
def kv.ok (P:Program) (t:TypeId):kv->Prop
 | .i k=>P.underlying t=some (.int k)
 | .b=>P.underlying t=some .bool
 | .s=>P.underlying t=some .string
 | .cz=>∃ e,P.underlying t=some (.slice e)
structure jM where
 lc:List (Nat × kv)
 lv:List (Nat × Nat × Nat)
 EW:List (Nat × Option Nat)
def Q_ (P:Program):List (Nat × kv)->Prop
 | []=>True
 | p::r=>p.2.ok P p.1 /\Q_ P r
def J6 (P:Program) (s j off:Nat):Prop:=∃ cM f sz,P.underlying s=some (.struct cM)/\cM[j]? =some f/\f.offset=off/\sz≠ 0 /\ ∀ w,(Go.sizeOf f.type).run P w= .ok sz w
def Lq (P:Program):List (Nat × Nat × Nat)->Prop
 | []=>True
 | p::r=>J6 P p.1 p.2.1 p.2.2 /\Lq P r
def R7 (P:Program) (t:Nat):Option Nat->Prop
 | none=>∀ w,(isAgg t).run P w= .ok false w
 | some n=>(∀ w,(isAgg t).run P w= .ok true w)/\ ∀ w,(Go.sizeOf t).run P w= .ok n w
def QS (P:Program):List (Nat × Option Nat)->Prop
 | []=>True
 | p::r=>R7 P p.1 p.2 /\QS P r
structure ot (P:Program) (G:jM):Prop where
 lc:Q_ P G.lc
 lv:Lq P G.lv
 EW:QS P G.EW
theorem eh {P:Program} {s j off sz:Nat} {cM:Array Go.Field} {f:Go.Field} (h:P.underlying s=some (.struct cM)) (ag:cM[j]? =some f) (aC:f.offset=off) (ar:∀ w,(Go.sizeOf f.type).run P w= .ok sz w) (aY:Nat.beq sz 0 =false):J6 P s j off:=
 ⟨cM,f,sz,h,ag,aC,(fun e=>by subst e;simp at aY),ar⟩
def lN {β:Type}:List (Nat × β)->Nat->Option β
 | [],_=>none
 | p::r,t=>match Nat.beq p.1 t with
   | true=>some p.2
   | false=>lN r t
def Eb:List (Nat × Nat × Nat)->Nat->Nat->Option Nat
 | [],_,_=>none
 | p::r,s,j=>match Nat.beq p.1 s && Nat.beq p.2.1 j with
   | true=>some p.2.2
   | false=>Eb r s j
theorem wV {P:Program} {l:List (Nat × kv)} (h:Q_ P l) {t:Nat} {k:kv} (au:lN l t=some k):k.ok P t:=by
 induction l with
 | nil=>simp [lN] at au
 | cons p r bH=>
   simp only [lN] at au
   cases ai:Nat.beq p.1 t with
   | true=>
     rw [ai] at au
     simp only [Option.some.injEq] at au
     rw [<-Nat.eq_of_beq_eq_true ai,<-au];exact h.1
   | false=>rw [ai] at au;exact bH h.2 au
theorem abK {P:Program} {l:List (Nat × Option Nat)} (h:QS P l) {t:Nat} {k:Option Nat} (au:lN l t=some k):R7 P t k:=by
 induction l with
 | nil=>simp [lN] at au
 | cons p r bH=>
   simp only [lN] at au
   cases ai:Nat.beq p.1 t with
   | true=>
     rw [ai] at au
     simp only [Option.some.injEq] at au
     rw [<-Nat.eq_of_beq_eq_true ai,<-au];exact h.1
   | false=>rw [ai] at au;exact bH h.2 au
theorem ajx {P:Program} {l:List (Nat × Nat × Nat)} (h:Lq P l) {s j off:Nat} (au:Eb l s j=some off):J6 P s j off:=by
 induction l with
 | nil=>simp [Eb] at au
 | cons p r bH=>
   simp only [Eb] at au
   cases ai:Nat.beq p.1 s && Nat.beq p.2.1 j with
   | true=>
     rw [ai] at au
     simp only [Option.some.injEq] at au
     simp only [Bool.and_eq_true] at ai
     rw [<-Nat.eq_of_beq_eq_true ai.1,<-Nat.eq_of_beq_eq_true ai.2,<-au];exact h.1
   | false=>rw [ai] at au;exact bH h.2 au
def hR (w:World):List (Nat × Nat × List Value)->Prop
 | []=>True
 | m::r=>eW w ⟨m.1,m.2.1,none⟩ m.2.2 /\hR w r
theorem gu {w:World}:hR w []:=trivial
theorem fN {w:World} {b p:Nat} {cs:List Value} {M:List (Nat × Nat × List Value)} (h:eW w ⟨b,p,none⟩ cs) (k:hR w M):hR w ((b,p,cs)::M):=⟨h,k⟩
theorem Z0 {w:World} {M:List (Nat × Nat × List Value)} (h:hR w M) {i b p:Nat} {cs:List Value} (hi:M[i]? =some (b,p,cs)):eW w ⟨b,p,none⟩ cs:=by
 induction M generalizing i with
 | nil=>simp at hi
 | cons m r bH=>
   cases i with
   | zero=>
     simp only [List.getElem?_cons_zero,Option.some.injEq] at hi
     subst hi
     exact h.1
   | succ i=>exact bH h.2 (by simpa using hi)
theorem iL {w:World} {g:Nat} {t:TypeId} {cs:List Value} (h:(ba.dD g t cs).ok w):eW w ⟨g,0,none⟩ cs:=fun j u aJ=>by
 have:=sH h aJ
 simpa using this
structure fz where
 t:Nat
 j:Nat
 want:Bool
 v:Value
def wM:List (Nat × Value)->Nat->List (Nat × Value)
 | [],_=>[]
 | p::r,d=>match Nat.beq p.1 d with
   | true=>wM r d
   | false=>p::wM r d
def ob:List fz->Nat->List fz
 | [],_=>[]
 | p::r,d=>match Nat.beq p.t d || Nat.beq p.j d with
   | true=>ob r d
   | false=>p::ob r d
def vu:List (Nat × Bool)->Nat->Bool->Bool
 | [],_,_=>false
 | p::r,j,b=>(Nat.beq p.1 j && (p.2 == b)) || vu r j b
def Ec:List fz->List (Nat × Bool)->Nat->Option Value
 | [],_,_=>none
 | p::r,cur,t=>match Nat.beq p.t t && vu cur p.j p.want with
   | true=>some p.v
   | false=>Ec r cur t
def j1 (a:Act):List fz->Prop
 | []=>True
 | p::r=>(a.tmps.getD p.j undef= .bool p.want->a.tmps.getD p.t undef=p.v)/\j1 a r
def hK (a:Act):List (Nat × Bool)->Prop
 | []=>True
 | p::r=>a.tmps.getD p.1 undef= .bool p.2 /\hK a r
theorem Vb {a:Act} {cur:List (Nat × Bool)} (h:hK a cur) {j:Nat} {b:Bool} (bG:vu cur j b=true):a.tmps.getD j undef= .bool b:=by
 induction cur with
 | nil=>simp [vu] at bG
 | cons p r bH=>
   simp only [vu,Bool.or_eq_true,Bool.and_eq_true,beq_iff_eq] at bG
   rcases bG with ⟨J,aa⟩ | bG
   · rw [<-Nat.eq_of_beq_eq_true J,<-aa];exact h.1
   · exact bH h.2 bG
theorem an8 {a:Act} {gs:List fz} (h:j1 a gs) {cur:List (Nat × Bool)} (hc:hK a cur) {t:Nat} {v:Value} (au:Ec gs cur t=some v):a.tmps.getD t undef=v:=by
 induction gs with
 | nil=>simp [Ec] at au
 | cons p r bH=>
   simp only [Ec] at au
   cases ai:Nat.beq p.t t && vu cur p.j p.want with
   | true=>
     rw [ai] at au
     simp only [Option.some.injEq] at au
     simp only [Bool.and_eq_true] at ai
     rw [<-Nat.eq_of_beq_eq_true ai.1,<-au]
     exact h.1 (Vb hc ai.2)
   | false=>rw [ai] at au;exact bH h.2 au
def gP (bd:List (Nat × Value)) (gs:List fz) (cur:List (Nat × Bool)):Operand->Option Value
 | .const v=>some v
 | .global g=>some (.pointer (some ⟨g,0,none⟩))
 | .tmp t=>match eb bd t with
   | some v=>some v
   | none=>Ec gs cur t
 | .func _=>none
theorem Ig {n:cQ} {bd:List (Nat × Value)} {gs:List fz} {cur:List (Nat × Bool)} {a:Act} (ag:Fr n bd a) (aA:j1 a gs) (hc:hK a cur) {x:Operand} {v:Value} (h:gP bd gs cur x=some v):a.eval x=v:=by
 cases x with
 | const u=>simp only [gP,Option.some.injEq] at h;rw [<-h];rfl
 | global g=>simp only [gP,Option.some.injEq] at h;rw [<-h];rfl
 | func f=>simp [gP] at h
 | tmp t=>
   simp only [gP] at h
   cases au:eb bd t with
   | some u=>rw [au] at h;simp only [Option.some.injEq] at h;rw [<-h];exact ag.g au
   | none=>rw [au] at h;exact an8 aA hc h
def yu (bd:List (Nat × Value)) (gs:List fz) (cur:List (Nat × Bool)):List Operand->Option (List Value)
 | []=>some []
 | x::r=>match gP bd gs cur x,yu bd gs cur r with
   | some v,some vs=>some (v::vs)
   | _,_=>none
theorem O4 {n:cQ} {bd:List (Nat × Value)} {gs:List fz} {cur:List (Nat × Bool)} {a:Act} (ag:Fr n bd a) (aA:j1 a gs) (hc:hK a cur):∀ {xs:List Operand} {vs:List Value},yu bd gs cur xs=some vs->xs.map a.eval=vs
 | [],vs,h=>by simp only [yu,Option.some.injEq] at h;subst h;rfl
 | x::r,vs,h=>by
   simp only [yu] at h
   split at h
   · rename_i v us J aa
     simp only [Option.some.injEq] at h
     subst h
     rw [List.map_cons,Ig ag aA hc J,O4 ag aA hc aa]
   · cases h
def DZ:Operand->Bool
 | .const (.int _ n)=>n != 0
 | _=>false
def j8:IntKind->IntKind->Bool
 | .i64,.i64 | .u8,.u8 | .i32,.i32 | .u64,.u64 | .u32,.u32 | .u16,.u16 | .i16,.i16 | .i8,.i8=>true
 | _,_=>false
theorem lK {j k:IntKind} (h:j8 j k=true):j=k:=by cases j <;> cases k <;> simp_all [j8]
def ju (k:IntKind):Bool:=j8 k .i64
theorem jv {k:IntKind} (h:ju k=true):k= .i64:=lK h
def Sq (lL:Option kv) (fO:Bool) (op:BinOp) (j k:IntKind) (m n:Int):Option Value:=
 match op with
 | .add=>match ju j && ju k with | true=>some (.int .i64 (aX (m+n))) | false=>none
 | .sub=>match ju j && ju k with | true=>some (.int .i64 (aX (m - n))) | false=>none
 | .mul=>match ju j && ju k with | true=>some (.int .i64 (aX (m*n))) | false=>none
 | .quo=>match ju j && ju k && fO with | true=>some (.int .i64 (aX (m.tdiv n))) | false=>none
 | .rem=>match ju j && ju k && fO with | true=>some (.int .i64 (m.tmod n)) | false=>none
 | .or=>match ju j && ju k with | true=>some (.int .i64 (O6 m n)) | false=>none
 | .and=>match ju j && ju k with | true=>some (.int .i64 (Kn m n)) | false=>none
 | .lss=>match j8 j k with | true=>some (.bool (decide (m <n))) | false=>none
 | .leq=>match j8 j k with | true=>some (.bool (decide (m<=n))) | false=>none
 | .gtr=>match j8 j k with | true=>some (.bool (decide (n <m))) | false=>none
 | .geq=>match j8 j k with | true=>some (.bool (decide (n<=m))) | false=>none
 | .eql=>match lL with
   | some (.i i)=>match j8 i j && j8 j k with | true=>some (.bool (decide (m=n))) | false=>none
   | _=>none
 | .neq=>match lL with
   | some (.i i)=>match j8 i j && j8 j k with | true=>some (.bool (!decide (m=n))) | false=>none
   | _=>none
 | _=>none
def Sr (lL:Option kv) (op:BinOp) (p q:List UInt8):Option Value:=
 match op,lL with
 | .eql,some .s=>some (.bool (decide (p=q)))
 | .neq,some .s=>some (.bool (!decide (p=q)))
 | _,_=>none
def Sp (lL:Option kv) (op:BinOp) (p q:Bool):Option Value:=
 match op,lL with
 | .eql,some .b=>some (.bool (p == q))
 | .neq,some .b=>some (.bool (!(p == q)))
 | _,_=>none
def bin (lL:Option kv) (fO:Bool) (op:BinOp):Value->Value->Option Value
 | .int j m,.int k n=>Sq lL fO op j k m n
 | .string ⟨⟨p⟩⟩,.string ⟨⟨q⟩⟩=>Sr lL op p q
 | .bool p,.bool q=>Sp lL op p q
 | _,_=>none
section
variable {P:Program} {o:Oper} {a:Act} {w:World} {x y:Operand} {t t':TypeId}
theorem Ss {lL:Option kv} (ak:∀ k,lL=some k->k.ok P t) {fO:Bool} (al:fO=true-> ∀ k n,a.eval y= .int k n->n≠ 0) {op:BinOp} {u v r:Value} (h:bin lL fO op u v=some r) (aC:o.op= .binOp op t x y t') (af:a.eval x=u) (hy:a.eval y=v):bj P o a w r w:=by
 unfold bin at h
 split at h
 · rename_i j m k n
   unfold Sq at h
   split at h
   case h_1=>
    split at h
    · rename_i ai
      simp only [Bool.and_eq_true] at ai
      obtain ⟨J,aa⟩:=ai
      have J:=jv J;have aa:=jv aa
      subst J;subst aa
      simp only [Option.some.injEq] at h
      subst h
      exact aym aC af hy
    · cases h
   case h_2=>
    split at h
    · rename_i ai
      simp only [Bool.and_eq_true] at ai
      obtain ⟨J,aa⟩:=ai
      have J:=jv J;have aa:=jv aa
      subst J;subst aa
      simp only [Option.some.injEq] at h
      subst h
      exact ayT aC af hy
    · cases h
   case h_3=>
    split at h
    · rename_i ai
      simp only [Bool.and_eq_true] at ai
      obtain ⟨J,aa⟩:=ai
      have J:=jv J;have aa:=jv aa
      subst J;subst aa
      simp only [Option.some.injEq] at h
      subst h
      exact ayI aC af hy
    · cases h
   case h_4=>
    split at h
    · rename_i ai
      simp only [Bool.and_eq_true] at ai
      obtain ⟨⟨J,aa⟩,az⟩:=ai
      have J:=jv J;have aa:=jv aa
      subst J;subst aa
      simp only [Option.some.injEq] at h
      subst h
      have cj:=al az _ _ hy
      exact ac9 aC af hy (by rw [Bool.not_eq_true',decide_eq_false_iff_not];exact cj)
    · cases h
   case h_5=>
    split at h
    · rename_i ai
      simp only [Bool.and_eq_true] at ai
      obtain ⟨⟨J,aa⟩,az⟩:=ai
      have J:=jv J;have aa:=jv aa
      subst J;subst aa
      simp only [Option.some.injEq] at h
      subst h
      have cj:=al az _ _ hy
      exact ac_ aC af hy (by rw [Bool.not_eq_true',decide_eq_false_iff_not];exact cj)
    · cases h
   case h_6=>
    split at h
    · rename_i ai
      simp only [Bool.and_eq_true] at ai
      obtain ⟨J,aa⟩:=ai
      have J:=jv J;have aa:=jv aa
      subst J;subst aa
      simp only [Option.some.injEq] at h
      subst h
      exact ayN aC af hy
    · cases h
   case h_7=>
    split at h
    · rename_i ai
      simp only [Bool.and_eq_true] at ai
      obtain ⟨J,aa⟩:=ai
      have J:=jv J;have aa:=jv aa
      subst J;subst aa
      simp only [Option.some.injEq] at h
      subst h
      exact ayn aC af hy
    · cases h
   case h_8=>
    split at h
    · rename_i ai
      have ai:=lK ai
      subst ai
      simp only [Option.some.injEq] at h
      subst h
      exact ayF aC af hy
    · cases h
   case h_9=>
    split at h
    · rename_i ai
      have ai:=lK ai
      subst ai
      simp only [Option.some.injEq] at h
      subst h
      exact ayE aC af hy
    · cases h
   case h_10=>
    split at h
    · rename_i ai
      have ai:=lK ai
      subst ai
      simp only [Option.some.injEq] at h
      subst h
      exact ayA aC af hy
    · cases h
   case h_11=>
    split at h
    · rename_i ai
      have ai:=lK ai
      subst ai
      simp only [Option.some.injEq] at h
      subst h
      exact ayz aC af hy
    · cases h
   case h_12=>
    split at h
    · rename_i i
      have hi:=ak _ rfl
      split at h
      · rename_i ai
        simp only [Bool.and_eq_true] at ai
        have J:=lK ai.1;have aa:=lK ai.2
        subst J;subst aa
        simp only [Option.some.injEq] at h
        subst h
        exact ayx hi aC af hy
      · cases h
    · cases h
   case h_13=>
    split at h
    · rename_i i
      have hi:=ak _ rfl
      split at h
      · rename_i ai
        simp only [Bool.and_eq_true] at ai
        have J:=lK ai.1;have aa:=lK ai.2
        subst J;subst aa
        simp only [Option.some.injEq] at h
        subst h
        exact ayK hi aC af hy
      · cases h
    · cases h
   case h_14=>cases h
 · rename_i p q
   unfold Sr at h
   split at h
   · simp only [Option.some.injEq] at h
     subst h
     exact ayy (ak _ rfl) aC af hy
   · simp only [Option.some.injEq] at h
     subst h
     exact ayL (ak _ rfl) aC af hy
   · cases h
 · rename_i p q
   unfold Sp at h
   split at h
   · simp only [Option.some.injEq] at h
     subst h
     exact ayw (ak _ rfl) aC af hy
   · simp only [Option.some.injEq] at h
     subst h
     exact ayJ (ak _ rfl) aC af hy
   · cases h
 · cases h
end
end ay
namespace ay
open Go Go.RowKit I
def nth {α:Type}:List α->Nat->Option α
 | [],_=>none
 | x::_,0 =>some x
 | _::r,i+ 1 =>nth r i
theorem c3 {α:Type}:∀ (l:List α) (i:Nat),nth l i=l[i]?
 | [],i=>by simp [nth]
 | x::r,0 =>rfl
 | x::r,i+ 1 =>by simp [nth,c3 r i]
def NL:Operand->Bool
 | .const (.bool b)=>b
 | _=>false
def NI:Operand->Bool
 | .const (.bool b)=>!b
 | _=>false
def Ij (x y:Operand) (b:Bool):Value->Value->Option Value
 | .bool p,.bool q=>match NL x with
   | true=>some (.bool (b || q))
   | false=>match NI y with
     | true=>some (.bool (b && p))
     | false=>some (.bool (cond b p q))
 | .int j m,.int k n=>match j8 j k with
   | true=>some (.int j (cond b m n))
   | false=>none
 | .string ⟨⟨p⟩⟩,.string ⟨⟨q⟩⟩=>some (cv (cond b p q))
 | _,_=>none
theorem amv {a:Act} {x:Operand} (h:NL x=true):a.eval x= .bool true:=by
 unfold NL at h
 split at h
 · subst h;rfl
 · cases h
theorem amr {a:Act} {x:Operand} (h:NI x=true):a.eval x= .bool false:=by
 unfold NI at h
 split at h
 · rename_i b
   have:b=false:=by simpa using h
   subst this;rfl
 · cases h
theorem aaE {a:Act} {x y:Operand} {b:Bool} {u v r:Value} (h:Ij x y b u v=some r) (af:b=true->a.eval x=u) (hy:b=false->a.eval y=v):(if b then a.eval x else a.eval y)=r:=by
 unfold Ij at h
 split at h
 · rename_i p q
   split at h
   · rename_i aL
     simp only [Option.some.injEq] at h
     subst h
     cases b with
     | true=>rw [if_pos rfl,amv aL];rfl
     | false=>rw [if_neg (by simp),hy rfl];rfl
   · split at h
     · rename_i ag
       simp only [Option.some.injEq] at h
       subst h
       cases b with
       | true=>rw [if_pos rfl,af rfl];rfl
       | false=>rw [if_neg (by simp),amr ag];rfl
     · simp only [Option.some.injEq] at h
       subst h
       cases b with
       | true=>rw [if_pos rfl,af rfl];rfl
       | false=>rw [if_neg (by simp),hy rfl];rfl
 · split at h
   · rename_i ak
     have:=lK ak
     subst this
     simp only [Option.some.injEq] at h
     subst h
     cases b with
     | true=>rw [if_pos rfl,af rfl];rfl
     | false=>rw [if_neg (by simp),hy rfl];rfl
   · cases h
 · simp only [Option.some.injEq] at h
   subst h
   cases b with
   | true=>rw [if_pos rfl,af rfl];rfl
   | false=>rw [if_neg (by simp),hy rfl];rfl
 · cases h
abbrev Out:=Value × List Nat × List (Nat × Nat)
def iW (ar:List Nat) (v:Value):Option Out:=some (v,ar,[])
def xN (G:jM) (M:List (Nat × Nat × List Value)) (t m rel:Nat) (ar:List Nat) (Ey c1:Nat):Option Out:=
 match nth M m,lN G.EW t with
 | some (b,off,cs),some none=>match nth cs rel with
   | some v=>some (v,ar,[(Ey,b),(c1,off+rel)])
   | none=>none
 | some (b,off,cs),some (some n)=>match Nat.ble (rel+n) cs.length with
   | true=>some (.agg ((cs.drop rel).take n).toArray,ar,[(Ey,b),(c1,off+rel)])
   | false=>none
 | _,_=>none
def Ui (G:jM) (s d:Nat) (ar:List Nat):Value->Option Out
 | .int k m=>match ju k,lN G.lc s,lN G.lc d with
   | true,some (.i .i64),some (.i .i64)=>iW ar (.int .i64 (aX m))
   | true,some (.i .i64),some (.i .u8)=>iW ar (.int .u8 ((xw m).toNat:Int))
   | _,_,_=>none
 | _=>none
def Uk (G:jM) (t:Nat) (ar:List Nat):Value->Option Out
 | .string ⟨⟨p⟩⟩=>match lN G.lc t with
   | some .s=>iW ar (.int .i64 (p.length:Int))
   | _=>none
 | .slice _ n _=>match lN G.lc t with
   | some .cz=>iW ar (.int .i64 (n:Int))
   | _=>none
 | _=>none
def Um (bd:List (Nat × Value)) (gs:List fz) (cur:List (Nat × Bool)) (c x y:Operand):List Nat->Option Out
 | 0 ::ar=>match c with
   | .tmp jI=>match gP bd gs cur (.tmp jI),gP bd gs ((jI,true)::cur) x,gP bd gs ((jI,false)::cur) y with
     | some (.bool b),some u,some v=>match Ij x y b u v with
       | some r=>iW ar r
       | none=>none
     | _,_,_=>none
   | _=>none
 | _::ar=>match gP bd gs cur c with
   | some (.bool b)=>match b with
     | true=>match gP bd gs cur x with | some v=>iW ar v | none=>none
     | false=>match gP bd gs cur y with | some v=>iW ar v | none=>none
   | _=>none
 | []=>none
def qi (G:jM) (M:List (Nat × Nat × List Value)) (ar:List Nat) (bd:List (Nat × Value)) (gs:List fz) (cur:List (Nat × Bool)):Op->Option Out
 | .move x=>match gP bd gs cur x with | some v=>iW ar v | none=>none
 | .assign x=>match gP bd gs cur x with | some v=>iW ar v | none=>none
 | .pick c x y=>Um bd gs cur c x y ar
 | .binOp op t x y _=>match gP bd gs cur x,gP bd gs cur y with
   | some u,some v=>match bin (lN G.lc t) (DZ y) op u v with
     | some r=>iW ar r
     | none=>none
   | _,_=>none
 | .unOp .not _ x=>match gP bd gs cur x with
   | some (.bool p)=>iW ar (.bool (!p))
   | _=>none
 | .convert s d x=>match gP bd gs cur x with
   | some v=>Ui G s d ar v
   | none=>none
 | .load t x=>match gP bd gs cur x,ar with
   | some (.pointer (some ⟨Ey,c1,none⟩)),m::rel::ct=>xN G M t m rel ct Ey c1
   | _,_=>none
 | .fieldAddr s x j=>match gP bd gs cur x,Eb G.lv s j with
   | some (.pointer (some ⟨b,p,none⟩)),some off=>iW ar (.pointer (some ⟨b,p+off,none⟩))
   | _,_=>none
 | .nilCheck x=>match gP bd gs cur x with
   | some (.pointer (some p))=>iW ar (.pointer (some p))
   | _=>none
 | .extract x i=>match gP bd gs cur x with
   | some (.tuple ⟨vs⟩)=>match nth vs i with
     | some v=>iW ar v
     | none=>none
   | _=>none
 | .makeFunc fn ⟨xs⟩ ⟨ys⟩=>match yu bd gs cur xs,yu bd gs cur ys with
   | some us,some vs=>iW ar (.func fn us.toArray vs.toArray)
   | _,_=>none
 | .call ⟨.builtin .len,⟨[x]⟩,⟨[t]⟩⟩=>match gP bd gs cur x with
   | some v=>Uk G t ar v
   | none=>none
 | _=>none
theorem j7 {ar ct:List Nat} {u v:Value} {l:List (Nat × Nat)} (h:iW ar u=some (v,ct,l)):u=v:=by
 simp only [iW,Option.some.injEq,Prod.mk.injEq] at h
 exact h.1
def kJ:List (Nat × Nat)->Prop
 | []=>True
 | p::r=>p.1 =p.2 /\kJ r
section
variable {P:Program} {G:jM} {M:List (Nat × Nat × List Value)} {w:World} {a:Act} {o:Oper}
theorem Uh {n:cQ} {bd:List (Nat × Value)} {gs:List fz} {cur:List (Nat × Bool)} {ar ct:List Nat} {v:Value} {l:List (Nat × Nat)} (d_:ot P G) (eu:hR w M) (ag:Fr n bd a) (aA:j1 a gs) (hc:hK a cur)
 {op:Op} (aC:o.op=op) (h:qi G M ar bd gs cur op=some (v,ct,l)) (au:kJ l):bj P o a w v w:=by
 have opn:∀ {x:Operand} {u:Value},gP bd gs cur x=some u->a.eval x=u:=fun af=>Ig ag aA hc af
 unfold qi at h
 split at h
 · split at h
   · rename_i af
     rw [<-j7 h];exact ac6 aC (opn af)
   · cases h
 · split at h
   · rename_i af
     rw [<-j7 h];exact acZ aC (opn af)
   · cases h
 · rename_i c x y
   unfold Um at h
   split at h
   · split at h
     · rename_i jI
       split at h
       · rename_i b u eT J aa az
         split at h
         · rename_i r aN
           rw [<-j7 h]
           have iQ:a.eval (.tmp jI)= .bool b:=opn J
           have af:b=true->a.eval x=u:=fun ai=>Ig ag aA (show hK a ((jI,true)::cur) from ⟨by subst ai;exact iQ,hc⟩) aa
           have hy:b=false->a.eval y=eT:=fun ai=>Ig ag aA (show hK a ((jI,false)::cur) from ⟨by subst ai;exact iQ,hc⟩) az
           have aP:=aaE (a:=a) aN af hy
           cases b with
           | true=>exact JQ aC iQ (by simpa using aP)
           | false=>exact JP aC iQ (by simpa using aP)
         · cases h
       · cases h
     · cases h
   · split at h
     · rename_i b J
       split at h
       · split at h
         · rename_i u aa
           rw [<-j7 h];exact JQ aC (opn J) (opn aa)
         · cases h
       · split at h
         · rename_i u aa
           rw [<-j7 h];exact JP aC (opn J) (opn aa)
         · cases h
     · cases h
   · cases h
 · rename_i op t x y t'
   split at h
   · rename_i u eT J aa
     split at h
     · rename_i r aN
       rw [<-j7 h]
       refine Ss (fun k ak=>wV d_.lc ak) (fun al k n aS=>?_) aN aC (opn J) (opn aa)
       unfold DZ at al
       split at al
       · rename_i k' e8
         have:a.eval (.const (.int k' e8))= .int k' e8:=rfl
         rw [this] at aS
         injection aS with _ e
         subst e
         simpa using al
       · cases al
     · cases h
   · cases h
 · rename_i x
   split at h
   · rename_i p J
     rw [<-j7 h];exact ac8 aC (opn J)
   · cases h
 · rename_i s d x
   split at h
   · rename_i u J
     unfold Ui at h
     split at h
     · rename_i k m
       split at h
       · rename_i aa az bp
         have:=jv aa
         subst this
         rw [<-j7 h];exact ayr (wV d_.lc az) (wV d_.lc bp) aC (opn J)
       · rename_i aa az bp
         have:=jv aa
         subst this
         rw [<-j7 h];exact ays (wV d_.lc az) (wV d_.lc bp) aC (opn J)
       · cases h
     · cases h
   · cases h
 · rename_i t x
   split at h
   · rename_i Ey c1 m rel hO J
     have af:=opn J
     unfold xN at h
     split at h
     · rename_i b off cs aa az
       split at h
       · rename_i u bp
         simp only [Option.some.injEq,Prod.mk.injEq] at h
         obtain ⟨rfl,_,rfl⟩:=h
         obtain ⟨ao,aq,_⟩:=au
         simp only at ao aq
         subst ao;subst aq
         rw [c3] at aa bp
         exact RF (abK d_.EW az) aC af (Z0 eu aa rel u bp)
       · cases h
     · rename_i b off cs k aa az
       split at h
       · rename_i ai
         simp only [Option.some.injEq,Prod.mk.injEq] at h
         obtain ⟨rfl,_,rfl⟩:=h
         obtain ⟨ao,aq,_⟩:=au
         simp only at ao aq
         subst ao;subst aq
         rw [c3] at aa
         have ar:=abK d_.EW az
         have hle:=Nat.le_of_ble_eq_true ai
         refine ac5 ar.1 ar.2 (by simp;omega) aC af (fun j u aJ=>?_)
         have vx:=Z0 eu aa
         rw [List.getElem?_take] at aJ
         split at aJ
         · rw [List.getElem?_drop] at aJ
           have:=vx (rel+j) u aJ
           simpa [Nat.add_assoc] using this
         · cases aJ
       · cases h
     · cases h
   · cases h
 · rename_i s x j
   split at h
   · rename_i b p off J aa
     rw [<-j7 h]
     obtain ⟨cM,f,sz,dz,bN,fh,hL,ajK⟩:=ajx d_.lv aa
     rw [<-fh]
     exact ac1 dz bN ajK (by cases aY:Nat.beq sz 0 with | false=>rfl | true=>exact absurd (Nat.eq_of_beq_eq_true aY) hL) aC (opn J)
   · cases h
 · rename_i x
   split at h
   · rename_i p J
     rw [<-j7 h];exact ac7 aC (opn J)
   · cases h
 · rename_i x i
   split at h
   · rename_i vs J
     split at h
     · rename_i u aa
       rw [<-j7 h]
       rw [c3] at aa
       exact ac0 (vs:=vs) aC (opn J) aa
     · cases h
   · cases h
 · rename_i fn xs ys
   split at h
   · rename_i us vs J aa
     rw [<-j7 h]
     have ao:=O4 ag aA hc J
     have aq:=O4 ag aA hc aa
     simp only [bj,execOp,aC,Instr.makeFunc]
     rw [show (Array.map a.eval ⟨xs⟩)=us.toArray by rw [<-ao];simp,show (Array.map a.eval ⟨ys⟩)=vs.toArray by rw [<-aq];simp]
     rfl
   · cases h
 · rename_i x t
   split at h
   · rename_i u J
     unfold Uk at h
     split at h
     · split at h
       · rename_i aa
         rw [<-j7 h];exact ac4 (wV d_.lc aa) aC (opn J)
       · cases h
     · split at h
       · rename_i aa
         rw [<-j7 h]
         obtain ⟨e,he⟩:=wV d_.lc aa
         exact ac3 he aC (opn J)
       · cases h
     · cases h
   · cases h
 · cases h
end
end ay
namespace ay
open Go Go.RowKit I
def C5 (ops:Array Oper) (j:Nat):Option Nat:=match nth ops.toList j with
 | some o=>o.dst
 | none=>none
theorem U3 {ops:Array Oper} {j bA:Nat} (h:C5 ops j=some bA):(ops[j]?).bind (·.dst)=some bA:=by
 unfold C5 at h
 rw [c3,Array.getElem?_toList] at h
 split at h
 · rename_i o aC
   rw [aC];exact h
 · cases h
abbrev adk:=List (Nat × Value) × List fz × List (Nat × Nat)
def cr (G:jM) (ops:Array Oper) (n:Nat) (M:List (Nat × Nat × List Value)):List Oper->List Nat->List (Nat × Value)->List fz->List (Nat × Nat)->Option adk
 | [],_,bd,gs,l=>some (bd,gs,l)
 | o::rest,ar,bd,gs,l=>match o.dst with
   | none=>none
   | some d=>match Nat.blt d n with
     | false=>none
     | true=>match o.guard with
       | none=>match qi G M ar bd gs [] o.op with
         | some (v,ct,l')=>cr G ops n M rest ct ((d,v)::bd) (ob gs d) (l'++l)
         | none=>none
       | some (j,want)=>match C5 ops j with
         | none=>none
         | some bA=>match Nat.blt bA n with
           | false=>none
           | true=>match ar with
             | 0 ::ct=>match Nat.beq bA d with
               | true=>none
               | false=>match qi G M ct bd gs [(bA,want)] o.op with
                 | some (v,hO,l')=>cr G ops n M rest hO (wM bd d) (⟨d,bA,want,v⟩::ob gs d) (l'++l)
                 | none=>none
             | _::ct=>match eb bd bA with
               | some (.bool b)=>match b == want with
                 | true=>match qi G M ct bd gs [] o.op with
                   | some (v,hO,l')=>cr G ops n M rest hO ((d,v)::bd) (ob gs d) (l'++l)
                   | none=>none
                 | false=>cr G ops n M rest ct ((d,undef)::bd) (ob gs d) l
               | some (.tuple ⟨[]⟩)=>cr G ops n M rest ct ((d,undef)::bd) (ob gs d) l
               | _=>none
             | []=>none
def xH (bd:List (Nat × Value)):List Nat->Option (List (Nat × Value))
 | []=>some []
 | t::r=>match eb bd t,xH bd r with
   | some v,some vs=>some ((t,v)::vs)
   | _,_=>none
def dup (l:List Nat):List (Nat × Nat):=l.map fun x=>(x,x)
def jZ (G:jM) (ops:Array Oper) (n:Nat) (M:List (Nat × Nat × List Value)) (os:List Oper) (ar:List Nat) (bd:List (Nat × Value)) (e5:List Nat):Option (List (Nat × Value) × List (Nat × Nat)):=
 match cr G ops n M os ar bd [] [] with
 | some (fr',_,l)=>match xH fr' e5 with
   | some k=>some (k,l)
   | none=>none
 | none=>none
theorem Gg:∀ l:List Nat,kJ (dup l)
 | []=>trivial
 | x::r=>⟨rfl,Gg r⟩
theorem sQ:∀ {l l':List (Nat × Nat)},kJ (l++l')->kJ l/\kJ l'
 | [],_,h=>⟨trivial,h⟩
 | _::_,_,h=>⟨⟨h.1,(sQ h.2).1⟩,(sQ h.2).2⟩
theorem KE {bd:List (Nat × Value)}:∀ {e5:List Nat} {k:List (Nat × Value)},xH bd e5=some k->E5 bd k
 | [],k,h=>by simp only [xH,Option.some.injEq] at h;subst h;trivial
 | t::r,k,h=>by
   simp only [xH] at h
   split at h
   · rename_i v vs J aa
     simp only [Option.some.injEq] at h
     subst h
     exact ⟨J,KE aa⟩
   · cases h
theorem asS {a:Act} {n:cQ} {d:Nat} {v:Value} (ar:a.tmps.size=n) (aO:Nat.blt d n=true):(a.put (some d) v).tmps.getD d undef=v:=by
 have bL:d <n:=Nat.le_of_ble_eq_true aO
 simp [Act.put,ar,bL]
theorem Is {a:Act} {d t:Nat} {v:Value} (h:t≠d):(a.put (some d) v).tmps.getD t undef=a.tmps.getD t undef:=by
 simp only [Act.put,Array.getD_eq_getD_getElem?]
 rw [Array.getElem?_setIfInBounds,if_neg (fun e=>h e.symm)]
theorem sV {a:Act} {d:Nat} {v:Value}:∀ {gs:List fz},j1 a gs->j1 (a.put (some d) v) (ob gs d)
 | [],_=>trivial
 | p::r,h=>by
   simp only [ob]
   cases ai:Nat.beq p.t d || Nat.beq p.j d with
   | true=>exact sV h.2
   | false=>
     simp only [Bool.or_eq_false_iff] at ai
     have J:p.t≠d:=fun e=>by rw [e] at ai;simp at ai
     have aa:p.j≠d:=fun e=>by rw [e] at ai;simp at ai
     refine ⟨?_,sV h.2⟩
     rw [Is J,Is aa];exact h.1
theorem Oj {d t:Nat} {v:Value}:∀ {bd:List (Nat × Value)},eb (wM bd d) t=some v->t≠d/\eb bd t=some v
 | [],h=>by simp [wM,eb] at h
 | p::r,h=>by
   simp only [wM] at h
   cases ai:Nat.beq p.1 d with
   | true=>
     rw [ai] at h
     obtain ⟨J,aa⟩:=Oj h
     refine ⟨J,?_⟩
     have e:=Nat.eq_of_beq_eq_true ai
     simp only [eb]
     cases hc:Nat.beq p.1 t with
     | true=>exact absurd ((Nat.eq_of_beq_eq_true hc).symm.trans e) J
     | false=>exact aa
   | false=>
     rw [ai] at h
     simp only [eb] at h ⊢
     cases hc:Nat.beq p.1 t with
     | true=>
       rw [hc] at h
       refine ⟨fun e=>?_,h⟩
       rw [Nat.eq_of_beq_eq_true hc,e] at ai
       simp at ai
     | false=>
       rw [hc] at h
       exact Oj h
theorem Fr.IL {n:cQ} {d:Nat} {bd:List (Nat × Value)} {a:Act} {v:Value} (ag:Fr n bd a):Fr n (wM bd d) (a.put (some d) v):=
 ⟨by simpa [Act.put] using ag.size,ag.defers,fun t u h=>by obtain ⟨J,aa⟩:=Oj h;rw [Is J];exact ag.get t u aa⟩
def ya:Op->Bool
 | .load _ _=>true
 | _=>false
theorem ai4 {G:jM} {M:List (Nat × Nat × List Value)} {ar:List Nat} {bd:List (Nat × Value)} {gs:List fz} {cur:List (Nat × Bool)} {op:Op} (h:ya op=false):qi G M ar bd gs cur op=qi G [] ar bd gs cur op:=by
 cases op with
 | load t x=>simp [ya] at h
 | unOp u t x=>cases u <;> rfl
 | call c=>
   unfold qi
   split <;> first | rfl | (rename_i e;cases e;done) | (rename_i e;cases e;rfl)
 | _=>rfl
theorem KV {P:Program} {G:jM} {M:List (Nat × Nat × List Value)} {C:World->Prop} {a:Act} {o:Oper} {n:cQ} {bd:List (Nat × Value)} {gs:List fz} {cur:List (Nat × Bool)} {ar ct:List Nat} {v:Value} {l:List (Nat × Nat)} (d_:ot P G) (eu:∀ w,C w->hR w M) (ag:Fr n bd a) (aA:j1 a gs) (hc:hK a cur)
 (h:qi G M ar bd gs cur o.op=some (v,ct,l)) (au:kJ l):(∀ w,C w->bj P o a w v w)/\(ya o.op=false-> ∀ w,bj P o a w v w):=
 ⟨fun w gI=>Uh d_ (eu w gI) ag aA hc rfl h au,fun aS w=>Uh d_ (M:=[]) trivial ag aA hc rfl (by rw [<-ai4 aS];exact h) au⟩
theorem aci {ops:Array Oper} {o:Oper} {a:Act} {n:cQ} {l:List (Nat × Value)} {j bA:Nat} {want:Bool} (ag:Fr n l a) (aA:o.guard=some (j,want)) (aJ:(ops[j]?).bind (·.dst)=some bA) (aS:Nat.blt bA n=true) :
 Region.wanted o (yielded ops a.tmps)=true ↔ a.tmps.getD bA undef= .bool want:=by
 have bL:bA <n:=Nat.le_of_ble_eq_true aS
 have ar:=ag.size
 have aa:a.tmps[bA]? =some (a.tmps.getD bA undef):=by
  rw [Array.getElem?_eq_getElem (by omega)]
  simp [Array.getD_eq_getD_getElem?,ar,bL]
 simp only [Region.wanted,aA,yielded,aJ,Option.bind_some,aa,beq_iff_eq]
 constructor
 · intro h
   split at h
   · rename_i b ai
     simp only [Option.some.injEq] at h ai
     rw [ai,h]
   · cases h
 · intro h
   rw [h]
def adq (P:Program) (ops:Array Oper) (C:World->Prop) (o:Oper) (d:Nat) (a:Act) (u:Value):Prop:=
 o.dst=some d/\((Region.wanted o (yielded ops a.tmps)=true/\(∀ w,C w->bj P o a w u w)/\(ya o.op=false-> ∀ w,bj P o a w u w))\/(Region.wanted o (yielded ops a.tmps)=false/\u=undef))
section
variable {P:Program} {G:jM} {ops:Array Oper} {n:cQ} {M:List (Nat × Nat × List Value)} {C:World->Prop}
theorem Lf (d_:ot P G) (eu:∀ w,C w->hR w M) {o:Oper} {rest:List Oper} {ar:List Nat} {bd:List (Nat × Value)} {gs:List fz} {l jz:List (Nat × Nat)} {fg:List (Nat × Value)} {jn:List fz} {a:Act}
 (ag:Fr n bd a) (aA:j1 a gs) (h:cr G ops n M (o::rest) ar bd gs l=some (fg,jn,jz)) (al:kJ jz)
 (Nc:∀ {os:List Oper} {ar:List Nat} {bd:List (Nat × Value)} {gs:List fz} {l:List (Nat × Nat)},cr G ops n M os ar bd gs l=some (fg,jn,jz)->kJ l) :
 ∃ d u ct fr' vl l',adq P ops C o d a u/\Fr n fr' (a.put (some d) u)/\j1 (a.put (some d) u) vl/\cr G ops n M rest ct fr' vl l'=some (fg,jn,jz):=by
 rw [cr] at h
 split at h
 · cases h
 · rename_i d aO
   split at h
   · cases h
   · rename_i aS
     split at h
     · rename_i hx
       split at h
       · rename_i v ct l' J
         have he:=(sQ (Nc h)).1
         exact ⟨d,v,ct,_,_,_,⟨aO,.inl ⟨Jn hx,KV (cur:=[]) d_ eu ag aA trivial J he⟩⟩,ag.put aS,sV aA,h⟩
       · cases h
     · rename_i j want hx
       split at h
       · cases h
       · rename_i bA oV
         have vy:=U3 oV
         split at h
         · cases h
         · rename_i DI
           split at h
           · rename_i ct
             split at h
             · cases h
             · rename_i cj
               split at h
               · rename_i v hO l' J
                 have he:=(sQ (Nc h)).1
                 have Nf:bA≠d:=fun e=>by rw [e] at cj;simp at cj
                 by_cases G0:a.tmps.getD bA undef= .bool want
                 · refine ⟨d,v,hO,_,_,_,⟨aO,.inl ⟨(aci ag hx vy DI).2 G0,KV (cur:=[(bA,want)]) d_ eu ag aA ⟨G0,trivial⟩ J he⟩⟩,ag.IL,(show j1 (a.put (some d) v) (⟨d,bA,want,v⟩::ob gs d) from ⟨fun _=>asS ag.size aS,sV aA⟩),h⟩
                 · refine ⟨d,undef,hO,_,_,_,⟨aO,.inr ⟨by rw [Bool.eq_false_iff];exact fun hw=>G0 ((aci ag hx vy DI).1 hw),rfl⟩⟩,ag.IL,(show j1 (a.put (some d) undef) (⟨d,bA,want,v⟩::ob gs d) from ⟨fun af=>?_,sV aA⟩),h⟩
                   simp only at af
                   rw [Is Nf] at af
                   exact absurd af G0
               · cases h
           · rename_i q ct a1
             split at h
             · rename_i b ai
               split at h
               · rename_i qu
                 have qu:b=want:=by simpa using qu
                 subst qu
                 split at h
                 · rename_i v hO l' J
                   have he:=(sQ (Nc h)).1
                   exact ⟨d,v,hO,_,_,_,⟨aO,.inl ⟨awq ag hx vy ai DI,KV (cur:=[]) d_ eu ag aA trivial J he⟩⟩,ag.put aS,sV aA,h⟩
                 · cases h
               · rename_i qu
                 exact ⟨d,undef,ct,_,_,_,⟨aO,.inr ⟨awp ag hx vy ai qu DI,rfl⟩⟩,ag.put aS,sV aA,h⟩
             · rename_i ai
               exact ⟨d,undef,ct,_,_,_,⟨aO,.inr ⟨awr ag hx vy ai DI,rfl⟩⟩,ag.put aS,sV aA,h⟩
             · cases h
           · cases h
theorem sR {fg:List (Nat × Value)} {jn:List fz} {jz:List (Nat × Nat)} (al:kJ jz):∀ {os:List Oper} {ar:List Nat} {bd:List (Nat × Value)} {gs:List fz} {l:List (Nat × Nat)},cr G ops n M os ar bd gs l=some (fg,jn,jz)->kJ l
 | [],ar,bd,gs,l,h=>by
   simp only [cr,Option.some.injEq,Prod.mk.injEq] at h
   rw [h.2.2];exact al
 | o::rest,ar,bd,gs,l,h=>by
   rw [cr] at h
   split at h
   · cases h
   · split at h
     · cases h
     · split at h
       · split at h
         · exact (sQ (sR al h)).2
         · cases h
       · split at h
         · cases h
         · split at h
           · cases h
           · split at h
             · split at h
               · cases h
               · split at h
                 · exact (sQ (sR al h)).2
                 · cases h
             · split at h
               · split at h
                 · split at h
                   · exact (sQ (sR al h)).2
                   · cases h
                 · exact sR al h
               · exact sR al h
               · cases h
             · cases h
theorem abM {w:World} {Q:Exit->Act->World->Prop} (d_:ot P G) (eu:hR w M) {fg:List (Nat × Value)} {jn:List fz} {jz:List (Nat × Nat)} (al:kJ jz):∀ (k:Nat) {rest:List Oper} {ar:List Nat} {bd:List (Nat × Value)} {gs:List fz} {l:List (Nat × Nat)} {a:Act},
 Fr n bd a->j1 a gs->cr G ops n M (rest.take k) ar bd gs l=some (fg,jn,jz)->(∀ a7,Fr n fg a7->wpList P ops Q (rest.drop k) a7 w)->wpList P ops Q rest a w
 | 0,rest,ar,bd,gs,l,a,ag,_,h,ak=>by
   simp only [List.take_zero,cr,Option.some.injEq,Prod.mk.injEq] at h
   have:=ak a (by rw [<-h.1];exact ag)
   simpa using this
 | k+ 1,[],ar,bd,gs,l,a,ag,_,h,ak=>by
   simp only [List.take_nil,cr,Option.some.injEq,Prod.mk.injEq] at h
   have:=ak a (by rw [<-h.1];exact ag)
   simpa using this
 | k+ 1,o::rest,ar,bd,gs,l,a,ag,aA,h,ak=>by
   rw [List.take_succ_cons] at h
   obtain ⟨d,u,ct,fr',vl,l',⟨aO,fk⟩,dC,fj,h'⟩:=Lf (C:=fun w'=>w'=w) d_ (fun w' e=>by subst e;exact eu) ag aA h al (sR al)
   have next:=abM d_ eu al k dC fj h' (by simpa using ak)
   refine wpList_step fun K cV=>?_
   rcases fk with ⟨hw,hy,_⟩ | ⟨hw,rfl⟩
   · rw [if_pos hw]
     unfold Oper.wp
     rw [show (execOp a.eval o).run P w=_ from hy w rfl]
     show K (a.put o.dst u) w
     rw [aO]
     exact cV _ _ next
   · rw [if_neg (by simp [hw]),aO]
     exact cV _ _ next
theorem aaY {nc:Act->Prop} (d_:ot P G) (eu:∀ w,C w->hR w M) {fg:List (Nat × Value)} {jn:List fz} {jz:List (Nat × Nat)} (al:kJ jz):∀ (k:Nat) {rest:List Oper} {ar:List Nat} {bd:List (Nat × Value)} {gs:List fz} {l:List (Nat × Nat)} {a:Act},
 Fr n bd a->j1 a gs->cr G ops n M (rest.take k) ar bd gs l=some (fg,jn,jz)->(∀ a7,Fr n fg a7->wpQuiet P ops C nc (rest.drop k) a7)->wpQuiet P ops C nc rest a
 | 0,rest,ar,bd,gs,l,a,ag,_,h,ak=>by
   simp only [List.take_zero,cr,Option.some.injEq,Prod.mk.injEq] at h
   have:=ak a (by rw [<-h.1];exact ag)
   simpa using this
 | k+ 1,[],ar,bd,gs,l,a,ag,_,h,ak=>by
   simp only [List.take_nil,cr,Option.some.injEq,Prod.mk.injEq] at h
   have:=ak a (by rw [<-h.1];exact ag)
   simpa using this
 | k+ 1,o::rest,ar,bd,gs,l,a,ag,aA,h,ak=>by
   rw [List.take_succ_cons] at h
   obtain ⟨d,u,ct,fr',vl,l',⟨aO,fk⟩,dC,fj,h'⟩:=Lf (C:=C) d_ eu ag aA h al (sR al)
   have next:=aaY d_ eu al k dC fj h' (by simpa using ak)
   unfold wpQuiet
   rcases fk with ⟨hw,hy,_⟩ | ⟨hw,rfl⟩
   · rw [if_pos hw]
     refine ⟨u,fun w hc=>?_,?_⟩
     · unfold Oper.quietAt
       rw [show (execOp a.eval o).run P w=_ from hy w hc]
       exact ⟨rfl,rfl⟩
     · rw [aO];exact next
   · rw [if_neg (by simp [hw]),aO]
     exact next
theorem Lg {os:List Oper} {ar:List Nat} {bd:List (Nat × Value)} {e5:List Nat} {k:List (Nat × Value)} {L:List (Nat × Nat)} (h:jZ G ops n M os ar bd e5=some (k,L)):∃ fg jn,cr G ops n M os ar bd [] []=some (fg,jn,L)/\E5 fg k:=by
 unfold jZ at h
 split at h
 · rename_i fr' vl l J
   split at h
   · rename_i k' aa
     simp only [Option.some.injEq,Prod.mk.injEq] at h
     obtain ⟨rfl,rfl⟩:=h
     exact ⟨fr',vl,J,KE aa⟩
   · cases h
 · cases h
theorem gR (k:Nat) (e5 ar:List Nat) {w:World} {Q:Exit->Act->World->Prop} {rest:List Oper} {bd fr':List (Nat × Value)} {L:List Nat} {a:Act} (d_:ot P G) (eu:hR w M) (ag:Fr n bd a) (he:jZ G ops n M (rest.take k) ar bd e5=some (fr',dup L))
 (next:∀ a7,Fr n fr' a7->wpList P ops Q (rest.drop k) a7 w):wpList P ops Q rest a w:=by
 obtain ⟨fg,jn,J,aa⟩:=Lg he
 exact abM (gs:=[]) d_ eu (Gg L) k ag trivial J fun a7 dC=>next a7 (dC.sub aa)
theorem atc (k:Nat) (e5 ar:List Nat) {nc:Act->Prop} {rest:List Oper} {bd fr':List (Nat × Value)} {L:List Nat} {a:Act} (d_:ot P G) (eu:∀ w,C w->hR w M) (ag:Fr n bd a) (he:jZ G ops n M (rest.take k) ar bd e5=some (fr',dup L))
 (next:∀ a7,Fr n fr' a7->wpQuiet P ops C nc (rest.drop k) a7):wpQuiet P ops C nc rest a:=by
 obtain ⟨fg,jn,J,aa⟩:=Lg he
 exact aaY (gs:=[]) d_ eu (Gg L) k ag trivial J fun a7 dC=>next a7 (dC.sub aa)
end
def gL:List Nat->Nat->Bool
 | [],_=>false
 | i::r,j=>Nat.beq i j || gL r j
section
variable {P:Program} {ops:Array Oper} {Q:Exit->Act->World->Prop} {md:Region.Mode} {S:World->Prop} {p:Nat}
def rG (P:Program) (md:Region.Mode) (ops:Array Oper) (Q:Exit->Act->World->Prop) (p:Nat) (S:World->Prop):Nat->Array Bool->Act->World->Prop
 | 0,listed,a,w=>Region.ready md ops listed= []/\Q .normal a w
 | cG+ 1,listed,a,w=>
   (Region.ready md ops listed= []->Q .normal a w) /\
   ∀ i ∈ Region.ready md ops listed,wpOp P ops Q i (fun a7 w'=>((listed.setIfInBounds i true).getD p false=false->S w')/\rG P md ops Q p S cG (listed.setIfInBounds i true) a7 w') a w
theorem acu:∀ (cG:Nat) (listed:Array Bool) (a:Act) (w:World),rG P md ops Q p S cG listed a w->wpAny P md ops Q cG listed a w
 | 0,_,_,_,h=>h
 | cG+ 1,_,_,_,h=>⟨h.1,fun i hi=>wpOp_mono (fun a7 w' h'=>acu cG _ a7 w' h'.2) (h.2 i hi)⟩
theorem abH {ck:Array Bool} {i p:Nat} (h:ck.getD p false=true):(ck.setIfInBounds i true).getD p false=true:=by
 simp only [Array.getD_eq_getD_getElem?,Array.getElem?_setIfInBounds] at h ⊢
 split
 · rename_i e
   subst e
   split
   · rfl
   · rename_i bL
     rw [Array.getElem?_eq_none (by omega)] at h
     cases h
 · exact h
theorem acr {pv:Nat} {xo:World->Prop}:∀ (cG:Nat) (listed:Array Bool) (a:Act) (w:World),listed.getD p false=true->rG P md ops Q pv xo cG listed a w->rG P md ops Q p S cG listed a w
 | 0,_,_,_,_,h=>h
 | cG+ 1,_,_,_,aP,h=>⟨h.1,fun i hi=>wpOp_mono (fun a7 w' h'=>⟨fun ag=>absurd ((abH aP).symm.trans ag) (by simp),acr cG _ a7 w' (abH aP) h'.2⟩) (h.2 i hi)⟩
def kF:List Oper->Nat->Nat->List Nat->List Nat
 | [],_,_,acc=>acc
 | o::r,k,i,acc=>kF r (k+ 1) i (match o.after.toList.any fun e=>Region.binds .any e && (Nat.beq e.on i || gL acc e.on) with | true=>k::acc | false=>acc)
theorem tf {l:List Nat} {j:Nat} (h:gL l j=true):j ∈ l:=by
 induction l with
 | nil=>simp [gL] at h
 | cons i r bH=>
   simp only [gL,Bool.or_eq_true] at h
   rcases h with h | h
   · rw [Nat.eq_of_beq_eq_true h];simp
   · exact List.mem_cons_of_mem _ (bH h)
def xb (ops:Array Oper) (i:Nat) (U:List Nat):Prop:=∀ u ∈ U,∃ o,ops[u]? =some o/\ ∃ e ∈ o.after,Region.binds .any e=true/\(e.on=i\/e.on ∈ U)
theorem KH {ops:Array Oper} {i:Nat}:∀ {l:List Oper} {k:Nat} {acc:List Nat},(∀ m o,l[m]? =some o->ops[k+m]? =some o)->xb ops i acc->xb ops i (kF l k i acc)
 | [],_,_,_,h=>h
 | o::r,k,acc,au,h=>by
   rw [kF]
   refine KH (fun m er hm=>by have:=au (m+ 1) er (by simpa using hm);rwa [show k+(m+ 1)=k+ 1 +m by omega] at this) ?_
   split
   · rename_i ai
     intro u hu
     rcases List.mem_cons.1 hu with rfl | hu
     · simp only [List.any_eq_true,Bool.and_eq_true,Bool.or_eq_true] at ai
       obtain ⟨e,he,J,aa⟩:=ai
       refine ⟨o,by simpa using au 0 o rfl,e,by simpa using he,J,?_⟩
       rcases aa with aa | aa
       · exact .inl (Nat.eq_of_beq_eq_true aa)
       · exact .inr (List.mem_cons_of_mem _ (tf aa))
     · obtain ⟨er,kU,e,he,J,aa⟩:=h u hu
       exact ⟨er,kU,e,he,J,aa.imp id (List.mem_cons_of_mem _)⟩
   · exact h
def Rd (ops:Array Oper) (p i:Nat) (ds:List Nat):Bool:=(match nth ops.toList p with
 | none=>true
 | some _=>gL (kF ops.toList 0 i []) p) && (kF ops.toList 0 i []).all fun u=>!(dw ops.size ds).getD u false
theorem Rf {ops:Array Oper} {p i:Nat} {ds:List Nat} (h:Rd ops p i ds=true):xb ops i (kF ops.toList 0 i [])/\(ops[p]? =none\/p ∈ kF ops.toList 0 i [])/\ ∀ u ∈ kF ops.toList 0 i [],(dw ops.size ds).getD u false=false:=by
 unfold Rd at h
 rw [Bool.and_eq_true] at h
 refine ⟨KH (fun m o hm=>by simpa using hm) (fun u hu=>by simp at hu),?_,fun u hu=>?_⟩
 · have J:=h.1
   rw [c3,Array.getElem?_toList] at J
   split at J
   · rename_i aS;exact .inl aS
   · exact .inr (tf J)
 · have:=List.all_eq_true.1 h.2 u hu
   simpa using this
theorem aww {i:Nat} {c7:Oper} {v:Value} (hi:ops[i]? =some c7) (j4:∀ (j:Nat) (o:Oper) cs b,ops[j]? =some o->o.op≠ .select cs b) (qE:p≠i)
 (ei:∀ c a w,Q (.panic c) (a.put c7.dst v) w->Q (.panic c) a w) {U:List Nat} (Db:xb ops i U) (alC:ops[p]? =none\/p ∈ U) :
 ∀ (cG:Nat) (listed:Array Bool) (a:Act) (w:World),
   (∀ j dB,ops[j]? =some dB->j≠i->listed.getD j true=false->(∀ e ∈ dB.after,Region.binds .any e=true->e.on≠i)->c7.apart ops dB=true) ->
   listed.getD p false=false->(∀ u ∈ U,listed.getD u false=false)->i ∈ Region.ready .any ops listed->YieldsIf P ops S c7 v a->S w ->
   rG P .any ops Q p S cG (listed.setIfInBounds i true) (a.put c7.dst v) w->rG P .any ops Q p S (cG+ 1) listed a w:=by
 intro cG
 induction cG with
 | zero=>
   intro listed a w _ _ _ aN hy gJ H
   refine ⟨fun h=>(by rw [h] at aN;cases aN),fun j aJ=>?_⟩
   by_cases eS:j=i
   · subst eS;exact hy.wpOp hi gJ ⟨fun _=>gJ,H⟩
   · have:=ready_mono aJ eS
     rw [H.1] at this
     cases this
 | succ cG bH=>
   intro listed a w lD kW h_ aN hy gJ H
   refine ⟨fun h=>(by rw [h] at aN;cases aN),fun j aJ=>?_⟩
   by_cases eS:j=i
   · subst eS;exact hy.wpOp hi gJ ⟨fun _=>gJ,H⟩
   · have J:=H.2 j (ready_mono aJ eS)
     obtain ⟨s3,dB,kV,hN⟩:=mem_ready.1 aJ
     have o3:∀ e ∈ dB.after,Region.binds .any e=true->e.on≠i:=fun e he ai heq=>by
      have J:=hN e he ai
      have aY:=(mem_ready.1 aN).1
      rw [heq] at J
      rcases Nat.lt_or_ge i listed.size with h' | h'
      · simp [h'] at aY J;rw [aY] at J;cases J
      · simp [Array.getElem?_eq_none h'] at J
     have Dt:j ∉ U:=fun Dv=>by
      obtain ⟨er,kU,e,he,ai,aa⟩:=Db j Dv
      rw [kV] at kU
      simp only [Option.some.injEq] at kU
      subst kU
      rcases aa with aa | aa
      · exact o3 e he ai aa
      · have az:=hN e he ai
        rw [h_ _ aa] at az
        cases az
     have Vy:j≠p:=fun e=>by
      subst e
      rcases alC with h | h
      · rw [kV] at h;cases h
      · exact Dt h
     have Ns:∀ u ∈ U,(listed.setIfInBounds j true).getD u false=false:=fun u hu=>by
      have:=h_ u hu
      have cj:j≠u:=fun e=>Dt (e ▸ hu)
      simp only [Array.getD_eq_getD_getElem?,Array.getElem?_setIfInBounds,if_neg cj] at this ⊢
      exact this
     have Nn:(listed.setIfInBounds j true).getD p false=false:=by
      simp only [Array.getD_eq_getD_getElem?,Array.getElem?_setIfInBounds,if_neg Vy] at kW ⊢
      exact kW
     have VH:((listed.setIfInBounds i true).setIfInBounds j true).getD p false=false:=by
      simp only [Array.getD_eq_getD_getElem?,Array.getElem?_setIfInBounds,if_neg Vy,if_neg (Ne.symm qE)] at kW ⊢
      exact kW
     have aa:=wpOp_putIf kV (lD j dB kV eS s3 o3) (fun cs b=>j4 i c7 cs b hi) (fun cs b=>j4 j dB cs b kV) ei hy J
     have Dk:∀ k ok,ops[k]? =some ok->k≠i->(listed.setIfInBounds j true).getD k true=false ->
      (∀ e ∈ ok.after,Region.binds .any e=true->e.on≠i)->c7.apart ops ok=true:=fun k ok ak Dx h_ iT=>by
      refine lD k ok ak Dx ?_ iT
      by_cases o2:j=k
      · subst o2;exact s3
      · rw [getD_set_ne true o2] at h_;exact h_
     refine wpOp_mono (fun a7 w' az=>⟨fun _=>az.2.1 VH,bH (listed.setIfInBounds j true) a7 w' Dk Nn Ns (ready_mono aN (Ne.symm eS)) az.1 (az.2.1 VH) ?_⟩) aa
     rw [Array.setIfInBounds_comm _ _ eS]
     exact az.2.2
theorem acq {i:Nat} {c7:Oper} {v:Value} (hi:ops[i]? =some c7) (j4:∀ (j:Nat) (o:Oper) cs b,ops[j]? =some o->o.op≠ .select cs b) (qE:p≠i)
 (ei:∀ c a w,Q (.panic c) (a.put c7.dst v) w->Q (.panic c) a w) :
 ∀ (cG:Nat) (listed:Array Bool) (a:Act) (w:World),
   (∀ j dB,ops[j]? =some dB->j≠i->listed.getD j true=false->(∀ e ∈ dB.after,Region.binds .any e=true->e.on≠i)->c7.apart ops dB=true) ->
   (listed.getD p false=false->S w)->i ∈ Region.ready .any ops listed->YieldsIf P ops (fun _=>True) c7 v a ->
   rG P .any ops Q p S cG (listed.setIfInBounds i true) (a.put c7.dst v) w->rG P .any ops Q p S (cG+ 1) listed a w:=by
 have DQ:∀ (ck:Array Bool) (b:Bool),(ck.setIfInBounds i true).getD p b=ck.getD p b:=fun ck b=>by
  simp only [Array.getD_eq_getD_getElem?,Array.getElem?_setIfInBounds,if_neg (Ne.symm qE)]
 intro cG
 induction cG with
 | zero=>
   intro listed a w _ gJ aN hy H
   refine ⟨fun h=>(by rw [h] at aN;cases aN),fun j aJ=>?_⟩
   by_cases eS:j=i
   · subst eS;exact hy.wpOp hi trivial ⟨fun h=>gJ (by rwa [DQ] at h),H⟩
   · have:=ready_mono aJ eS
     rw [H.1] at this
     cases this
 | succ cG bH=>
   intro listed a w lD gJ aN hy H
   refine ⟨fun h=>(by rw [h] at aN;cases aN),fun j aJ=>?_⟩
   by_cases eS:j=i
   · subst eS;exact hy.wpOp hi trivial ⟨fun h=>gJ (by rwa [DQ] at h),H⟩
   · have J:=H.2 j (ready_mono aJ eS)
     obtain ⟨s3,dB,kV,hN⟩:=mem_ready.1 aJ
     have o3:∀ e ∈ dB.after,Region.binds .any e=true->e.on≠i:=fun e he ai heq=>by
      have J:=hN e he ai
      have aY:=(mem_ready.1 aN).1
      rw [heq] at J
      rcases Nat.lt_or_ge i listed.size with h' | h'
      · simp [h'] at aY J;rw [aY] at J;cases J
      · simp [Array.getElem?_eq_none h'] at J
     have aa:=wpOp_putIf kV (lD j dB kV eS s3 o3) (fun cs b=>j4 i c7 cs b hi) (fun cs b=>j4 j dB cs b kV) ei hy J
     have Dk:∀ k ok,ops[k]? =some ok->k≠i->(listed.setIfInBounds j true).getD k true=false ->
      (∀ e ∈ ok.after,Region.binds .any e=true->e.on≠i)->c7.apart ops ok=true:=fun k ok ak Dx h_ iT=>by
      refine lD k ok ak Dx ?_ iT
      by_cases o2:j=k
      · subst o2;exact s3
      · rw [getD_set_ne true o2] at h_;exact h_
     have GU:∀ w',(((listed.setIfInBounds i true).setIfInBounds j true).getD p false=false->S w')->(listed.setIfInBounds j true).getD p false=false->S w':=fun w' af s5=>
      af (by rw [Array.setIfInBounds_comm _ _ (Ne.symm eS),DQ];exact s5)
     refine wpOp_mono (fun a7 w' az=>⟨GU w' az.2.1,bH (listed.setIfInBounds j true) a7 w' Dk (GU w' az.2.1) (ready_mono aN (Ne.symm eS)) az.1 ?_⟩) aa
     rw [Array.setIfInBounds_comm _ _ eS]
     exact az.2.2
end
def eI (P:Program) (ops:Array Oper) (Q:Exit->Act->World->Prop) (p:Nat) (S:World->Prop) (f:Nat) (ds:List Nat) (a:Act) (w:World):Prop:=((dw ops.size ds).getD p false=false->S w)/\rG P .any ops (NoPanic Q) p S f (dw ops.size ds) a w
def wH (ops:List Oper):List Nat->Option (List Oper)
 | []=>some []
 | i::r=>match nth ops i,wH ops r with
   | some o,some os=>some (o::os)
   | _,_=>none
def aaj (ops:Array Oper) (i:Nat):Bool:=match nth ops.toList i with
 | some o=>!ya o.op
 | none=>false
def yW (ops:Array Oper) (p:Nat):List Nat->List Nat->Bool
 | _,[]=>true
 | ds,i::r=>I5 ops ds i && (Rd ops p i ds || aaj ops i) && !Nat.beq p i && yW ops p (i::ds) r
def ER:List Nat->List Nat->List Nat
 | [],ds=>ds
 | i::r,ds=>ER r (i::ds)
section
variable {P:Program} {G:jM} {ops:Array Oper} {n:cQ} {M:List (Nat × Nat × List Value)} {S:World->Prop} {Q:Exit->Act->World->Prop} {a:Act} {w:World} {f p:Nat} {ds:List Nat}
theorem aom (i:Nat):dw ops.size (i::ds)=(dw ops.size ds).setIfInBounds i true:=rfl
theorem eI.wpAny (h:eI P ops Q p S f ds a w):Go.wpAny P .any ops (NoPanic Q) f (dw ops.size ds) a w:=acu f _ a w h.2
theorem FP (hc:(Region.ready .any ops (dw ops.size ds)).isEmpty=true) (h:Q .normal a w) (gJ:(dw ops.size ds).getD p false=false->S w):eI P ops Q p S f ds a w:=by
 refine ⟨gJ,?_⟩
 have aN:=List.isEmpty_iff.1 hc
 cases f with
 | zero=>exact ⟨aN,NoPanic.normal h⟩
 | succ f=>exact ⟨fun _=>NoPanic.normal h,by rw [aN];simp⟩
theorem eI.next (pv:Nat) (xo:World->Prop) (aP:(dw ops.size ds).getD p false=true) (h:eI P ops Q pv xo f ds a w):eI P ops Q p S f ds a w:=
 ⟨fun ag=>absurd (aP.symm.trans ag) (by simp),acr f _ a w aP h.2⟩
theorem Sd (d_:ot P G) (eu:∀ w,S w->hR w M) (lz:S w) {fg:List (Nat × Value)} {jn:List fz} {jz:List (Nat × Nat)} (al:kJ jz):∀ (is:List Nat) {os:List Oper} {ar ds:List Nat} {bd:List (Nat × Value)} {gs:List fz} {l:List (Nat × Nat)} {a:Act},
 (dw ops.size ds).getD p false=false->wH ops.toList is=some os->yW ops p ds is=true->Fr n bd a->j1 a gs->cr G ops n M os ar bd gs l=some (fg,jn,jz)->(∀ a7,Fr n fg a7->eI P ops Q p S f (ER is ds) a7 w)->eI P ops Q p S (f+is.length) ds a w
 | [],os,ar,ds,bd,gs,l,a,_,aC,_,ag,_,h,ak=>by
   simp only [wH,Option.some.injEq] at aC
   subst aC
   simp only [cr,Option.some.injEq,Prod.mk.injEq] at h
   exact ak a (by rw [<-h.1];exact ag)
 | i::is,os,ar,ds,bd,gs,l,a,kW,aC,aL,ag,aA,h,ak=>by
   simp only [wH] at aC
   split at aC
   · rename_i o azM J aa
     simp only [Option.some.injEq] at aC
     subst aC
     rw [c3,Array.getElem?_toList] at J
     simp only [yW,Bool.and_eq_true,Bool.not_eq_true'] at aL
     obtain ⟨⟨⟨mA,s9⟩,qE⟩,alW⟩:=aL
     have DL:p≠i:=fun e=>by rw [e] at qE;simp at qE
     obtain ⟨d,u,ct,fr',vl,l',⟨aO,fk⟩,dC,fj,h'⟩:=Lf (C:=S) d_ eu ag aA h al (sR al)
     have Nn:(dw ops.size (i::ds)).getD p false=false:=by
      rw [aom]
      simp only [Array.getD_eq_getD_getElem?,Array.getElem?_setIfInBounds,if_neg (Ne.symm DL)] at kW ⊢
      exact kW
     have next:=Sd d_ eu lz al is Nn aa alW dC fj h' ak
     simp only [I5,Bool.and_eq_true] at mA
     refine ⟨fun _=>lz,?_⟩
     have:=next.2
     rw [show f+(i::is).length=f+is.length+ 1 by simp [Nat.add_assoc]]
     rw [Bool.or_eq_true] at s9
     rcases s9 with s9 | DJ
     · refine aww (v:=u) J (Region.noSelect_spec mA.1.1) DL (fun c a w h=>h) (Rf s9).1 (Rf s9).2.1 (f+is.length) _ a w (Region.free_spec J mA.1.2) kW (Rf s9).2.2 (by simpa using mA.2) (fk.imp (fun ⟨x,y,_⟩=>⟨x,y⟩) id) lz ?_
       rw [aO]
       exact this
     · have alx:ya o.op=false:=by
        unfold aaj at DJ
        rw [c3,Array.getElem?_toList,J] at DJ
        simpa using DJ
       refine acq (v:=u) J (Region.noSelect_spec mA.1.1) DL (fun c a w h=>h) (f+is.length) _ a w (Region.free_spec J mA.1.2) (fun _=>lz) (by simpa using mA.2) (fk.imp (fun ⟨x,_,y⟩=>⟨x,fun w _=>y alx w⟩) id) ?_
       rw [aO]
       exact this
   · cases aC
theorem adt (is:List Nat) (k:Nat) (e5 ar:List Nat) {os:List Oper} {bd fr':List (Nat × Value)} {L:List Nat} (d_:ot P G) (eu:∀ w,S w->hR w M) (ag:Fr n bd a) (ak:Nat.beq is.length k=true) (kW:(dw ops.size ds).getD p false=false) (hi:wH ops.toList is=some os) (aL:yW ops p ds is=true)
 (he:jZ G ops n M os ar bd e5=some (fr',dup L)) (lz:S w) (next:∀ a7,Fr n fr' a7->eI P ops Q p S f (ER is ds) a7 w):eI P ops Q p S (f+k) ds a w:=by
 have ak:=Nat.eq_of_beq_eq_true ak
 subst ak
 obtain ⟨fg,jn,J,aa⟩:=Lg he
 exact Sd (gs:=[]) d_ eu lz (Gg L) is kW hi aL ag trivial J fun a7 dC=>next a7 (dC.sub aa)
theorem jV (i:Nat) {o:Oper} (hi:ops[i]? =some o) (hc:(Region.ready .any ops (dw ops.size ds) == [i])=true) (gJ:(dw ops.size ds).getD p false=false->S w) (h:wpList P ops (xg (eI P ops Q p S f (i::ds)) (NoPanic Q)) [o] a w):eI P ops Q p S (f+ 1) ds a w:=by
 have aN:=eq_of_beq hc
 refine ⟨gJ,⟨fun aY=>(by rw [aN] at aY;cases aY),fun j aJ=>?_⟩⟩
 rw [aN] at aJ
 have:j=i:=by simpa using aJ
 subst this
 exact Ri hi h
theorem R' (i j:Nat) {o er:Oper} (hi:ops[i]? =some o) (aJ:ops[j]? =some er) (hc:(Region.ready .any ops (dw ops.size ds) == [i,j])=true) (gJ:(dw ops.size ds).getD p false=false->S w) (h:wpList P ops (xg (eI P ops Q p S f (i::ds)) (NoPanic Q)) [o] a w)
 (h':wpList P ops (xg (eI P ops Q p S f (j::ds)) (NoPanic Q)) [er] a w):eI P ops Q p S (f+ 1) ds a w:=by
 have aN:=eq_of_beq hc
 refine ⟨gJ,⟨fun aY=>(by rw [aN] at aY;cases aY),fun q a1=>?_⟩⟩
 rw [aN] at a1
 have:q=i\/q=j:=by simpa using a1
 rcases this with rfl | rfl
 · exact Ri hi h
 · exact Ri aJ h'
theorem h6 (h:eI P ops Q p S f ds a w):wpList P ops (xg (eI P ops Q p S f ds) (NoPanic Q)) [] a w:=h
end
end ay
namespace ay
open Go Go.RowKit I
theorem Kp (p q:List UInt8):((⟨⟨p⟩⟩:ByteArray) == ⟨⟨q⟩⟩)=decide (p=q):=by
 show ((⟨p⟩:Array UInt8) == ⟨q⟩)=_
 rw [Bool.eq_iff_iff];simp
structure jg (cL:Type) [DecidableEq cL] where
 enc:cL->Value
 desc:TypeDesc
 same:∀ a b,Instr.sameNow desc (enc a) (enc b)=some (decide (b=a))
 bits:∀ a,Instr.sameBits 10000 (enc a) (enc a)=true
 check:∀ (P:Program) (w:World) (e:Bool) (t:TypeId) (a:cL),P.underlying t=some desc->(Instr.checkKey e 10000 t (enc a)).run P w= .ok () w
def amL:jg Int where
 enc n:=.int .i64 n
 desc:=.int .i64
 same a b:=by
  simp only [Instr.sameNow,if_true,Option.some.injEq]
  rw [Bool.eq_iff_iff]
  simp only [beq_iff_eq,decide_eq_true_iff]
  exact eq_comm
 bits a:=by
  have h:∀ n,Instr.sameBits n (.int .i64 a) (.int .i64 a)=true:=fun n=>by cases n <;> simp [Instr.sameBits]
  exact h 10000
 check P w e t a h:=by
  have h':∀ n:Nat,(Instr.checkKey e (n+ 1) t (.int .i64 a)).run P w= .ok () w:=fun n=>by simp [Instr.checkKey,run_underlying h]
  exact h' 9999
def j9:jg (List UInt8) where
 enc s:=cv s
 desc:=.string
 same a b:=by
  simp only [Instr.sameNow,Option.some.injEq]
  have e:decide (a=b)=decide (b=a):=by rw [decide_eq_decide];exact eq_comm
  exact (Kp a b).trans e
 bits a:=by
  have h:∀ n,Instr.sameBits n (cv a) (cv a)=true:=fun n=>by
   have e:((⟨⟨a⟩⟩:ByteArray) == ⟨⟨a⟩⟩)=true:=(Kp a a).trans (by simp)
   cases n <;> (simp only [Instr.sameBits];exact e)
  exact h 10000
 check P w e t a h:=by
  have h':∀ n:Nat,(Instr.checkKey e (n+ 1) t (cv a)).run P w= .ok () w:=fun n=>by simp [Instr.checkKey,run_underlying h]
  exact h' 9999
section
variable {cL β:Type} [DecidableEq cL] (K:jg cL) (cr:β->Value)
def J4 (es:List MapEntry) (d:List (cL × β)):Prop:=es.map (fun e=>(e.key,e.val))=d.map (fun p=>(K.enc p.1,cr p.2))
def R4 (w:World) (r:Nat) (d:List (cL × β)):Prop:=∃ es clock,w.heap[r]? =some (.map es clock)/\J4 K cr es.toList d/\(es.toList.map (·.born)).Pairwise (· < ·)/\ ∀ e ∈ es.toList,e.born <clock
def ba.map (r:Nat) (d:List (cL × β)):ba where
 bD:=[r]
 ok w:=R4 K cr w r d
 law w w' h ak:=by
  obtain ⟨es,c,J,aa⟩:=ak
  exact ⟨es,c,(h r (by simp)).trans J,aa⟩
def bF.map (r:Nat) (d:List (cL × β)):bF where
 ok M w:=r ∉ M/\r <w.heap.size/\R4 K cr w r d
 law M hJ w w' aj hm h:=by
  obtain ⟨J,aa,es,c,az,bp⟩:=h
  exact ⟨fun af=>by rcases hm r af with e | e;exact J e;omega,Nat.lt_of_lt_of_le aa aj.size,es,c,(aj.block r aa J).trans az,bp⟩
end
section
variable {cL β:Type} [DecidableEq cL] {K:jg cL} {cr:β->Value}
variable {P:Program} {o:Oper} {a:Act} {w:World} {x y z:Operand} {t b1 CT:TypeId} {r:Nat} {d:List (cL × β)} {k:cL} {v:β}
theorem ayG (aC:o.op= .makeMap t none):bj P o a w (.map (some w.heap.size)) (w.alloc (.map #[] 0)):=by
 simp only [bj,execOp,aC,Sem.run_bind]
 rfl
end
end ay
namespace ay
open Go Go.RowKit I
def RY (E:List ba):Prop:=∀ (i:Nat) (x:ba),E[i]? =some x->x.bD.Nodup/\ ∀ (j:Nat) (y:ba),E[j]? =some y->i≠j-> ∀ k ∈ x.bD,k ∉ y.bD
theorem Lj:∀ {E:List ba},(cc E).Nodup->RY E
 | [],_=>fun i x h=>by simp at h
 | e::E,h=>by
   have h':(e.bD++cc E).Nodup:=by simpa [cc] using h
   rw [List.nodup_append] at h'
   obtain ⟨J,aa,az⟩:=h'
   have bH:=Lj aa
   intro i x af
   cases i with
   | zero=>
     simp only [List.getElem?_cons_zero,Option.some.injEq] at af
     subst af
     refine ⟨J,fun j y hy cj k ak cS=>?_⟩
     cases j with
     | zero=>exact cj rfl
     | succ j=>exact az k ak k (List.mem_flatMap.2 ⟨y,List.mem_of_getElem? (by simpa using hy),cS⟩) rfl
   | succ i=>
     have af:E[i]? =some x:=by simpa using af
     refine ⟨(bH i x af).1,fun j y hy cj k ak cS=>?_⟩
     cases j with
     | zero=>
       simp only [List.getElem?_cons_zero,Option.some.injEq] at hy
       subst hy
       exact az k cS k (List.mem_flatMap.2 ⟨x,List.mem_of_getElem? af,ak⟩) rfl
     | succ j=>exact (bH i x af).2 j y (by simpa using hy) (by omega) k ak cS
theorem aap:∀ {E:List ba},RY E->(cc E).Nodup
 | [],_=>by simp [cc]
 | e::E,h=>by
   have ao:cc (e::E)=e.bD++cc E:=by simp [cc]
   rw [ao,List.nodup_append]
   refine ⟨(h 0 e rfl).1,aap fun i x af=>⟨(h (i+ 1) x (by simpa using af)).1,fun j y hy cj k ak=>(h (i+ 1) x (by simpa using af)).2 (j+ 1) y (by simpa using hy) (by omega) k ak⟩,fun a a3 b ai GY=>?_⟩
   subst GY
   obtain ⟨x,af,ak⟩:=List.mem_flatMap.1 ai
   obtain ⟨i,hi,rfl⟩:=List.mem_iff_getElem.1 af
   exact (h 0 e rfl).2 (i+ 1) E[i] (by simp [hi]) (by omega) a a3 ak
def yJ (E:List ba):List Nat->Option (List ba)
 | []=>some []
 | i::r=>match nth E i,yJ E r with
   | some x,some xs=>some (x::xs)
   | _,_=>none
def Hn:List Nat->Nat->Bool
 | [],_=>false
 | i::r,j=>Nat.beq i j || Hn r j
def Ek:List Nat->Bool
 | []=>true
 | i::r=>!Hn r i && Ek r
theorem aml {l:List Nat} {j:Nat} (h:Hn l j=false):j ∉ l:=by
 induction l with
 | nil=>simp
 | cons i r bH=>
   simp only [Hn,Bool.or_eq_false_iff] at h
   intro hm
   rcases List.mem_cons.1 hm with rfl | e
   · simp at h
   · exact bH h.2 e
theorem Z9:∀ {l:List Nat},Ek l=true->l.Nodup
 | [],_=>by simp
 | i::r,h=>by
   simp only [Ek,Bool.and_eq_true,Bool.not_eq_true'] at h
   exact List.nodup_cons.2 ⟨aml h.1,Z9 h.2⟩
theorem IY {E:List ba}:∀ {is:List Nat} {jf:List ba},yJ E is=some jf-> ∀ (m:Nat) (x:ba),jf[m]? =some x-> ∃ i:Nat,is[m]? =some i/\E[i]? =some x
 | [],jf,h,m,x,af=>by simp only [yJ,Option.some.injEq] at h;subst h;simp at af
 | i::r,jf,h,m,x,af=>by
   simp only [yJ] at h
   split at h
   · rename_i y ys J aa
     simp only [Option.some.injEq] at h
     subst h
     cases m with
     | zero=>
       simp only [List.getElem?_cons_zero,Option.some.injEq] at af
       subst af
       exact ⟨i,rfl,by rw [<-c3];exact J⟩
     | succ m=>obtain ⟨q,bx,b6⟩:=IY aa m x (by simpa using af);exact ⟨q,by simpa using bx,b6⟩
   · cases h
section
variable {W w w':World} {aD X:List Nat} {E:List ba} {D:List bF}
theorem bz.sel (h:bz W aD X w E D) (is:List Nat) {jf:List ba} (aS:Ek is=true) (ar:yJ E is=some jf):bz W aD X w jf D:=by
 have x5:∀ x ∈ jf,x ∈ E:=fun x af=>by
  obtain ⟨m,hm,rfl⟩:=List.mem_iff_getElem.1 af
  obtain ⟨i,_,hi⟩:=IY ar m _ (List.getElem?_eq_getElem hm)
  exact List.mem_of_getElem? hi
 have ag:∀ k ∈ cc jf,k ∈ cc E:=fun k ak=>by
  obtain ⟨x,af,G'⟩:=List.mem_flatMap.1 ak
  exact List.mem_flatMap.2 ⟨x,x5 x af,G'⟩
 have aO:=Lj h.bA
 have vK:=Z9 aS
 refine ⟨h.cr,h.gZ,fun k ak=>h.lt k (ag k ak),fun x af=>h.ok x (x5 x af),aap fun m x af=>?_,fun y hy=>y.law _ _ w w (bw.refl _ _) (fun k ak=>.inl ?_) (h.rd y hy)⟩
 · obtain ⟨i,hi,Hl⟩:=IY ar m x af
   refine ⟨(aO i x Hl).1,fun eA y hy cj k ak=>?_⟩
   obtain ⟨j,aJ,DT⟩:=IY ar eA y hy
   refine (aO i x Hl).2 j y DT (fun e=>?_) k ak
   subst e
   obtain ⟨l1,ao⟩:=List.getElem?_eq_some_iff.1 hi
   obtain ⟨cT,aq⟩:=List.getElem?_eq_some_iff.1 aJ
   rcases Nat.lt_or_gt_of_ne cj with bL | bL
   · exact (List.pairwise_iff_getElem.1 vK m eA l1 cT bL) (ao.trans aq.symm)
   · exact (List.pairwise_iff_getElem.1 vK eA m cT l1 bL) (aq.trans ao.symm)
 · rcases List.mem_append.1 ak with e | e
   · exact List.mem_append.2 (.inl e)
   · exact List.mem_append.2 (.inr (ag k e))
theorem xS (A B:List ba):cc (A++B)=cc A++cc B:=by simp [cc]
theorem bz.into (h:bz W aD X w E D) (m:Nat):bz w (cc (E.take m)) (X++cc (E.drop m)) w (E.take m) D:=by
 have ah:cc E=cc (E.take m)++cc (E.drop m):=by rw [<-xS,List.take_append_drop]
 have aO:=h.bA
 rw [ah,List.nodup_append] at aO
 refine ⟨bw.refl _ _,fun k ak=>?_,fun k ak=>⟨(h.lt k (by rw [ah];simp [ak])).1,.inl ak⟩,fun x af=>h.ok x (List.mem_of_mem_take af),aO.1,fun y hy=>y.law _ _ w w (bw.refl _ _) (fun k ak=>.inl ?_) (h.rd y hy)⟩
 · rcases List.mem_append.1 ak with e | e
   · refine ⟨Nat.lt_of_lt_of_le (h.gZ k e).1 h.cr.size,fun cS=>?_⟩
     have:=(h.lt k (by rw [ah];simp [cS])).2
     rcases this with aq | aq
     · exact (h.gZ k e).2 aq
     · have:=(h.gZ k e).1;omega
   · exact ⟨(h.lt k (by rw [ah];simp [e])).1,fun cS=>aO.2.2 k cS k e rfl⟩
 · rw [ah]
   simp only [List.mem_append] at ak ⊢
   rcases ak with (e | e) | e <;> simp [e]
def J7:List bF->Prop
 | []=>True
 | y::r=>(∀ M hJ w w',y.ok M w->y.ok hJ w')/\J7 r
theorem RZ:∀ {D:List bF},J7 D-> ∀ y ∈ D,∀ M hJ w w',y.ok M w->y.ok hJ w'
 | [],_,y,hy=>by simp at hy
 | z::r,h,y,hy=>by
   rcases List.mem_cons.1 hy with rfl | e
   · exact h.1
   · exact RZ h.2 y e
theorem bz.Sk (h:bz W aD X w E D) (m:Nat) {p2:List Nat} {ow:List ba} {fo:List bF} (k:bz w (cc (E.take m)) p2 w' ow fo) (xZ:∀ y ∈ fo,y.ok (X++cc (ow++E.drop m)) w'):bz W aD X w' (ow++E.drop m) (fo++D):=by
 have ah:cc E=cc (E.take m)++cc (E.drop m):=by rw [<-xS,List.take_append_drop]
 have aO:=h.bA
 rw [ah,List.nodup_append] at aO
 have kQ:∀ b ∈ cc (E.take m),b <w.heap.size/\(b ∈ aD\/W.heap.size<=b):=fun b ai=>h.lt b (by rw [ah];simp [ai])
 have eR:∀ b ∈ cc (E.drop m),b <w.heap.size/\(b ∈ aD\/W.heap.size<=b):=fun b ai=>h.lt b (by rw [ah];simp [ai])
 have aj:=k.cr
 have MB:∀ b ∈ cc ow,b ∉ cc (E.drop m):=fun b ai fi=>by
  rcases (k.lt b ai).2 with e | e
  · exact aO.2.2 b e b fi rfl
  · have:=(eR b fi).1;omega
 refine ⟨h.cr.trans aj (fun b ai=>(kQ b ai).2),h.gZ,fun b ai=>?_,fun x af=>?_,?_,fun y hy=>?_⟩
 · rw [xS] at ai
   rcases List.mem_append.1 ai with e | e
   · refine ⟨(k.lt b e).1,?_⟩
     rcases (k.lt b e).2 with aq | aq
     · exact (kQ b aq).2
     · exact .inr (Nat.le_trans h.cr.size aq)
   · exact ⟨Nat.lt_of_lt_of_le (eR b e).1 aj.size,(eR b e).2⟩
 · rcases List.mem_append.1 af with e | e
   · exact k.ok x e
   · refine x.law w w' (fun b ai=>?_) (h.ok x (List.mem_of_mem_drop e))
     have fi:b ∈ cc (E.drop m):=List.mem_flatMap.2 ⟨x,e,ai⟩
     exact aj.block b (eR b fi).1 (fun ak=>aO.2.2 b ak b fi rfl)
 · rw [xS,List.nodup_append]
   exact ⟨k.bA,aO.2.1,fun a a3 b ai e=>by subst e;exact MB a a3 ai⟩
 · rcases List.mem_append.1 hy with e | e
   · exact xZ y e
   · refine y.law _ _ w w' (aj.mono fun b ai=>?_) (fun b ai=>?_) (h.rd y e)
     · rw [ah];simp [ai]
     · rw [xS] at ai
       rw [ah]
       simp only [List.mem_append] at ai ⊢
       rcases ai with ao | ao | ao
       · simp [ao]
       · rcases (k.lt b ao).2 with aq | aq
         · simp [aq]
         · exact .inr aq
       · simp [ao]
theorem bz.back (h:bz W aD X w E D) (m:Nat) {ow:List ba} {fo:List bF} (k:bz w (cc (E.take m)) (X++cc (E.drop m)) w' ow fo):bz W aD X w' (ow++E.drop m) (fo++D):=
 h.Sk m k fun y hy=>y.law _ _ w' w' (bw.refl _ _) (fun b ai=>.inl (by
   rw [xS] at ai
   simp only [List.mem_append] at ai ⊢
   rcases ai with e | e | e <;> simp [e])) (k.rd y hy)
theorem bz.fq (h:bz W aD X w E D) (m:Nat) {p2:List Nat} {ow:List ba} {fo:List bF} (aR:J7 fo) (k:bz w (cc (E.take m)) p2 w' ow fo):bz W aD X w' (ow++E.drop m) (fo++D):=
 h.Sk m k fun y hy=>RZ aR y hy _ _ _ _ (k.rd y hy)
end
end ay
namespace ay
open Go Go.RowKit I
section
variable {P:Program} {ops:Array Oper} {Q:Exit->Act->World->Prop} {a:Act} {w:World} {rest:List Oper} {o:Oper} {n:cQ} {d:Nat} {l:List (Nat × Value)}
 {W:World} {aD X:List Nat} {E:List ba} {D:List bF}
theorem bz.abv (h:bz W aD X w E D) {α:Type} {T:c8 α} {xs:List Value} {li:List α} (aN:dF T (gS (X++cc E) w) w xs li):bz W aD X w E (bF.rows T xs li::D):=h.more aN
theorem IX {α:Type} {T:c8 α} {t e:TypeId} {x y:Operand} {z:Value} {bytes m c:Nat} {v:Value} {li ml l':List α} {xs cs:List Value} {dR:Addr} (i:Nat) (hm:bz W aD X w E D) (hi:E[i]? =some (ba.row e T.size v li xs))
 (fr:P.underlying t=some (.slice e)) (iE:(P.info? e).map (fun i=>(i.zero,i.size,i.bytes))=some (some z,T.size,bytes)) (al:z.cells.size=T.size) (ej:0 <T.size)
 (aN:cq bytes li ml=some l') (s4:ml.length=m) (kR:0 <bytes)
 (ia:dF T (gS (X++cc E) w) w xs li) (hcs:dF T (gS (X++cc E) w) w cs ml) (hv:∀ j u,cs[j]? =some u->w.cell? (dR.add j)=some u)
 (hw:Region.wanted o (yielded ops a.tmps)=true)
 (aC:o.op= .call { callee:=.builtin .append,args:=#[x,y],argTypes:=#[t,t] }) (af:a.eval x=v) (hy:a.eval y= .slice (some dR) m c) (ag:Fr n l a) (aO:o.dst=some d) (aS:Nat.blt d n=true)
 (k:∀ a7 A bO w',bw v.ownBlock.toList w w'->Fr n ((d,.slice A l'.length bO)::l) a7->bz W aD X w' (E.set i (ba.row e T.size (.slice A l'.length bO) l' (xs++cs))) (bF.rows T (xs++cs) l'::D)->wpList P ops Q rest a7 w'):wpList P ops Q (o::rest) a w:=by
 obtain ⟨i0,MV,VX,vN,oR⟩:=V1 iE
 obtain ⟨MC,rfl⟩:=FR aN
 have iU:w.ownsRow 0 e T.size v li.length xs:=hm.e i hi
 subst s4
 have aku:li.length+ml.length<=maxLen:=by
  have aa:=Nat.le_mul_of_pos_right (li.length+ml.length) kR
  simp only [maxLen]
  omega
 obtain ⟨eT,w',gp,aa,az,_,dj⟩:=run_append_own_at (P:=P) w 0 t o.type e i0 z T.size bytes fr MV VX vN oR al ej v li.length xs iU dR ml.length c cs (rq T hcs)
  hv (yC T hcs) aku MC (Nat.zero_le _)
 have o4:(ba.row e T.size eT (li++ml) (xs++cs)).ok w':=by
  show w'.ownsRow 0 e T.size eT (li++ml).length (xs++cs)
  rw [List.length_append];exact aa
 obtain ⟨A,bO,rfl,_⟩:=IQ o4
 have lH:bj P o a w (.slice A (li++ml).length bO) w':=by
  simp only [bj,execOp,aC,resolve,invoke,builtin,Sem.run_bind,Sem.run_pure,Result.andThen_ok,List.map_toArray,List.map_cons,List.map_nil,af,hy,gp]
 have DA:=hm.abv (EK T hcs ia)
 refine m3 hw lH ag aO aS fun a7 dC=>k a7 A bO w' (bw.grown az) dC (DA.I9 i hi (bw.grown az) o4 (asE _) fun q a1=>?_)
 have vM:(Value.slice A (li++ml).length bO).ownBlock=some q:=by simpa [ba.row] using a1
 rcases dj with dt | dt
 · left;simpa [ba.row,<-dt] using vM
 · right
   rw [dt] at vM
   injection vM with vM
   subst vM
   refine ⟨Nat.le_refl _,?_⟩
   rcases aa.2 with ⟨aj,_⟩ | ⟨g',cap,cur,aj,_,fj,_⟩
   · rw [aj] at dt;simp [Value.ownBlock] at dt
   · rw [aj] at dt
     have:g'=w.heap.size:=by simpa [Value.ownBlock] using dt
     subst this
     exact (Array.getElem?_eq_some_iff.1 fj).1
theorem IW {α:Type} {T:c8 α} {t e:TypeId} {x y:Operand} {z:Value} {bytes g m c:Nat} {v:Value} {li ml l':List α} {xs cs:List Value} (i j q:Nat) (hm:bz W aD X w E D) (hi:E[i]? =some (ba.row e T.size v li xs)) (aJ:E[j]? =some (ba.dD g e cs)) (a1:D[q]? =some (bF.rows T xs li))
 (fr:P.underlying t=some (.slice e)) (iE:(P.info? e).map (fun i=>(i.zero,i.size,i.bytes))=some (some z,T.size,bytes)) (al:z.cells.size=T.size) (ej:Nat.blt 0 T.size=true)
 (aN:cq bytes li ml=some l') (s4:ml.length=m) (kR:Nat.blt 0 bytes=true) (hcs:dF T (gS (X++cc E) w) w cs ml)
 (hw:Region.wanted o (yielded ops a.tmps)=true)
 (aC:o.op= .call { callee:=.builtin .append,args:=#[x,y],argTypes:=#[t,t] }) (af:a.eval x=v) (hy:a.eval y= .slice (some ⟨g,0,none⟩) m c) (ag:Fr n l a) (aO:o.dst=some d) (aS:Nat.blt d n=true)
 (k:∀ a7 A bO eC w',Fr n ((d,.slice A l'.length bO)::l) a7->bz W aD X w' ((E.set i (ba.row e T.size (.slice A l'.length bO) l' eC)).eraseIdx j) (bF.rows T eC l'::D)->wpList P ops Q rest a7 w'):wpList P ops Q (o::rest) a w:=by
 have ai:=hm.e j aJ
 exact IX i hm hi fr iE al (Nat.le_of_ble_eq_true ej) aN s4 (Nat.le_of_ble_eq_true kR) (hm.d q a1) hcs (fun j u hu=>by rw [iK];simpa using sH ai hu) hw aC af hy ag aO aS
  fun a7 A bO w' _ dC ea=>k a7 A bO _ w' dC (ea.Gh j)
theorem QO {α:Type} {T:c8 α} {t e:TypeId} {x y:Operand} {z:Value} {bytes g m c:Nat} {v:Value} {li ml l':List α} {xs cs:List Value} (i j q:Nat) (hm:bz W aD X w E D) (hi:E[i]? =some (ba.row e T.size v li xs)) (aJ:E[j]? =some (ba.dD g e cs)) (a1:D[q]? =some (bF.rows T xs li))
 (fr:P.underlying t=some (.slice e)) (iE:(P.info? e).map (fun i=>(i.zero,i.size,i.bytes))=some (some z,T.size,bytes)) (al:z.cells.size=T.size) (ej:Nat.blt 0 T.size=true)
 (aN:cq bytes li ml=some l') (s4:ml.length=m) (kR:Nat.blt 0 bytes=true) (hcs:dF T (gS (X++cc E) w) w cs ml)
 (hw:Region.wanted o (yielded ops a.tmps)=true)
 (aC:o.op= .call { callee:=.builtin .append,args:=#[x,y],argTypes:=#[t,t] }) (af:a.eval x=v) (hy:a.eval y= .slice (some ⟨g,0,none⟩) m c) (ag:Fr n l a) (aO:o.dst=some d) (aS:Nat.blt d n=true)
 (k:∀ a7 A bO eC w',bw v.ownBlock.toList w w'->Fr n ((d,.slice A l'.length bO)::l) a7->bz W aD X w' ((E.set i (ba.row e T.size (.slice A l'.length bO) l' eC)).eraseIdx j) (bF.rows T eC l'::D)->wpList P ops Q rest a7 w'):wpList P ops Q (o::rest) a w:=by
 have ai:=hm.e j aJ
 exact IX i hm hi fr iE al (Nat.le_of_ble_eq_true ej) aN s4 (Nat.le_of_ble_eq_true kR) (hm.d q a1) hcs (fun j u hu=>by rw [iK];simpa using sH ai hu) hw aC af hy ag aO aS
  fun a7 A bO w' aj dC ea=>k a7 A bO _ w' aj dC (ea.Gh j)
theorem ayo {t e:TypeId} {x y:Operand} {v:Value} {sz k:Nat} {xs:List Value} {z:Value} {bytes:Nat} (fr:P.underlying t=some (.slice e)) (iE:(P.info? e).map (fun i=>(i.zero,i.size,i.bytes))=some (some z,sz,bytes)) (iU:w.ownsRow 0 e sz v k xs)
 (aC:o.op= .call { callee:=.builtin .append,args:=#[x,y],argTypes:=#[t,t] }) (af:a.eval x=v) (hy:a.eval y= .slice none 0 0):bj P o a w v w:=by
 obtain ⟨i0,MV,VX,vN,oR⟩:=V1 iE
 have gp:=run_append_owned_none (P:=P) (w:=w) 0 t o.type e i0 sz fr MV v k xs iU
 simp only [bj,execOp,aC,resolve,invoke,builtin,Sem.run_bind,Sem.run_pure,Result.andThen_ok,List.map_toArray,List.map_cons,List.map_nil,af,hy,gp]
theorem avK {α:Type} {T:c8 α} {t e:TypeId} {x y:Operand} {z:Value} {bytes c:Nat} {v:Value} {li ml l':List α} {xs:List Value} {m9:Option Addr} (i q p:Nat) (hm:bz W aD X w E D) (hi:E[i]? =some (ba.row e T.size v li xs)) (a1:D[q]? =some (bF.rows T xs li)) (aP:D[p]? =some (bF.of (ca T) [.slice m9 ml.length c] ml))
 (fr:P.underlying t=some (.slice e)) (iE:(P.info? e).map (fun i=>(i.zero,i.size,i.bytes))=some (some z,T.size,bytes)) (al:z.cells.size=T.size) (ej:Nat.blt 0 T.size=true)
 (aN:cq bytes li ml=some l') (kR:Nat.blt 0 bytes=true)
 (hw:Region.wanted o (yielded ops a.tmps)=true)
 (aC:o.op= .call { callee:=.builtin .append,args:=#[x,y],argTypes:=#[t,t] }) (af:a.eval x=v) (hy:a.eval y= .slice m9 ml.length c) (ag:Fr n l a) (aO:o.dst=some d) (aS:Nat.blt d n=true)
 (k:∀ a7 A bO eC w',bw v.ownBlock.toList w w'->Fr n ((d,.slice A l'.length bO)::l) a7->bz W aD X w' (E.set i (ba.row e T.size (.slice A l'.length bO) l' eC)) (bF.rows T eC l'::D)->wpList P ops Q rest a7 w'):wpList P ops Q (o::rest) a w:=by
 have ia:=hm.d q a1
 have akW:(ca T).rd (gS (X++cc E) w) w [.slice m9 ml.length c] ml:=hm.d p aP
 obtain ⟨eV,cJ,ao,aq,a0,ch,dt⟩:=akW
 simp only [List.cons.injEq,Value.slice.injEq,and_true,true_and] at ao
 obtain ⟨rfl,rfl⟩:=ao
 by_cases s4:ml= []
 · subst s4
   cases m9 with
   | none=>
     have kS:=ch rfl
     subst kS
     have iU:w.ownsRow 0 e T.size v li.length xs:=hm.e i hi
     have o4:(ba.row e T.size v li xs).ok w:=hm.e i hi
     obtain ⟨A,bO,rfl,_⟩:=IQ o4
     obtain ⟨_,rfl⟩:=FR aN
     refine m3 hw (ayo fr iE iU aC af hy) ag aO aS fun a7 dC=>?_
     have au:li++[]=li:=List.append_nil li
     refine k a7 A bO xs w (bw.refl _ w) (by rw [au];exact dC) ?_
     rw [au]
     have ah:E.set i (ba.row e T.size (.slice A li.length bO) li xs)=E:=by
      obtain ⟨bL,he⟩:=List.getElem?_eq_some_iff.1 hi
      rw [<-he,List.set_getElem_self]
     rw [ah]
     exact hm.more ia
   | some dR=>
     exact IX (cs:=[]) i hm hi fr iE al (Nat.le_of_ble_eq_true ej) aN rfl (Nat.le_of_ble_eq_true kR) ia rfl (fun j u hu=>by simp at hu) hw aC af hy ag aO aS fun a7 A bO w' aj dC ea=>k a7 A bO _ w' aj dC ea
 · obtain ⟨dz,bN,cs,fh,hL⟩:=dt s4
   rw [dz] at hy
   exact IX (cs:=cs) i hm hi fr iE al (Nat.le_of_ble_eq_true ej) aN rfl (Nat.le_of_ble_eq_true kR) ia fh (fun j u hu=>by rw [iK];exact hL j u hu) hw aC af hy ag aO aS fun a7 A bO w' aj dC ea=>k a7 A bO _ w' aj dC ea
theorem avJ {α:Type} {T:c8 α} {t e:TypeId} {x y:Operand} {z:Value} {bytes c:Nat} {v:Value} {li ml l':List α} {xs:List Value} {m9:Option Addr} (i q p:Nat) (hm:bz W aD X w E D) (hi:E[i]? =some (ba.row e T.size v li xs)) (a1:D[q]? =some (bF.rows T xs li)) (aP:D[p]? =some (bF.of (ca T) [.slice m9 ml.length c] ml))
 (fr:P.underlying t=some (.slice e)) (iE:(P.info? e).map (fun i=>(i.zero,i.size,i.bytes))=some (some z,T.size,bytes)) (al:z.cells.size=T.size) (ej:Nat.blt 0 T.size=true)
 (aN:cq bytes li ml=some l') (kR:Nat.blt 0 bytes=true)
 (hw:Region.wanted o (yielded ops a.tmps)=true)
 (aC:o.op= .call { callee:=.builtin .append,args:=#[x,y],argTypes:=#[t,t] }) (af:a.eval x=v) (hy:a.eval y= .slice m9 ml.length c) (ag:Fr n l a) (aO:o.dst=some d) (aS:Nat.blt d n=true)
 (k:∀ a7 A bO eC w',Fr n ((d,.slice A l'.length bO)::l) a7->bz W aD X w' (E.set i (ba.row e T.size (.slice A l'.length bO) l' eC)) (bF.rows T eC l'::D)->wpList P ops Q rest a7 w'):wpList P ops Q (o::rest) a w:=
 avK i q p hm hi a1 aP fr iE al ej aN kR hw aC af hy ag aO aS fun a7 A bO eC w' _=>k a7 A bO eC w'
theorem ug {x:Value} {y:Nat} {code:BoundsCode} {k:IntKind} {i:Int} (af:x= .int k i) (h:0 <=i/\i<=y):(Instr.sliceBound x y code).run P w= .ok i.toNat w:=by
 subst af
 simp [Instr.sliceBound,asIntOf,h]
end
end ay
namespace ay
open Go Go.RowKit I
section
variable {α:Type} {T:c8 α}
theorem Qv {F:Nat->Prop} {w:World} {d':α} {ix:List Value} (h':T.rd F w ix d'):∀ {li:List α} {xs:List Value} {i:Nat},dF T F w xs li->i <li.length->dF T F w (xs.take (i*T.size)++ix++xs.drop (i*T.size+T.size)) (li.set i d')
 | [],_,i,_,hi=>by simp at hi
 | d::r,xs,0,h,_=>by
   obtain ⟨cs,ys,rfl,J,aa⟩:=h
   have au:=T.len J
   refine ⟨ix,ys,?_,h',aa⟩
   simp [<-au]
 | d::r,xs,i+ 1,h,hi=>by
   obtain ⟨cs,ys,rfl,J,aa⟩:=h
   have au:=T.len J
   have bH:=Qv h' aa (i:=i) (by simpa using hi)
   refine ⟨cs,_,?_,J,bH⟩
   have ao:(i+ 1)*T.size=cs.length+i*T.size:=by rw [Nat.add_mul];omega
   rw [ao,List.take_append,List.take_of_length_le (by omega),show cs.length+i*T.size - cs.length=i*T.size by omega,List.drop_append,List.drop_of_length_le (l:=cs) (by omega),
    show cs.length+i*T.size+T.size - cs.length=i*T.size+T.size by omega]
   simp
end
theorem Q0 {β:Type} {L vs:List β} {p N:Nat} (J:p+vs.length<=N) (aa:N<=L.length):(L.take p++vs++L.drop (p+vs.length)).take N=(L.take N).take p++vs++(L.take N).drop (p+vs.length):=by
 have au:(L.take p++vs).length=p+vs.length:=by rw [List.length_append,List.length_take];omega
 rw [List.take_append,List.take_of_length_le (by omega),au,List.take_take,Nat.min_eq_left (by omega),List.drop_take]
section
variable {P:Program} {ops:Array Oper} {Q:Exit->Act->World->Prop} {a:Act} {w:World} {rest:List Oper} {o:Oper} {n:cQ} {d:Nat} {l:List (Nat × Value)}
 {W:World} {aD X:List Nat} {E:List ba} {D:List bF}
theorem Ur {xs cs:List Value} {p:Nat} (h:∀ j u,cs[j]? =some u->xs[p+j]? =some u):(xs.drop p).take cs.length=cs:=by
 apply List.ext_getElem?
 intro j
 rw [List.getElem?_take]
 by_cases aJ:j <cs.length
 · rw [if_pos aJ,List.getElem?_drop,List.getElem?_eq_getElem aJ]
   exact h j _ (List.getElem?_eq_getElem aJ)
 · rw [if_neg aJ,List.getElem?_eq_none (by omega)]
theorem avS {α:Type} {T:c8 α} {t e:TypeId} {x y:Operand} {A:Option Addr} {c kk sz:Nat} {li:List α} {xs cs0 vs:List Value} {z:Int} {d0 d':α} {v:Value} (i q:Nat) (hm:bz W aD X w E D) (hi:E[i]? =some (ba.row e T.size (.slice A li.length c) li xs)) (a1:D[q]? =some (bF.rows T xs li))
 (al:idx li z=some d0) (hcs:T.rd (gS (X++cc E) w) w cs0 d0) (iR:eW w ⟨dO A,f' A+z.toNat*T.size,none⟩ cs0) (hw:Region.wanted o (yielded ops a.tmps)=true)
 (aj:v.cells=vs.toArray) (ar:∀ w,(Go.sizeOf t).run P w= .ok sz w) (au:Nat.beq vs.length sz=true) (J:vs.all (·.oneCell')=true) (hle:Nat.ble (kk+vs.length) cs0.length=true)
 (DH:T.rd (gS (X++cc E) w) w (lay cs0 kk vs) d')
 (aC:o.op= .store t x y) (af:a.eval x= .pointer (some ⟨dO A,f' A+z.toNat*T.size+kk,none⟩)) (hy:a.eval y=v) (aO:o.dst=none)
 (k:∀ eC w',bw (Value.slice A li.length c).ownBlock.toList w w'->bz W aD X w' (E.set i (ba.row e T.size (.slice A li.length c) (li.set z.toNat d') eC)) (bF.rows T eC (li.set z.toNat d')::D)->wpList P ops Q rest a w'):wpList P ops Q (o::rest) a w:=by
 obtain ⟨g5,uM,y5⟩:=jr al
 have hlen:vs.length=sz:=Nat.eq_of_beq_eq_true au
 have Hb:kk+vs.length<=cs0.length:=Nat.le_of_ble_eq_true hle
 have kS:=T.len hcs
 have iU:w.ownsRow 0 e T.size (.slice A li.length c) li.length xs:=hm.e i hi
 have alO:dF T (gS (X++cc E) w) w xs li:=hm.d q a1
 rcases iU.2 with ⟨_,dn⟩ | ⟨g,cap,cur,ao,_,aA,VE,oT,ML,alX⟩
 · omega
 simp only [Value.slice.injEq,true_and] at ao
 obtain ⟨rfl,rfl⟩:=ao
 have akv:dO (some ⟨g,0,none⟩)=g:=rfl
 have alz:f' (some ⟨g,0,none⟩)= 0 :=rfl
 simp only [akv,alz,Nat.zero_add] at af iR
 have hmul:(z.toNat+ 1)*T.size<=li.length*T.size:=Nat.mul_le_mul_right _ uM
 have azB:li.length*T.size<=c*T.size:=Nat.mul_le_mul_right _ VE
 have azD:(z.toNat+ 1)*T.size=z.toNat*T.size+T.size:=by rw [Nat.add_mul,Nat.one_mul]
 have o5:xs.length=li.length*T.size:=iU.1
 have hold:(xs.drop (z.toNat*T.size)).take cs0.length=cs0:=Ur fun j u aJ=>by
  have:=iR j u aJ
  have qB:j <cs0.length:=(List.getElem?_eq_some_iff.1 aJ).1
  rw [World.ownsRow.cellAt iU (z.toNat*T.size+j) (by omega)] at this
  exact this
 have fB:=run_storeCells_at P g (z.toNat*T.size+kk) e vs 0 cur w aA (by omega) (fun u hu=>List.all_eq_true.1 J u hu)
 simp only [Nat.add_zero] at fB
 obtain ⟨p,aP⟩:∃ p,p=z.toNat*T.size+kk:=⟨_,rfl⟩
 rw [<-aP] at fB af
 have azv:cur.toList.length=c*T.size:=by simpa using ML
 obtain ⟨eC,Nv⟩:∃ eC,eC=xs.take p++vs++xs.drop (p+vs.length):=⟨_,rfl⟩
 have alw:eC=xs.take (z.toNat*T.size)++lay cs0 kk vs++xs.drop (z.toNat*T.size+T.size):=by
  rw [Nv,Oa _ _ _ Hb]
  have alU:xs=xs.take (z.toNat*T.size)++(cs0++xs.drop (z.toNat*T.size+T.size)):=by
   conv=>lhs;rw [<-List.take_append_drop (z.toNat*T.size) xs]
   congr 1
   rw [<-List.take_append_drop cs0.length (xs.drop (z.toNat*T.size)),hold,List.drop_drop,kS]
  have Ha:(xs.take (z.toNat*T.size)).length=z.toNat*T.size:=by rw [List.length_take];omega
  conv=>lhs;rw [alU]
  rw [List.take_append,List.take_of_length_le (by rw [Ha];omega),Ha,List.drop_append,List.drop_of_length_le (l:=xs.take (z.toNat*T.size)) (by rw [Ha];omega),Ha,
   show p - z.toNat*T.size=kk by omega,show p+vs.length - z.toNat*T.size=kk+vs.length by omega,List.take_append_of_le_length (by omega),List.drop_append_of_le_length (by omega)]
  simp
 have ama:eC.length=li.length*T.size:=by
  rw [Nv];simp only [List.length_append,List.length_take,List.length_drop];omega
 have o4:(ba.row e T.size (.slice (some ⟨g,0,none⟩) li.length c) (li.set z.toNat d') eC).ok (w.setRow g (cur.toList.take p++vs++cur.toList.drop (p+vs.length)).toArray):=by
  show World.ownsRow _ 0 e T.size _ (li.set z.toNat d').length eC
  rw [List.length_set]
  refine ⟨ama,.inr ⟨g,c,(cur.toList.take p++vs++cur.toList.drop (p+vs.length)).toArray,rfl,Nat.zero_le _,?_,VE,oT,?_,?_⟩⟩
  · simp only [World.setRow,Array.getElem?_modify,if_true,aA]
    rfl
  · simp only [List.size_toArray,List.length_append,List.length_take,List.length_drop];omega
  · rw [List.toList_toArray,Nv,<-alX]
    exact Q0 (by omega) (by omega)
 have Ny:nn P o a w (w.setRow g (cur.toList.take p++vs++cur.toList.drop (p+vs.length)).toArray):=by
  simp only [nn,execOp,aC,af,hy]
  simp only [List.append_assoc,hlen] at fB ⊢
  have gr:=aj
  unfold Value.cells at gr
  simp [go_sem,Instr.storeAt,storeVar,ar,gr,hlen,fB]
 have DA:=hm.abv (T:=T) (xs:=eC) (li:=li.set z.toNat d') (by rw [alw];exact Qv DH alO uM)
 have iC:bw (Value.slice (some ⟨g,0,none⟩) li.length c).ownBlock.toList w (w.setRow g (cur.toList.take p++vs++cur.toList.drop (p+vs.length)).toArray):=⟨rfl,rfl,rfl,by simp [World.setRow],fun b _ aS=>by
  simp only [World.setRow,Array.getElem?_modify]
  rw [if_neg (by simpa [Value.ownBlock,eq_comm] using aS)]⟩
 exact hE hw Ny aO (k eC _ iC (DA.I9 i hi iC o4 (by simp [ba.row,Value.ownBlock]) (fun b ai=>.inl (by simpa [ba.row] using ai))))
theorem avT {α:Type} {T:c8 α} {t e:TypeId} {x y:Operand} {A:Option Addr} {c kk sz:Nat} {li cT:List α} {xs cs0 vs:List Value} {z:Int} {d0 d':α} {v:Value} (i q:Nat) (M9:some (li.set z.toNat d')=some cT) (hm:bz W aD X w E D) (hi:E[i]? =some (ba.row e T.size (.slice A li.length c) li xs)) (a1:D[q]? =some (bF.rows T xs li))
 (al:idx li z=some d0) (hcs:T.rd (gS (X++cc E) w) w cs0 d0) (iR:eW w ⟨dO A,f' A+z.toNat*T.size,none⟩ cs0) (hw:Region.wanted o (yielded ops a.tmps)=true)
 (aj:v.cells=vs.toArray) (ar:∀ w,(Go.sizeOf t).run P w= .ok sz w) (au:Nat.beq vs.length sz=true) (J:vs.all (·.oneCell')=true) (hle:Nat.ble (kk+vs.length) cs0.length=true)
 (DH:T.rd (gS (X++cc E) w) w (lay cs0 kk vs) d')
 (aC:o.op= .store t x y) (af:a.eval x= .pointer (some ⟨dO A,f' A+z.toNat*T.size+kk,none⟩)) (hy:a.eval y=v) (aO:o.dst=none)
 (k:∀ eC w',li.length=cT.length->bw (Value.slice A li.length c).ownBlock.toList w w'->bz W aD X w' (E.set i (ba.row e T.size (.slice A li.length c) cT eC)) (bF.rows T eC cT::D)->wpList P ops Q rest a w'):wpList P ops Q (o::rest) a w:=by
 obtain rfl:=Option.some.inj M9
 exact avS i q hm hi a1 al hcs iR hw aj ar au J hle DH aC af hy aO fun eC w'=>k eC w' (by rw [List.length_set])
theorem avx {A:Option Addr} {m c sz:Nat} {t e:TypeId} {lo hi:Option Value} {i j:Int} (aL:P.underlying t=some (.slice e)) (ar:∀ w,(Go.sizeOf e).run P w= .ok sz w)
 (lF:(lo=none/\i= 0)\/lo=some (.int .i64 i)) (iD:(hi=none/\j=m)\/hi=some (.int .i64 j)) (h:0 <=i/\i<=j/\j<=m) (VA:m<=c) :
 (Instr.slice t (.slice A m c) lo hi none).run P w= .ok (.slice (if c=i.toNat then A else A.map (·.add (i.toNat*sz))) (j.toNat - i.toNat) (c - i.toNat)) w:=by
 have ai:(Instr.sliceBounds true m c lo hi none).run P w= .ok (i.toNat,j.toNat,c) w:=by
  have cg:∀ code,(Instr.sliceBound (.int .i64 j) c code).run P w= .ok j.toNat w:=fun code=>ug rfl (by omega)
  have eH:∀ code,(Instr.sliceBound (.int .i64 i) j.toNat code).run P w= .ok i.toNat w:=fun code=>ug rfl (by omega)
  have h9:j=m-> ∀ code,(Instr.sliceBound (.int .i64 i) m code).run P w= .ok i.toNat w:=fun e code=>ug rfl (by omega)
  rcases lF with ⟨rfl,rfl⟩ | rfl <;> rcases iD with ⟨rfl,aJ⟩ | rfl
  · simp [Instr.sliceBounds,aJ]
  · simp [Instr.sliceBounds,cg]
  · simp [Instr.sliceBounds,h9 aJ,aJ]
  · simp [Instr.sliceBounds,cg,eH]
 simp [Instr.slice,run_underlying aL,ai,ar]
theorem JM {A:Option Addr} {m c sz:Nat} {t e:TypeId} {x:Operand} {lo hi:Option Operand} {i j:Int} (aL:P.underlying t=some (.slice e)) (ar:∀ w,(Go.sizeOf e).run P w= .ok sz w) (aC:o.op= .slice t x lo hi none) (af:a.eval x= .slice A m c)
 (lF:(lo=none/\i= 0)\/ ∃ z,lo=some z/\a.eval z= .int .i64 i) (iD:(hi=none/\j=m)\/ ∃ z,hi=some z/\a.eval z= .int .i64 j) (h:0 <=i/\i<=j/\j<=m) (VA:m<=c) :
 bj P o a w (.slice (if c=i.toNat then A else A.map (·.add (i.toNat*sz))) (j.toNat - i.toNat) (c - i.toNat)) w:=by
 have aN:=avx (P:=P) (w:=w) (A:=A) (m:=m) (c:=c) (lo:=lo.map a.eval) (hi:=hi.map a.eval) aL ar (i:=i) (j:=j)
  (lF.imp (fun h=>⟨by rw [h.1];rfl,h.2⟩) (fun ⟨z,J,aa⟩=>by rw [J,Option.map_some,aa])) (iD.imp (fun h=>⟨by rw [h.1];rfl,h.2⟩) (fun ⟨z,J,aa⟩=>by rw [J,Option.map_some,aa])) h VA
 simp only [bj,execOp,aC,af,Instr.sliceAt,Sem.run_bind,run_underlying aL,Result.andThen_ok,Option.map_none,aN]
 rfl
theorem KF {α:Type} {l r:List α} {i j:Int} (h:cut l i j=some r):(0 <=i/\i<=j/\j<=l.length)/\r=(l.take j.toNat).drop i.toNat:=by
 unfold cut at h
 split at h
 · rename_i aY;exact ⟨aY,by simpa using h.symm⟩
 · cases h
theorem pz {α:Type} {T:c8 α} {F:Nat->Prop} {w:World}:∀ {l:List α} {xs:List Value} (i j:Nat),dF T F w xs l->dF T F w ((xs.take (j*T.size)).drop (i*T.size)) ((l.take j).drop i)
 | [],xs,i,j,h=>by
   have h:xs= []:=h
   subst h
   have e:(([]:List α).take j).drop i= []:=by simp
   rw [e]
   show List.drop _ (List.take _ _)= []
   simp
 | d::r,xs,i,0,h=>by
   have e:((d::r).take 0).drop i= []:=by simp
   rw [e]
   show List.drop _ (List.take _ _)= []
   simp
 | d::r,xs,0,j+ 1,h=>by
   obtain ⟨cs,ys,rfl,J,aa⟩:=h
   have au:=T.len J
   have bH:=pz 0 j aa
   simp only [Nat.zero_mul,List.drop_zero] at bH ⊢
   rw [List.take_succ_cons,show (j+ 1)*T.size=cs.length+j*T.size by rw [Nat.add_mul];omega,List.take_append,List.take_of_length_le (by omega),show cs.length+j*T.size - cs.length=j*T.size by omega]
   exact ⟨cs,_,rfl,J,bH⟩
 | d::r,xs,i+ 1,j+ 1,h=>by
   obtain ⟨cs,ys,rfl,J,aa⟩:=h
   have au:=T.len J
   have bH:=pz i j aa
   rw [List.take_succ_cons,List.drop_succ_cons,show (j+ 1)*T.size=cs.length+j*T.size by rw [Nat.add_mul];omega,List.take_append,List.take_of_length_le (by omega),show cs.length+j*T.size - cs.length=j*T.size by omega,
    show (i+ 1)*T.size=cs.length+i*T.size by rw [Nat.add_mul];omega,List.drop_append,List.drop_of_length_le (l:=cs) (by omega),show cs.length+i*T.size - cs.length=i*T.size by omega,List.nil_append]
   exact bH
end
end ay
namespace ay
open Go Go.RowKit I
section
variable {P:Program} {ops:Array Oper} {Q:Exit->Act->World->Prop} {a:Act} {w:World} {rest:List Oper} {o:Oper} {n:cQ} {d:Nat} {l:List (Nat × Value)}
 {W:World} {aD X:List Nat} {E:List ba} {D:List bF}
theorem Fr.jl (ag:Fr n l a) (t:Nat) {b c:Bool} (au:eb l t=some (.bool b)) (ai:b=c):Fr n ((t,.bool c)::l) a:=
 ⟨ag.size,ag.defers,fun u v h=>by
  simp only [eb] at h
  cases MJ:Nat.beq t u with
  | true=>
    rw [MJ] at h
    simp only [Option.some.injEq] at h
    rw [<-Nat.eq_of_beq_eq_true MJ,<-h,<-ai]
    exact ag.get t _ au
  | false=>rw [MJ] at h;exact ag.get u v h⟩
theorem tY {t:TypeId} {cs:List Value} (hw:Region.wanted o (yielded ops a.tmps)=true) (hy:bj P o a w (.pointer (some ⟨w.heap.size,0,none⟩)) (w.alloc (.cells cs.toArray t))) (ag:Fr n l a) (hm:bz W aD X w E D)
 (aO:o.dst=some d) (aS:Nat.blt d n=true) (k:∀ a7 g w',bw [] w w'->Fr n ((d,.pointer (some ⟨g,0,none⟩))::l) a7->bz W aD X w' (ba.dD g t cs::E) D->wpList P ops Q rest a7 w'):wpList P ops Q (o::rest) a w:=
 m3 hw hy ag aO aS fun a7 dC=>k a7 _ _ (bw.alloc _ _ _) dC (hm.new t cs)
theorem ao6 {t:TypeId} {cs:List Value} {m:Nat} (hw:Region.wanted o (yielded ops a.tmps)=true) (hy:bj P o a w (.slice (some ⟨w.heap.size,0,none⟩) m m) (w.alloc (.cells cs.toArray t))) (ag:Fr n l a) (hm:bz W aD X w E D)
 (aO:o.dst=some d) (aS:Nat.blt d n=true) (k:∀ a7 g w',bw [] w w'->Fr n ((d,.slice (some ⟨g,0,none⟩) m m)::l) a7->bz W aD X w' (ba.dD g t cs::E) D->wpList P ops Q rest a7 w'):wpList P ops Q (o::rest) a w:=
 m3 hw hy ag aO aS fun a7 dC=>k a7 _ _ (bw.alloc _ _ _) dC (hm.new t cs)
theorem ayq {t e:TypeId} {sz:Nat} (hu:P.underlying t=some (.slice e)) (ar:∀ w,(Go.sizeOf e).run P w= .ok sz w) (aC:o.op= .buildSlice t 0 (List.toArray [])) :
 bj P o a w (.slice (some ⟨w.heap.size,0,none⟩) 0 0) (w.alloc (.cells (List.toArray []) e)):=by
 simp only [bj,execOp,aC,Instr.buildSlice,Sem.run_bind,Sem.run_pure,ar,Result.andThen_ok,run_underlying hu]
 simp [Instr.fill,newRow,go_sem]
theorem ads {S:World->Prop} {f p:Nat} {ds:List Nat} {v:Value} (i:Nat) (hi:ops[i]? =some o) (aL:(I5 ops ds i && !Nat.beq p i)=true) (hw:Region.wanted o (yielded ops a.tmps)=true) (hy:∀ w',bj P o a w' v w') (lz:S w)
 (ag:Fr n l a) (aO:o.dst=some d) (aS:Nat.blt d n=true) (k:∀ a7,Fr n ((d,v)::l) a7->eI P ops Q p S f (i::ds) a7 w):eI P ops Q p S (f+ 1) ds a w:=by
 simp only [Bool.and_eq_true,Bool.not_eq_true'] at aL
 obtain ⟨mA,qE⟩:=aL
 have DL:p≠i:=fun e=>by rw [e] at qE;simp at qE
 simp only [I5,Bool.and_eq_true] at mA
 refine ⟨fun _=>lz,?_⟩
 refine acq (v:=v) hi (Region.noSelect_spec mA.1.1) DL (fun c a w h=>h) f _ a w (Region.free_spec hi mA.1.2) (fun _=>lz) (by simpa using mA.2) (.inl ⟨hw,fun w _=>hy w⟩) ?_
 rw [aO]
 exact (k _ (ag.put aS)).2
end
section
variable {P:Program} {o:Oper} {a:Act} {w:World} {xs ys:Array Value}
theorem TQ {d sz:Nat} {f:Go.Field} {l:List Go.Field} {us vs:List Value} {e q:Prop} [Decidable e] [Decidable q] (aS:(f.name != "_")=true) (aA:∀ w,(isAgg f.type).run P w= .ok true w) (ar:∀ w,(Go.sizeOf f.type).run P w= .ok sz w)
 (af:xs.extract f.offset (f.offset+sz)=us.toArray) (hy:ys.extract f.offset (f.offset+sz)=vs.toArray) (a1:(Op.equalIn (d+ 1) f.type (.agg us.toArray) (.agg vs.toArray)).run P w= .ok (decide q) w)
 (h:(Op.eqFields (d+ 1) xs ys l).run P w= .ok (decide e) w):(Op.eqFields (d+ 1) xs ys (f::l)).run P w= .ok (decide (q/\e)) w:=by
 have nH:f.name≠ "_" :=by simpa using aS
 simp only [Op.eqFields,nH,if_true,ne_eq,not_false_iff,part,Sem.run_bind,aA,ar,Result.andThen_ok,af,hy,Sem.run_pure,a1]
 by_cases qD:q
 · simp [qD,h]
 · simp [qD]
theorem TR {d:Nat} {t:TypeId} {cM:Array Go.Field} {q:Prop} [Decidable q] (aL:P.underlying t=some (.struct cM)) (aP:P.stoodInHeld t=false) (h:(Op.eqFields d xs ys cM.toList).run P w= .ok (decide q) w):(Op.equalIn (d+ 1) t (.agg xs) (.agg ys)).run P w= .ok (decide q) w:=by
 have ag:P.fieldsOf t=cM:=by simp [Program.fieldsOf,aL]
 have h':=run_equalIn_struct (P:=P) w d t xs ys (by rw [ag];exact aL) aP
 rw [ag,h] at h'
 exact h'
theorem sP {d:Nat} {f:Go.Field} {l:List Go.Field} {m n:List UInt8} {e:Prop} [Decidable e] (aS:(f.name != "_")=true) (hu:P.underlying f.type=some .string) (aA:∀ w,(isAgg f.type).run P w= .ok false w)
 (af:xs[f.offset]? =some (cv m)) (hy:ys[f.offset]? =some (cv n)) (h:(Op.eqFields (d+ 1) xs ys l).run P w= .ok (decide e) w):(Op.eqFields (d+ 1) xs ys (f::l)).run P w= .ok (decide (m=n/\e)) w:=by
 have nH:f.name≠ "_" :=by simpa using aS
 have heq:(Op.equalIn (d+ 1) f.type (cv m) (cv n)).run P w= .ok (decide (m=n)) w:=by
  simp only [Op.equalIn,Sem.run_bind,run_underlying hu,Result.andThen_ok]
  rw [<-Kp m n]
  rfl
 simp only [Op.eqFields,nH,if_true,ne_eq,not_false_iff,part,Sem.run_bind,aA,Result.andThen_ok,af,hy,Bool.false_eq_true,if_false,Sem.run_pure,heq]
 by_cases qD:m=n
 · subst qD;simp [h]
 · simp [qD]
end
section
variable {P:Program} {ops:Array Oper} {Q:Exit->Act->World->Prop} {a:Act} {w:World} {rest:List Oper} {o:Oper} {n:cQ} {d:Nat} {l:List (Nat × Value)}
 {W:World} {aD X:List Nat} {E:List ba} {D:List bF}
theorem abi {F:Nat->Prop} {w:World}:∀ s:List UInt8,dF I_ F w (s.map fun b=>Value.int .u8 (b.toNat:Int)) s
 | []=>rfl
 | b::r=>⟨[.int .u8 (b.toNat:Int)],_,rfl,rfl,abi r⟩
end
end ay
namespace ay
open Go Go.RowKit I
section
variable {P:Program} {Q:Exit->Act->World->Prop} {a:Act} {w:World}
theorem Kw {c:Operand} {x y:Code} {t:Bool} {ρ:Type} {p q:Option ρ} {r:ρ} (hc:a.eval c= .bool t) (h:cond t p q=some r) (aL:t=true->p=some r->x.wp P Q a w) (ag:t=false->q=some r->y.wp P Q a w):(Code.cond c x y).wp P Q a w:=
 wp_cond_split hc (fun e=>aL e (KB e h)) (fun e=>ag e (KA e h))
end
end ay
namespace ay
open Go Go.RowKit I
section
variable {P:Program} {ops:Array Oper} {Q:Exit->Act->World->Prop} {a:Act} {w w0 w':World} {rest:List Oper} {o:Oper} {n:cQ} {d:Nat} {l:List (Nat × Value)}
 {W:World} {aD X:List Nat} {E:List ba} {D:List bF}
theorem ayM {t:TypeId} {x:Operand} {m:Int} (aC:o.op= .unOp .neg t x) (af:a.eval x= .int .i64 m):bj P o a w (.int .i64 (aX (0 - m))) w:=by
 rw [<-rF]
 simp only [bj,execOp,aC,af]
 simp [go_sem]
theorem bz.Ia (h:bz W aD X w E D) {g:Nat} {t:TypeId} {cs:List Value} {x:ba} (i j:Nat) (hi:E[i]? =some (ba.dD g t cs)) (aJ:E[j]? =some x) (cj:i≠j):g ∉ x.bD:=fun ak=>
 (Lj h.bA i _ hi).2 j x aJ cj g (by simp [ba.dD]) ak
theorem Gs {M:List Nat} {p:Addr} {cs:List Value} (h:bw M w w') (aS:p.block ∉ M) (bL:p.block <w.heap.size) (hc:eW w p cs):eW w' p cs:=hc.law (h.block p.block bL aS)
theorem Eo {t:TypeId} {cs:List Value} {m:Nat} (hw:Region.wanted o (yielded ops a.tmps)=true) (hy:bj P o a w (.slice (some ⟨w.heap.size,0,none⟩) m m) (w.alloc (.cells cs.toArray t))) (ag:Fr n l a) (hm:bz W aD X w E D)
 (aO:o.dst=some d) (aS:Nat.blt d n=true) (k:∀ a7 g w',bw [] w w'->w.heap.size<=g->Fr n ((d,.slice (some ⟨g,0,none⟩) m m)::l) a7->bz W aD X w' (ba.dD g t cs::E) D->wpList P ops Q rest a7 w'):wpList P ops Q (o::rest) a w:=
 m3 hw hy ag aO aS fun a7 dC=>k a7 _ _ (bw.alloc _ _ _) (Nat.le_refl _) dC (hm.new t cs)
end
end ay
namespace ay
open Go Go.RowKit I
def mS:List Oper->Bool
 | []=>true
 | o::r=>(match o.op with
   | .defer _=>false
   | _=>true) && mS r
theorem H_:∀ {l:List Oper},mS l=true-> ∀ o ∈ l,∀ c,o.op≠ .defer c
 | [],_,o,aC,_=>by simp at aC
 | p::r,h,o,aC,c=>by
   simp only [mS,Bool.and_eq_true] at h
   rcases List.mem_cons.1 aC with rfl | e
   · intro aq
     rw [aq] at h
     exact absurd h.1 (by simp)
   · exact H_ h.2 o e c
def h4 (ro:Option Nat):Fence:={ Fence.wide with round:=ro }
theorem Qx {ro:Option Nat} {q:Prop}:(h4 ro).depth.isSome=true->q:=fun h=>by simp [h4,Fence.wide] at h
section
variable {P:Program} {ops:Array Oper} {Q:Exit->Act->World->Prop} {K:Act->World->Prop} {a:Act} {w:World} {o:Oper} {ro:Option Nat} {n:Nat}
theorem O3 (aO:∀ c,o.op≠ .defer c) (h:o.wp P a w K Q):o.wpIn (h4 ro) n P a w K Q:=by
 unfold Oper.wpIn
 refine ⟨fun _ _=>trivial,?_⟩
 rw [Oper.semAt_eq _ _ _ aO]
 unfold Oper.wp at h
 generalize (execOp a.eval o).run P w=r at *
 cases r with
 | ok x w'=>
   cases x <;> simp only [Oper.upon,Oper.uponIn] at h ⊢ <;> first
    | exact h
    | exact ⟨Qx,(callsIn_wide (n:=n - 1)).2 h⟩
    | exact ⟨Qx,fun c cs _=>let ⟨v,w',r,s⟩:=h c cs;⟨v,w',r,stepsIn_wide.2 s⟩⟩
 | halt x w'=>cases x <;> simp only [Oper.upon,Oper.uponIn] at h ⊢ <;> exact h
theorem HF (ei:∀ a w,¬ Q .outgrown a w):∀ {os:List Oper} {a:Act} {w:World},mS os=true->wpList P ops Q os a w->wpListIn (h4 ro) n P ops Q os a w
 | [],_,_,_,h=>h
 | o::r,a,w,aO,h=>by
   have nF:=aO
   simp only [mS,Bool.and_eq_true] at nF
   simp only [wpList] at h
   simp only [wpListIn]
   split
   · rename_i hw
     rw [if_pos hw] at h
     rcases h with h | ⟨_,a7,w',h⟩
     · exact O3 (H_ aO o (by simp)) (Oper.wp_mono (fun a w h=>HF ei nF.2 h) h)
     · exact absurd h (ei _ _)
   · rename_i hw
     rw [if_neg hw] at h
     exact ⟨fun _ _=>trivial,HF ei nF.2 h⟩
theorem an4 (k:Nat) {lo:List Oper} (aO:mS (lo.take k)=true) (h:wpList P ops (Exit.then (wpListIn (h4 ro) n P ops Q (lo.drop k)) (fun _ _ _=>False)) (lo.take k) a w):wpListIn (h4 ro) n P ops Q lo a w:=by
 have key:∀ (os rest:List Oper) (a:Act) (w:World),mS os=true->wpList P ops (Exit.then (wpListIn (h4 ro) n P ops Q rest) (fun _ _ _=>False)) os a w->wpListIn (h4 ro) n P ops Q (os++rest) a w:=by
  intro os
  induction os with
  | nil=>intro rest a w _ h;exact h
  | cons o r bH=>
    intro rest a w aO h
    have nF:=aO
    simp only [mS,Bool.and_eq_true] at nF
    simp only [wpList] at h
    simp only [List.cons_append,wpListIn]
    split
    · rename_i hw
      rw [if_pos hw] at h
      rcases h with h | ⟨_,a7,w',h⟩
      · have J:=O3 (ro:=ro) (n:=n) (H_ aO o (by simp)) (Oper.wp_mono (fun a w h=>bH rest a w nF.2 h) h)
        refine ⟨J.1,?_⟩
        have aa:=J.2
        revert aa
        generalize (o.semAt (h4 ro).round a.eval).run P w=hV
        intro aa
        cases hV with
        | ok x w'=>
          cases x <;> simp only [Oper.uponIn] at aa ⊢ <;> first
           | exact aa
           | exact ⟨aa.1,CallsIn.mono aa.2 (fun e w'' he=>by cases e <;> first | exact he | exact absurd he (by simp [Exit.then,LetsOut]))⟩
           | exact ⟨aa.1,RoundIn.mono aa.2 (fun e w'' he=>by cases e <;> first | exact he | exact absurd he (by simp [Exit.then,LetsOut]))⟩
        | halt x w'=>cases x <;> simp only [Oper.uponIn] at aa ⊢ <;> first | exact aa | exact absurd aa (by simp [Exit.then])
      · exact absurd h (by simp [Exit.then])
    · rename_i hw
      rw [if_neg hw] at h
      exact ⟨fun _ _=>trivial,bH rest _ _ nF.2 h⟩
 have:=key (lo.take k) (lo.drop k) a w aO h
 rwa [List.take_append_drop] at this
theorem asB (ei:∀ a w,¬ Q .outgrown a w) (aO:mS ops.toList=true) {i:Nat} (h:wpOp P ops Q i K a w):wpOpIn (h4 ro) n P ops Q i K a w:=by
 unfold wpOp at h
 unfold wpOpIn
 split
 · rename_i aY
   rw [aY] at h
   exact h
 · rename_i o aC
   rw [aC] at h
   have hm:o ∈ ops.toList:=by
    have:=List.mem_of_getElem? (l:=ops.toList) (i:=i) (a:=o) (by rw [Array.getElem?_toList];exact aC)
    exact this
   simp only at h
   split
   · rename_i hw
     rw [if_pos hw] at h
     rcases h with h | ⟨_,a7,w',h⟩
     · exact O3 (H_ aO o hm) h
     · exact absurd h (ei _ _)
   · rename_i hw
     rw [if_neg hw] at h
     exact ⟨fun _ _=>trivial,h⟩
theorem Sb (ei:∀ a w,¬ Q .outgrown a w) (aO:mS ops.toList=true):∀ {f:Nat} {ls:Array Bool} {a:Act} {w:World},wpAny P .any ops Q f ls a w->wpAnyIn (h4 ro) n P .any ops Q f ls a w
 | 0,_,_,_,h=>h
 | f+ 1,ls,a,w,h=>⟨h.1,fun i hi=>asB ei aO (wpOp_mono (fun a w h=>Sb ei aO h) (h.2 i hi))⟩
end
def fp (ro:Option Nat) (n:Nat) (P:Program) (c:Code) (Q:Exit->Act->World->Prop) (a:Act) (w:World):Prop:=(∀ a w,¬ Q .outgrown a w)->c.wpIn (h4 ro) n P Q a w
section
variable {P:Program} {Q:Exit->Act->World->Prop} {a:Act} {w:World} {ro:Option Nat} {n:Nat}
theorem Jr (h:Q .normal a w):fp ro n P .skip Q a w:=fun _=>wpIn_skip h
theorem Rn {id:Nat} (h:Q (.exit id) a w):fp ro n P (.exit id) Q a w:=fun _=>wpIn_exit h
theorem kn {x y:Code} (h:∀ K:Act->World->Prop,(∀ a w,fp ro n P y Q a w->K a w)->fp ro n P x (Exit.then K Q) a w):fp ro n P (.seq x y) Q a w:=
 fun ei=>wpIn_seq (h _ (fun _ _ h=>h ei) ei)
theorem Rm {c:Operand} {x y:Code} {t:Bool} (hc:a.eval c= .bool t) (aL:t=true->fp ro n P x Q a w) (ag:t=false->fp ro n P y Q a w):fp ro n P (.cond c x y) Q a w:=
 fun ei=>wpIn_cond_split hc (fun e=>aL e ei) (fun e=>ag e ei)
theorem awB {c:Operand} {x y:Code} {b:Bool} (hc:a.eval c= .bool b) (ai:b=false) (h:fp ro n P y Q a w):fp ro n P (.cond c x y) Q a w:=fun ei=>wpIn_cond_false (by rw [hc,ai]) (h ei)
theorem Rk {id:Nat} {c:Code} (h:fp ro n P c (Exit.inBlock id Q) a w):fp ro n P (.block id c) Q a w:=fun ei=>wpIn_block (h ei)
theorem Rl {id:Nat} {c:Code} (ll:Act->World->Prop) (af:∀ K:Act->World->Prop,(∀ a w,ll a w->K a w)->fp ro n P c (Exit.inBlock id (Exit.then K Q)) a w) (hy:∀ a w,ll a w->Q .normal a w):fp ro n P (.block id c) Q a w:=by
 intro ei
 refine wpIn_block (wpIn_mono (af _ hy ei) ?_)
 intro e a w h
 cases e with
 | exit i=>
   by_cases hi:i=id
   · simpa [Exit.inBlock,Exit.then,hi] using h
   · simpa [Exit.inBlock,Exit.then,hi] using h
 | _=>exact h
theorem acx {c:Code} (lk:Nat->Act->World->Prop) (k:Nat) (h:lk k a w) (aY:∀ a w,¬ lk 0 a w)
 (round:∀ k a w,lk (k+ 1) a w-> ∀ K:Act->World->Prop,(∀ a w,lk k a w->K a w)->fp ro n P c (Exit.then K Q) a w):fp ro n P (.loop c) Q a w:=by
 intro ei
 refine wpIn_loop (fun a w=>∃ n,lk n a w) (fun a w=>leastOf (fun n=>lk n a w)) ⟨k,h⟩ ?_
 intro a w sW
 have J:=(leastOf_spec sW).1
 cases ak:leastOf (fun n=>lk n a w) with
 | zero=>rw [ak] at J;exact absurd J (aY a w)
 | succ m=>
   rw [ak] at J
   exact round m a w J _ (fun a7 w' h'=>⟨⟨m,h'⟩,Nat.lt_succ_of_le ((leastOf_spec ⟨m,h'⟩).2 m h')⟩) ei
theorem l2 {id:Nat} {l:List Oper} (aO:mS l=true) (h:wpList P l.toArray Q l a w):fp ro n P (.region id l.toArray false) Q a w:=fun ei=>wpIn_region_lit (HF ei aO h)
theorem acw {id m:Nat} {lo:List Oper} (p:Nat) (S:World->World->Prop) (hm:P.follows .mixedOrders=true) (au:Nat.beq lo.length m=true) (aO:mS lo=true) (h:∀ w',bw [] w w'->eI P lo.toArray Q p (S w') m [] a w'):fp ro n P (.region id lo.toArray true) Q a w:=by
 have au:=Nat.eq_of_beq_eq_true au
 subst au
 intro ei
 exact wpIn_mono (Q:=NoPanic Q) (wpIn_region_any hm (Sb (Q:=NoPanic Q) (fun a w=>ei a w) aO (h _ (bw.drew [] w)).wpAny)) NoPanic.imp
theorem awC {id:Nat} {l:List Oper} (h:(∀ a w,¬ Q .outgrown a w)->wpListIn (h4 ro) n P l.toArray Q l a w):fp ro n P (.region id l.toArray false) Q a w:=fun ei=>wpIn_region_lit (h ei)
end
def ba.obj (g:Nat) (o:Obj):ba where
 bD:=[g]
 ok w:=w.heap[g]? =some o
 law w w' h ak:=(h g (by simp)).trans ak
section
variable {W w:World} {aD X:List Nat} {E:List ba} {D:List bF}
theorem ajq (w:World) (g:Nat) (o:Obj):bw [g] w (w.putObj g o):=
 ⟨rfl,rfl,rfl,by simp,fun k _ aS=>World.putObj_heap_other (by simpa using aS)⟩
theorem bz.putObj {g:Nat} {o:Obj} (hm:bz W aD X w E D) (i:Nat) (hi:E[i]? =some (ba.obj g o)) (er:Obj):bz W aD X (w.putObj g er) (E.set i (ba.obj g er)) D:=
 hm.I9 i hi (ajq w g er) (by
   have h:w.heap[g]? =some o:=hm.e i hi
   exact World.putObj_heap_same (Array.getElem?_eq_some_iff.1 h).1) (by simp [ba.obj]) (fun k ak=>.inl ak)
theorem bz.newObj (hm:bz W aD X w E D) (o:Obj):bz W aD X (w.alloc o) (ba.obj w.heap.size o::E) D:=
 hm.push _ (bw.alloc _ _ _) (World.alloc_heap_new w o) (fun k ak=>by simp [ba.obj] at ak;subst ak;exact ⟨Nat.le_refl _,by simp⟩) (by simp [ba.obj])
end
def mark (r:Nat):Deferred:={ target:=.collected r,args:=#[] }
theorem TK {P:Program} {f:FuncId} {fn:Func} {c:Code} {vs:List Value} {w:World} {R:Ending->World->Prop} {n:Nat}
 (ag:P.funcs[f]? =some fn) (ai:fn.body=some c) (aS:fn.ntmps=n) (au:Nat.ble vs.length n=true)
 (h:∀ a,Fr ⟨n,[]⟩ (oJ 0 vs) a->c.wp P (bodyPostM Fence.wide 0 P fn R) a w):Calls P f vs.toArray w R:=by
 refine (callsIn_wide (n:=0)).1 (callsIn_of_wp_marks ag ai trivial (wpIn_wide.2 ?_))
 rw [aS]
 exact h _ (Fr.init vs n au)
section
variable {P:Program} {a:Act} {w:World} {W:World} {aD X:List Nat} {E:List ba} {D:List bF} {fn:Func} {R:Ending->World->Prop} {l:List (Nat × Value)} {n g t u:Nat} {v eT:Value}
theorem ZY (i:Nat) (ag:Fr ⟨n,[mark g]⟩ l a) (hm:bz W aD X w E D) (hi:E[i]? =some (ba.obj g (.deferred (some [])))) (h:∀ w',bz W aD X w' (E.set i (ba.obj g (.deferred none))) D-> ∃ v,(results fn a.tmps).run P w'= .ok v w'/\R (.returned v) w') :
 bodyPostM Fence.wide 0 P fn R .ret a w:=by
 show LeavesInM Fence.wide 0 P fn a.tmps R a.defers .returning w
 rw [ag.defers]
 exact ⟨by simp,.inl ⟨g,_,rfl,run_takeDeferred (hm.e i hi),h _ (hm.putObj i hi _)⟩⟩
theorem aoc (i:Nat) (aN:fn.results= #[.tmp t]) (ag:Fr ⟨n,[mark g]⟩ l a) (hm:bz W aD X w E D) (hi:E[i]? =some (ba.obj g (.deferred (some [])))) (au:eb l t=some v)
 (h:∀ w',bz W aD X w' (E.set i (ba.obj g (.deferred none))) D->R (.returned v) w'):bodyPostM Fence.wide 0 P fn R .ret a w:=
 ZY i ag hm hi fun w' ea=>⟨_,results_tmp aN _ _ _,by rw [ag.get _ _ au];exact h w' ea⟩
theorem aod (i:Nat) (aN:fn.results= #[.tmp t,.tmp u]) (ag:Fr ⟨n,[mark g]⟩ l a) (hm:bz W aD X w E D) (hi:E[i]? =some (ba.obj g (.deferred (some [])))) (au:eb l t=some v) (lE:eb l u=some eT)
 (h:∀ w',bz W aD X w' (E.set i (ba.obj g (.deferred none))) D->R (.returned (.tuple #[v,eT])) w'):bodyPostM Fence.wide 0 P fn R .ret a w:=
 ZY i ag hm hi fun w' ea=>⟨_,results_tmp2 aN _ _ _,by rw [ag.get _ _ au,ag.get _ _ lE];exact h w' ea⟩
end
theorem aiL {P:Program} {f:FuncId} {fn:Func} {c:Code} {vs:List Value} {w:World} {R:Ending->World->Prop} {n:Nat}
 (ag:P.funcs[f]? =some fn) (ai:fn.body=some c) (aS:fn.ntmps=n) (au:Nat.ble vs.length n=true) (eR:∀ w,¬ R .outgrown w)
 (h:∀ a,Fr ⟨n,[]⟩ (oJ 0 vs) a->fp none 1 P c (bodyPost P fn R) a w):CallsIn (h4 none) 1 P f vs.toArray w R:=by
 refine callsIn_of_wp ag ai trivial ?_
 rw [aS]
 exact h _ (Fr.init vs n au) (fun a w h=>eR w h)
theorem adx {P:Program} {fn:Func} {R:Ending->World->Prop} {a:Act} {w:World} (h:bodyPost P fn R .ret a w):bodyPost P fn R .normal a w:=h
theorem ach {n:Nat} (h:n<=maxLen):I.aX ((n:Int) - 1)=(n:Int) - 1 :=by
 unfold I.aX
 simp only [maxLen] at h
 omega
theorem amg {hQ pre rem:List Int} {x:Int} (h:hQ=(x::rem).reverse++pre):I.idx hQ (rem.length:Int)=some x:=by
 subst h
 unfold I.idx
 rw [if_pos (by omega)]
 simp
def R1 (P:Program) (f:FuncId):Prop:=∀ (ll:List Int->World->Prop) (hQ:List Int) (A:Option Addr) (c eQ L:Nat) (w0:World),
 (∀ rem w,ll rem w-> ∃ W aD X E,bz W aD X w E [bF.hs eQ [.slice A hQ.length c],bF.of (ca (eF .i64)) [.slice A hQ.length c] hQ]) ->
 (∀ x rem w,ll (x::rem) w->YieldAt (h4 none) 0 P L #[.int .i64 (rem.length:Int),.int .i64 x] w (fun e w'=>e= .returned (.bool true)/\ll rem w')) ->
 ll hQ.reverse w0->CallsIn (h4 none) 1 P f #[.func (.yield L) #[] #[],.pointer (some ⟨eQ,0,none⟩)] w0 (fun e w'=>(∃ v,e= .returned v)/\ll [] w')
section
variable {P:Program} {ops:Array Oper} {Q:Exit->Act->World->Prop} {a:Act} {w:World} {rest:List Oper} {o:Oper} {n:cQ} {d L:Nat} {l:List (Nat × Value)}
theorem avC {sT:Operand} {xs:List Operand} {kA:Array TypeId} {vs:List Value} (aC:o.op= .call { callee:=.value sT,args:=xs.toArray,argTypes:=kA }) (MS:a.eval sT= .func (.yield L) #[] #[]) (ia:xQ a xs vs) :
 (execOp a.eval o).run P w=(Instr.yield L vs.toArray).run P w:=by
 have J:=Li ia
 simp only [execOp,aC,resolve,List.map_toArray,J,MS]
 simp [Deferred.ofValue,invoke]
theorem ayU {sT:Operand} {xs:List Operand} {kA:Array TypeId} {vs:List Value} {R:Ending->World->Prop} (hw:Region.wanted o (yielded ops a.tmps)=true) (aC:o.op= .call { callee:=.value sT,args:=xs.toArray,argTypes:=kA })
 (MS:a.eval sT= .func (.yield L) #[] #[]) (ia:xQ a xs vs) (hy:YieldAt (h4 none) 0 P L vs.toArray w R) (ag:Fr n l a) (aO:o.dst=some d) (aS:Nat.blt d n=true)
 (k:∀ e w',R e w'-> ∃ v,e= .returned v/\ ∀ a7,Fr n ((d,v)::l) a7->wpListIn (h4 none) 1 P ops Q rest a7 w'):wpListIn (h4 none) 1 P ops Q (o::rest) a w:=by
 refine wpListIn_step fun K cV=>?_
 rw [if_pos hw]
 refine ⟨fun _ _=>trivial,?_⟩
 obtain ⟨fn,tmps,assign,body,J,aa⟩:=hy
 rw [Oper.semAt_eq _ _ _ (by rw [aC];simp),avC aC MS ia,J]
 refine ⟨Qx,RoundIn.mono aa ?_⟩
 intro e w' aN
 obtain ⟨v,rfl,ak⟩:=k e w' aN
 rw [aO]
 exact cV _ _ (ak _ (ag.put aS))
end
section
variable {P:Program} {Q:Exit->Act->World->Prop} {a:Act} {w:World} {W:World} {aD X:List Nat} {E:List ba} {D:List bF}
theorem SD {β:Type} {yc abU gw dX n eQ c:Nat} {A:Option Addr} {l:List (Nat × Value)} {l1:Int->Int->List (Nat × Value)} {assign body:Code} (xd:β->List ba) (rX:β->List bF) (rel:List Int->β->Prop) (hQ:List Int) (b0:β) (bx b6:Nat)
 (alb:R1 P yc) (TG:∀ args w,(callFunc yc args).run P w= .ok (.enter yc args) w)
 (ag:Fr ⟨n,[]⟩ l a) (aA:eb l abU=some (.func (.func yc) #[] #[.pointer (some ⟨eQ,0,none⟩)])) (Nk:Nat.blt gw n=true) (alB:Nat.blt dX n=true)
 (hm:bz W aD X w (xd b0) (rX b0)) (aY:rel hQ.reverse b0)
 (x6:∀ b,(rX b)[bx]? =some (bF.hs eQ [.slice A hQ.length c])) (s6:∀ b,(rX b)[b6]? =some (bF.of (ca (eF .i64)) [.slice A hQ.length c] hQ))
 (a3:∀ L i x w a7 (K:Act->World->Prop),Fr ⟨n,[]⟩ ((dX,.int .i64 x)::(gw,.int .i64 i)::l) a7->(∀ u7,Fr ⟨n,[]⟩ (l1 i x) u7->K u7 w)->fp (some L) 0 P assign (Exit.then K (fun _ _ _=>False)) a7 w)
 (ai:∀ L g hf bN du b i x rem w a7 (K:Exit->Act->World->Prop),rel (x::rem) b->Fr ⟨n,[]⟩ (l1 i x) a7->bz W aD X w (ba.obj g hf::ba.obj bN du::xd b) (rX b) ->
  (∀ h8 u7 w',rel rem h8->bz W aD X w' (ba.obj g hf::ba.obj bN du::xd h8) (rX h8)->K .normal u7 w')->fp (some L) 0 P body K a7 w)
 (akO:∀ g b a7 w',rel [] b->Fr ⟨n,[mark g]⟩ l a7->bz W aD X w' (ba.obj g (.deferred (some []))::xd b) (rX b)->Q .normal a7 w') :
 (Code.rangeFunc (.tmp abU) #[gw,dX] assign body).wp P Q a w:=by
 refine (wpIn_wide (n:=2)).1 (wpIn_rangeFunc fun fn _=>?_)
 obtain ⟨rec,s8⟩:∃ rec:LoopState->Loop,rec=fun avW=>{ state:=avW,pending:=none,fn,tmps:=a.tmps,params:=#[gw,dX],assign,body,defers:=w.heap.size }:=⟨_,rfl⟩
 obtain ⟨u6,Va⟩:∃ u6,(w.alloc (.deferred (some []))).alloc (.loop (rec .ready))=u6:=⟨_,rfl⟩
 have alq:bz W aD X u6 (ba.obj (w.heap.size+ 1) (.loop (rec .ready))::ba.obj w.heap.size (.deferred (some []))::xd b0) (rX b0):=by
  have:=(hm.newObj (.deferred (some []))).newObj (.loop (rec .ready))
  rw [Va] at this
  simpa using this
 refine ⟨w.heap.size+ 1,[mark w.heap.size],u6,{ target:=.fn (.func yc) #[.pointer (some ⟨eQ,0,none⟩)],args:=#[.func (.yield (w.heap.size+ 1)) #[] #[]] },u6,yc,
  #[.func (.yield (w.heap.size+ 1)) #[] #[],.pointer (some ⟨eQ,0,none⟩)],u6,?_,?_,fun _ _=>trivial,?_,fun _=>by decide,?_⟩
 · rw [<-Va,s8];exact run_enterLoop_outer _ _ _ _ _
 · have Dn:=ag.g aA
   simp only [resolve,Dn]
   simp [go_sem]
 · simp [invoke,go_sem,TG]
 · refine CallsIn.mono (alb (fun rem w'=>∃ b,rel rem b/\bz W aD X w' (ba.obj (w.heap.size+ 1) (.loop (rec .ready))::ba.obj w.heap.size (.deferred (some []))::xd b) (rX b)) hQ A c eQ (w.heap.size+ 1) u6 ?_ ?_ ⟨b0,aY,alq⟩) ?_
   · rintro rem w' ⟨b,_,ea⟩
     exact ⟨_,_,_,_,ea.less fun y hy=>by
      simp only [List.mem_cons,List.not_mem_nil,or_false] at hy
      rcases hy with rfl | rfl
      · exact List.mem_of_getElem? (x6 b)
      · exact List.mem_of_getElem? (s6 b)⟩
   · rintro x rem w' ⟨b,aN,ea⟩
     have au:w'.heap[w.heap.size+ 1]? =some (.loop (rec .ready)):=ea.e 0 rfl
     have hy:=run_yield (P:=P) (args:=#[.int .i64 (rem.length:Int),.int .i64 x]) au (by rw [s8];rfl)
     rw [s8] at hy
     refine ⟨fn,_,assign,body,hy,roundIn_of_wpIn trivial ?_⟩
     have akV:Fr ⟨n,[]⟩ ((dX,.int .i64 x)::(gw,.int .i64 (rem.length:Int))::l) ⟨((#[gw,dX]:Array Tmp).zip #[Value.int .i64 (rem.length:Int),.int .i64 x]).foldl (fun tmps (x:Tmp × Value)=>tmps.setIfInBounds x.1 x.2) a.tmps,[]⟩:=by
      have J:=(ag.put (v:=.int .i64 (rem.length:Int)) Nk).put (v:=.int .i64 x) alB
      have e:((#[gw,dX]:Array Tmp).zip #[Value.int .i64 (rem.length:Int),.int .i64 x]).foldl (fun tmps (x:Tmp × Value)=>tmps.setIfInBounds x.1 x.2) a.tmps=((a.put (some gw) (.int .i64 (rem.length:Int))).put (some dX) (.int .i64 x)).tmps:=by simp [Act.put]
      refine ⟨?_,rfl,?_⟩
      · simp only [e];exact J.size
      · simp only [e];exact J.get
     refine a3 (w.heap.size+ 1) _ _ w' _ _ akV ?_ (fun a w h=>h)
     intro u7 akU
     have DA:=ea.putObj 0 rfl (.loop { rec .ready with state:=.busy })
     refine ⟨_,run_beginRound au (by rw [s8]),?_⟩
     refine ai (w.heap.size+ 1) _ _ _ _ b _ x rem _ u7 _ aN akU DA ?_ (fun a w h=>h)
     intro h8 dW kl jq DB
     have M_:kl.heap[w.heap.size+ 1]? =some (.loop { rec .ready with state:=.busy }):=DB.e 0 rfl
     refine ⟨_,_,run_endRound none M_,rfl,h8,jq,?_⟩
     have DC:=DB.putObj 0 rfl (.loop (rec .ready))
     rw [s8] at DC ⊢
     exact DC
   · rintro e kl ⟨⟨v,rfl⟩,b,aN,DB⟩
     have M_:kl.heap[w.heap.size+ 1]? =some (.loop (rec .ready)):=DB.e 0 rfl
     have he:=run_endLoop (P:=P) M_ (by rw [s8];simp)
     rw [s8] at he
     refine ⟨none,_,he,?_⟩
     have DC:=DB.putObj 0 rfl (.loop { rec .ready with state:=.exhausted })
     rw [s8] at DC
     refine akO w.heap.size b _ _ aN ⟨ag.size,?_,ag.get⟩ (DC.drop (List.sublist_cons_self _ _))
     show [mark w.heap.size]++a.defers= [mark w.heap.size]
     rw [ag.defers];rfl
end
end ay
namespace ay
open Go Go.RowKit I
def bF.awa:bF:=⟨fun _ _=>True,fun _ _ _ _ _ _ _=>trivial⟩
def bF.aay {α:Type} (o:Option α) (f:α->bF):bF:=match o with
 | none=>bF.awa
 | some x=>f x
section
variable {P:Program} {ops:Array Oper} {Q:Exit->Act->World->Prop} {a:Act} {w:World} {rest:List Oper} {o:Oper} {n:cQ} {d:Nat} {l:List (Nat × Value)}
 {W:World} {aD X:List Nat} {E:List ba} {D:List bF}
theorem bz.none (h:bz W aD X w E D) {α:Type} (f:α->bF):bz W aD X w E (bF.aay (Option.none:Option α) f::D):=h.more (y:=bF.aay (Option.none:Option α) f) trivial
theorem ayu {t e:TypeId} {sz:Nat} {x:Operand} {lo hi:Option Operand} (aL:P.underlying t=some (.slice e)) (ar:∀ w,(Go.sizeOf e).run P w= .ok sz w) (aC:o.op= .slice t x lo hi none) (af:a.eval x= .slice none 0 0)
 (lF:(lo=none/\(0 :Int)= 0)\/ ∃ z,lo=some z/\a.eval z= .int .i64 0) (iD:(hi=none/\(0 :Int)=(0 :Nat))\/ ∃ z,hi=some z/\a.eval z= .int .i64 0):bj P o a w (.slice none 0 0) w:=by
 have h:=JM (P:=P) (w:=w) aL ar aC af lF iD (i:=0) (j:=0) ⟨Int.le_refl _,Int.le_refl _,by omega⟩ (Nat.le_refl 0)
 simpa using h
theorem ayt {t e:TypeId} {A:Option Addr} {m c:Nat} {x:Operand} (aL:P.underlying t=some (.slice e)) (aC:o.op= .call { callee:=.builtin .cap,args:=#[x],argTypes:=#[t] }) (af:a.eval x= .slice A m c):bj P o a w (.int .i64 c) w:=by
 simp [bj,execOp,aC,resolve,invoke,builtin,Builtin.cap_,af,run_underlying aL,goInt]
theorem ayR {t t':TypeId} {x y:Operand} {k:IntKind} {m:Int} {n:Nat} (aS:Nat.ble n 64 =true) (aC:o.op= .binOp .shr t x y t') (af:a.eval x= .int .u64 m) (hy:a.eval y= .int k (n:Int)):bj P o a w (.int .u64 (ru m n)) w:=by
 have hle:=Nat.le_of_ble_eq_true aS
 unfold ru
 simp only [bj,execOp,aC,af,hy]
 simp [go_sem,hle]
end
end ay
namespace ay
open Go Go.RowKit I
section
variable {P:Program} {W w w':World} {aD X:List Nat} {E:List ba} {D:List bF} {n:cQ} {l:List (Nat × Value)} {a:Act} {o:Oper} {ops:Array Oper} {rest:List Oper} {Q:Exit->Act->World->Prop} {d:Nat}
theorem avy {A:Option Addr} {m c sz:Nat} {t e:TypeId} {j:Int} (aL:P.underlying t=some (.slice e)) (ar:∀ w,(Go.sizeOf e).run P w= .ok sz w) (h:0 <=j/\j<=c) :
 (Instr.slice t (.slice A m c) none (some (.int .i64 j)) (some (.int .i64 j))).run P w= .ok (.slice (if j.toNat= 0 then A else A.map (·.add (0 *sz))) j.toNat j.toNat) w:=by
 have cg:∀ code,(Instr.sliceBound (.int .i64 j) c code).run P w= .ok j.toNat w:=fun code=>ug rfl (by omega)
 have eH:∀ code,(Instr.sliceBound (.int .i64 j) j.toNat code).run P w= .ok j.toNat w:=fun code=>ug rfl (by omega)
 have ai:(Instr.sliceBounds true m c none (some (.int .i64 j)) (some (.int .i64 j))).run P w= .ok (0,j.toNat,j.toNat) w:=by
  simp [Instr.sliceBounds,cg,eH]
 simp [Instr.slice,run_underlying aL,ai,ar]
end
end ay
namespace Go.Value
abbrev q {α:Type} (A:Option Addr) (c:Nat) (l:List α):Value:=.slice A l.length c
end Go.Value
namespace ay
open Go Go.RowKit I
abbrev iv:=Option Addr
abbrev ou:=List Value
abbrev Cv:=List Int
theorem wn {ops:Array Oper} {a:Act} {o:Oper} (aA:o.guard=none:=by rfl):Region.wanted o (yielded ops a.tmps)=true:=Jn aA
section
variable {W w:World} {aD X:List Nat} {E jf:List ba} {D fo:List bF} {n:cQ} {l l' new bd fg:List (Nat × Value)} {a:Act}
theorem Fr.cut (ag:Fr n l a) (h:xH l (l'.map (·.1))=some l':=by kernel_rfl):Fr n l' a:=ag.sub (KE h)
def yI (D:List bF):List Nat->Option (List bF)
 | []=>some []
 | i::r=>match nth D i,yI D r with
   | some y,some ys=>some (y::ys)
   | _,_=>none
theorem abE:∀ {is:List Nat} {fo:List bF},yI D is=some fo->Ik D fo
 | [],fo,h=>by simp only [yI,Option.some.injEq] at h;subst h;trivial
 | i::r,fo,h=>by
   simp only [yI] at h
   split at h
   · rename_i y ys J aa
     simp only [Option.some.injEq] at h
     subst h
     exact ⟨⟨i,by rw [<-c3];exact J⟩,abE aa⟩
   · cases h
theorem bz.hj (h:bz W aD X w E D) (is:List Nat) (e:yI D is=some fo:=by kernel_rfl):bz W aD X w E fo:=h.pick (abE e)
theorem bz.pC (h:bz W aD X w E D) (NR is:List Nat) (ao:Ek NR=true:=by kernel_rfl) (aq:yJ E NR=some jf:=by kernel_rfl) (e:yI D is=some fo:=by kernel_rfl):bz W aD X w jf fo:=(h.sel NR ao aq).hj is e
theorem c7 {α:Type} {a b:α} (h:some a=some b):a=b:=Option.some.inj h
theorem os {α:Type} {a b:α} (h:some a=some b):b=a:=(Option.some.inj h).symm
def mi:List (Nat × Value)->List (Nat × Value)->List (Nat × Value)
 | [],r=>r
 | x::l,r=>x::mi l r
def qq:List (Nat × Value)->Nat->Bool
 | [],_=>false
 | p::r,j=>Nat.beq p.1 j || qq r j
def Ex:List (Nat × Value)->List (Nat × Value)->List (Nat × Value)
 | _,[]=>[]
 | new,p::r=>match qq new p.1 with
   | true=>Ex new r
   | false=>p::Ex (p::new) r
def kG (new bd:List (Nat × Value)):List (Nat × Value):=mi new (Ex new bd)
theorem ZU {t:Nat} {r:List (Nat × Value)}:∀ {l:List (Nat × Value)},eb (mi l r) t=cond (qq l t) (eb l t) (eb r t)
 | []=>by simp [mi,qq]
 | p::l=>by
   simp only [mi,eb,qq]
   cases Nat.beq p.1 t with
   | true=>simp
   | false=>simp only [Bool.false_or];exact ZU
theorem Oi {t:Nat}:∀ {r new:List (Nat × Value)},qq new t=false->eb (Ex new r) t=eb r t
 | [],_,_=>rfl
 | p::r,new,h=>by
   simp only [Ex,eb]
   cases ai:Nat.beq p.1 t with
   | true=>
     have:p.1 =t:=Nat.eq_of_beq_eq_true ai
     rw [this,h]
     simp only [eb,this,Nat.beq_refl]
   | false=>
     cases qq new p.1 with
     | true=>simp only;exact Oi h
     | false=>simp only [eb,ai];exact Oi (by simp only [qq,ai,Bool.false_or];exact h)
theorem Fr.Gb (ag:Fr n (kG new bd) a):Fr n (mi new bd) a:=⟨ag.size,ag.defers,fun t v aL=>ag.get t v (by
 unfold kG
 rw [ZU] at aL ⊢
 cases bG:qq new t with
 | true=>rw [bG] at aL;exact aL
 | false=>rw [bG] at aL;rw [Oi bG];exact aL)⟩
def Gu (G:jM) (ops:Array Oper) (n:Nat) (M:List (Nat × Nat × List Value)) (is ar:List Nat) (bd:List (Nat × Value)) (e5:List Nat):Option (List (Nat × Value) × List (Nat × Nat)):=
 match wH ops.toList is with
 | some os=>jZ G ops n M os ar bd e5
 | none=>none
theorem ajr {G:jM} {ops:Array Oper} {n:Nat} {M:List (Nat × Nat × List Value)} {is ar:List Nat} {bd:List (Nat × Value)} {e5:List Nat} {r:List (Nat × Value) × List (Nat × Nat)} (h:Gu G ops n M is ar bd e5=some r):∃ os,wH ops.toList is=some os/\jZ G ops n M os ar bd e5=some r:=by
 unfold Gu at h
 split at h
 · rename_i os J;exact ⟨os,J,h⟩
 · cases h
end
end ay
namespace I
structure Kind where
 Kind:Int
 ap:List UInt8
 deriving DecidableEq
structure Handler where
 From:Int
 To:Int
 g6:Int
 ap:List UInt8
 deriving DecidableEq
structure Method where
 Name:List UInt8
 Static:Bool
 cC:List Kind
 Returns:Kind
 gh:Int
 gf:Int
 Code:List UInt8
 cF:List Handler
structure Field where
 Name:List UInt8
 Kind:Kind
 deriving DecidableEq
structure ap where
 Name:List UInt8
 cU:List UInt8
 Fields:List Field
 bh:List Method
structure Target where
 ap:Int
 Method:Int
 deriving DecidableEq
structure aH where
 bJ:List ap
 bB:List Int
 Fields:List (List Field)
 Names:List (List (List UInt8))
 bC:List (List Target)
structure bi where
 l:List ap
 b8:List ((List UInt8) × Int)
 c':List Int
structure aU where
 Words:List Int
 aW:Int
 a9:Int
 bq:Int
 bm:Int
 bg:List Int
 Next:Int
structure bM where
 K:aH
structure bb where
 H:aU
 S:bM
 aW:List Int
 a9:List Int
 dK:List (Int × Bool)
end I
namespace I
open Go
def wU:ay.c8 Kind where
 size:=2
 rd _ _ cs d:=cs= [.int .i64 d.Kind,ay.cv d.ap]
 len h:=by subst h;rfl
 one h v aj:=by subst h;simp only [List.mem_cons,List.not_mem_nil,or_false] at aj;rcases aj with rfl | rfl <;> rfl
 law _ h:=h
def wT:ay.c8 Handler where
 size:=4
 rd _ _ cs d:=cs= [.int .i64 d.From,.int .i64 d.To,.int .i64 d.g6,ay.cv d.ap]
 len h:=by subst h;rfl
 one h v aj:=by subst h;simp only [List.mem_cons,List.not_mem_nil,or_false] at aj;rcases aj with rfl | rfl | rfl | rfl <;> rfl
 law _ h:=h
def m6:ay.c8 Method where
 size:=9
 rd F w cs d:=∃ eV cJ dr cm,cs= [ay.cv d.Name,.bool d.Static,.slice eV d.cC.length cJ,.int .i64 d.Returns.Kind,ay.cv d.Returns.ap,.int .i64 d.gh,.int .i64 d.gf,ay.cv d.Code,.slice dr d.cF.length cm]/\(ay.ca I.wU).rd F w [.slice eV d.cC.length cJ] d.cC/\(ay.ca I.wT).rd F w [.slice dr d.cF.length cm] d.cF
 len h:=by obtain ⟨eV,cJ,dr,cm,aY,_⟩:=h;subst aY;rfl
 one h v aj:=by obtain ⟨eV,cJ,dr,cm,aY,_⟩:=h;subst aY;simp only [List.mem_cons,List.not_mem_nil,or_false] at aj;rcases aj with rfl | rfl | rfl | rfl | rfl | rfl | rfl | rfl | rfl <;> rfl
 law aR h:=by obtain ⟨eV,cJ,dr,cm,aY,J,aa⟩:=h;exact ⟨eV,cJ,dr,cm,aY,(ay.ca I.wU).law aR J,(ay.ca I.wT).law aR aa⟩
def hG:ay.c8 Field where
 size:=3
 rd _ _ cs d:=cs= [ay.cv d.Name,.int .i64 d.Kind.Kind,ay.cv d.Kind.ap]
 len h:=by subst h;rfl
 one h v aj:=by subst h;simp only [List.mem_cons,List.not_mem_nil,or_false] at aj;rcases aj with rfl | rfl | rfl <;> rfl
 law _ h:=h
def ik:ay.c8 ap where
 size:=4
 rd F w cs d:=∃ eV cJ dr cm,cs= [ay.cv d.Name,ay.cv d.cU,.slice eV d.Fields.length cJ,.slice dr d.bh.length cm]/\(ay.ca I.hG).rd F w [.slice eV d.Fields.length cJ] d.Fields/\(ay.ca I.m6).rd F w [.slice dr d.bh.length cm] d.bh
 len h:=by obtain ⟨eV,cJ,dr,cm,aY,_⟩:=h;subst aY;rfl
 one h v aj:=by obtain ⟨eV,cJ,dr,cm,aY,_⟩:=h;subst aY;simp only [List.mem_cons,List.not_mem_nil,or_false] at aj;rcases aj with rfl | rfl | rfl | rfl <;> rfl
 law aR h:=by obtain ⟨eV,cJ,dr,cm,aY,J,aa⟩:=h;exact ⟨eV,cJ,dr,cm,aY,(ay.ca I.hG).law aR J,(ay.ca I.m6).law aR aa⟩
def il:ay.c8 Target where
 size:=2
 rd _ _ cs d:=cs= [.int .i64 d.ap,.int .i64 d.Method]
 len h:=by subst h;rfl
 one h v aj:=by subst h;simp only [List.mem_cons,List.not_mem_nil,or_false] at aj;rcases aj with rfl | rfl <;> rfl
 law _ h:=h
def awg:ay.c8 aH where
 size:=5
 rd F w cs d:=∃ eV cJ dr cm ol dS rP hq rQ iM,cs= [.slice eV d.bJ.length cJ,.slice dr d.bB.length cm,.slice ol d.Fields.length dS,.slice rP d.Names.length hq,.slice rQ d.bC.length iM]/\(ay.ca I.ik).rd F w [.slice eV d.bJ.length cJ] d.bJ/\(ay.ca (ay.eF .i64)).rd F w [.slice dr d.bB.length cm] d.bB/\(ay.ca (ay.ca I.hG)).rd F w [.slice ol d.Fields.length dS] d.Fields/\(ay.ca (ay.ca ay.hF)).rd F w [.slice rP d.Names.length hq] d.Names/\(ay.ca (ay.ca I.il)).rd F w [.slice rQ d.bC.length iM] d.bC
 len h:=by obtain ⟨eV,cJ,dr,cm,ol,dS,rP,hq,rQ,iM,aY,_⟩:=h;subst aY;rfl
 one h v aj:=by obtain ⟨eV,cJ,dr,cm,ol,dS,rP,hq,rQ,iM,aY,_⟩:=h;subst aY;simp only [List.mem_cons,List.not_mem_nil,or_false] at aj;rcases aj with rfl | rfl | rfl | rfl | rfl <;> rfl
 law aR h:=by obtain ⟨eV,cJ,dr,cm,ol,dS,rP,hq,rQ,iM,aY,J,aa,az,bp,dj⟩:=h;exact ⟨eV,cJ,dr,cm,ol,dS,rP,hq,rQ,iM,aY,(ay.ca I.ik).law aR J,(ay.ca (ay.eF .i64)).law aR aa,(ay.ca (ay.ca I.hG)).law aR az,(ay.ca (ay.ca ay.hF)).law aR bp,(ay.ca (ay.ca I.il)).law aR dj⟩
def awf:ay.c8 aU where
 size:=7
 rd F w cs d:=∃ eV cJ dr cm,cs= [.slice eV d.Words.length cJ,.int .i64 d.aW,.int .i64 d.a9,.int .i64 d.bq,.int .i64 d.bm,.slice dr d.bg.length cm,.int .i64 d.Next]/\(ay.ca (ay.eF .i64)).rd F w [.slice eV d.Words.length cJ] d.Words/\(ay.ca (ay.eF .i64)).rd F w [.slice dr d.bg.length cm] d.bg
 len h:=by obtain ⟨eV,cJ,dr,cm,aY,_⟩:=h;subst aY;rfl
 one h v aj:=by obtain ⟨eV,cJ,dr,cm,aY,_⟩:=h;subst aY;simp only [List.mem_cons,List.not_mem_nil,or_false] at aj;rcases aj with rfl | rfl | rfl | rfl | rfl | rfl | rfl <;> rfl
 law aR h:=by obtain ⟨eV,cJ,dr,cm,aY,J,aa⟩:=h;exact ⟨eV,cJ,dr,cm,aY,(ay.ca (ay.eF .i64)).law aR J,(ay.ca (ay.eF .i64)).law aR aa⟩
end I
namespace Go.Value
abbrev c1 (g:Nat):Value:=.pointer (some ⟨g,0,none⟩)
abbrev i (n:Int):Value:=.int .i64 n
end Go.Value
namespace Go.Proofs.YteeliipnilghaaaGreat
open Go Go.RowKit
abbrev cz {α:Type} (T:ay.c8 α) (A:Option Addr) (c:Nat) (l:List α):ay.bF:=ay.bF.of (ay.ca T) [.slice A l.length c] l
def nz:ay.jM:=⟨[(3,.i .i64),(4,.b),(5,.i .u8),(9,.s),(22,.cz),(25,.cz),(26,.cz),(27,.cz),(28,.cz),(31,.i .i64),(73,.cz),(119,.cz),(120,.cz),(121,.cz),(124,.cz),(126,.cz),(129,.cz),(132,.cz),(202,.cz),(204,.cz)],[(24,0,0),(24,1,1),(24,2,2),(24,3,3),(24,4,4),(24,5,5),(24,6,6),(30,0,0),(30,1,1),(30,2,2),(30,3,3),(30,4,4),(69,0,0),(72,0,0),(72,1,7),(72,2,12),(72,3,13),(72,4,14),(117,0,0),(117,1,1),(117,2,2),(128,0,0),(128,1,1),(131,0,0),(131,1,1),(131,2,2),(131,3,3),(131,4,5),(131,5,6),(131,6,7),(131,7,8),(134,0,0),(134,1,1),(134,2,2),(134,3,3),(136,0,0),(136,1,1),(157,0,0),(157,1,1),(157,2,2),(157,3,3)],[(3,none),(4,none),(5,none),(9,none),(22,none),(24,some 7),(25,none),(26,none),(27,none),(28,none),(30,some 5),(60,none),(69,some 5),(70,none),(113,none),(115,none),(118,none),(120,none),(121,none),(124,none),(126,none),(128,some 2),(129,none),(131,some 9),(132,none),(134,some 4),(136,some 3),(157,some 4),(166,some 2)]⟩
theorem nA:ay.ot Tryz.prog nz:=⟨⟨Tryz.underlying3,Tryz.underlying4,Tryz.underlying5,Tryz.underlying9,⟨_,Tryz.underlying22⟩,⟨_,Tryz.underlying25⟩,⟨_,Tryz.underlying26⟩,⟨_,Tryz.underlying27⟩,⟨_,Tryz.underlying28⟩,Tryz.underlying31,⟨_,Tryz.underlying73⟩,⟨_,Tryz.underlying119⟩,⟨_,Tryz.underlying120⟩,⟨_,Tryz.underlying121⟩,⟨_,Tryz.underlying124⟩,⟨_,Tryz.underlying126⟩,⟨_,Tryz.underlying129⟩,⟨_,Tryz.underlying132⟩,⟨_,Tryz.underlying202⟩,⟨_,Tryz.underlying204⟩,trivial⟩,⟨ay.eh Tryz.underlying24 rfl rfl Tryz.sizeOf22 rfl,ay.eh Tryz.underlying24 rfl rfl Tryz.sizeOf3 rfl,ay.eh Tryz.underlying24 rfl rfl Tryz.sizeOf3 rfl,ay.eh Tryz.underlying24 rfl rfl Tryz.sizeOf3 rfl,ay.eh Tryz.underlying24 rfl rfl Tryz.sizeOf3 rfl,ay.eh Tryz.underlying24 rfl rfl Tryz.sizeOf22 rfl,ay.eh Tryz.underlying24 rfl rfl Tryz.sizeOf3 rfl,ay.eh Tryz.underlying30 rfl rfl Tryz.sizeOf25 rfl,ay.eh Tryz.underlying30 rfl rfl Tryz.sizeOf22 rfl,ay.eh Tryz.underlying30 rfl rfl Tryz.sizeOf26 rfl,ay.eh Tryz.underlying30 rfl rfl Tryz.sizeOf27 rfl,ay.eh Tryz.underlying30 rfl rfl Tryz.sizeOf28 rfl,ay.eh Tryz.underlying69 rfl rfl Tryz.sizeOf30 rfl,ay.eh Tryz.underlying72 rfl rfl Tryz.sizeOf24 rfl,ay.eh Tryz.underlying72 rfl rfl Tryz.sizeOf69 rfl,ay.eh Tryz.underlying72 rfl rfl Tryz.sizeOf22 rfl,ay.eh Tryz.underlying72 rfl rfl Tryz.sizeOf22 rfl,ay.eh Tryz.underlying72 rfl rfl Tryz.sizeOf70 rfl,ay.eh Tryz.underlying117 rfl rfl Tryz.sizeOf25 rfl,ay.eh Tryz.underlying117 rfl rfl Tryz.sizeOf115 rfl,ay.eh Tryz.underlying117 rfl rfl Tryz.sizeOf22 rfl,ay.eh Tryz.underlying128 rfl rfl Tryz.sizeOf3 rfl,ay.eh Tryz.underlying128 rfl rfl Tryz.sizeOf9 rfl,ay.eh Tryz.underlying131 rfl rfl Tryz.sizeOf9 rfl,ay.eh Tryz.underlying131 rfl rfl Tryz.sizeOf4 rfl,ay.eh Tryz.underlying131 rfl rfl Tryz.sizeOf126 rfl,ay.eh Tryz.underlying131 rfl rfl Tryz.sizeOf128 rfl,ay.eh Tryz.underlying131 rfl rfl Tryz.sizeOf3 rfl,ay.eh Tryz.underlying131 rfl rfl Tryz.sizeOf3 rfl,ay.eh Tryz.underlying131 rfl rfl Tryz.sizeOf9 rfl,ay.eh Tryz.underlying131 rfl rfl Tryz.sizeOf129 rfl,ay.eh Tryz.underlying134 rfl rfl Tryz.sizeOf9 rfl,ay.eh Tryz.underlying134 rfl rfl Tryz.sizeOf9 rfl,ay.eh Tryz.underlying134 rfl rfl Tryz.sizeOf124 rfl,ay.eh Tryz.underlying134 rfl rfl Tryz.sizeOf132 rfl,ay.eh Tryz.underlying136 rfl rfl Tryz.sizeOf9 rfl,ay.eh Tryz.underlying136 rfl rfl Tryz.sizeOf128 rfl,ay.eh Tryz.underlying157 rfl rfl Tryz.sizeOf3 rfl,ay.eh Tryz.underlying157 rfl rfl Tryz.sizeOf3 rfl,ay.eh Tryz.underlying157 rfl rfl Tryz.sizeOf3 rfl,ay.eh Tryz.underlying157 rfl rfl Tryz.sizeOf9 rfl,trivial⟩,⟨Tryz.isAgg3,Tryz.isAgg4,Tryz.isAgg5,Tryz.isAgg9,Tryz.isAgg22,⟨Tryz.isAgg24,Tryz.sizeOf24⟩,Tryz.isAgg25,Tryz.isAgg26,Tryz.isAgg27,Tryz.isAgg28,⟨Tryz.isAgg30,Tryz.sizeOf30⟩,Tryz.isAgg60,⟨Tryz.isAgg69,Tryz.sizeOf69⟩,Tryz.isAgg70,Tryz.isAgg113,Tryz.isAgg115,Tryz.isAgg118,Tryz.isAgg120,Tryz.isAgg121,Tryz.isAgg124,Tryz.isAgg126,⟨Tryz.isAgg128,Tryz.sizeOf128⟩,Tryz.isAgg129,⟨Tryz.isAgg131,Tryz.sizeOf131⟩,Tryz.isAgg132,⟨Tryz.isAgg134,Tryz.sizeOf134⟩,⟨Tryz.isAgg136,Tryz.sizeOf136⟩,⟨Tryz.isAgg157,Tryz.sizeOf157⟩,⟨Tryz.isAgg166,Tryz.sizeOf166⟩,trivial⟩⟩
theorem amo:(Tryz.prog.info? 3).map (fun i=>(i.zero,i.size,i.bytes))=some (some (.int .i64 0),1,8):=by kernel_rfl
theorem NF:(Tryz.prog.info? 9).map (fun i=>(i.zero,i.size,i.bytes))=some (some (ay.cv []),1,16):=by kernel_rfl
theorem amn:(Tryz.prog.info? 136).map (fun i=>(i.zero,i.size,i.bytes))=some (some (.agg #[ay.cv [],.int .i64 0,ay.cv []]),3,40):=by kernel_rfl
theorem NE:(Tryz.prog.info? 166).map (fun i=>(i.zero,i.size,i.bytes))=some (some (.agg #[.int .i64 0,.int .i64 0]),2,16):=by kernel_rfl
theorem asK:∀ w,(ay.placesOf Tryz.prog 166).run Tryz.prog w= .ok #[(0,1),(1,1)] w:=fun w=>by kernel_rfl
theorem aiW {o:Oper} {a:Act} {w:World} {t':TypeId} {x y:Operand} {X Y:I.Kind} (aC:o.op= .binOp .eql 128 x y t') (af:a.eval x= .agg #[.int .i64 X.Kind,ay.cv X.ap]) (hy:a.eval y= .agg #[.int .i64 Y.Kind,ay.cv Y.ap]):ay.bj Tryz.prog o a w (.bool (decide (X=Y))) w:=by
 have aO:decide (X=Y)=decide (X.Kind=Y.Kind/\X.ap=Y.ap/\True):=by rcases X with ⟨_,_⟩;rcases Y with ⟨_,_⟩;simp
 rw [aO]
 exact ay.JN Tryz.underlying128 (by kernel_rfl) (by kernel_rfl) (ay.kI rfl Tryz.underlying3 Tryz.isAgg3 rfl rfl (ay.sP rfl Tryz.underlying9 Tryz.isAgg9 rfl rfl (by simp [ay.oK]))) aC af hy
theorem ai0 {o:Oper} {a:Act} {w:World} {t':TypeId} {x y:Operand} {X Y:I.Kind} (aC:o.op= .binOp .neq 128 x y t') (af:a.eval x= .agg #[.int .i64 X.Kind,ay.cv X.ap]) (hy:a.eval y= .agg #[.int .i64 Y.Kind,ay.cv Y.ap]):ay.bj Tryz.prog o a w (.bool (!decide (X=Y))) w:=by
 have aO:decide (X=Y)=decide (X.Kind=Y.Kind/\X.ap=Y.ap/\True):=by rcases X with ⟨_,_⟩;rcases Y with ⟨_,_⟩;simp
 rw [aO]
 exact ay.JO Tryz.underlying128 (by kernel_rfl) (by kernel_rfl) (ay.kI rfl Tryz.underlying3 Tryz.isAgg3 rfl rfl (ay.sP rfl Tryz.underlying9 Tryz.isAgg9 rfl rfl (by simp [ay.oK]))) aC af hy
theorem aiU {o:Oper} {a:Act} {w:World} {t':TypeId} {x y:Operand} {X Y:I.Field} (aC:o.op= .binOp .eql 136 x y t') (af:a.eval x= .agg #[ay.cv X.Name,.int .i64 X.Kind.Kind,ay.cv X.Kind.ap]) (hy:a.eval y= .agg #[ay.cv Y.Name,.int .i64 Y.Kind.Kind,ay.cv Y.Kind.ap]):ay.bj Tryz.prog o a w (.bool (decide (X=Y))) w:=by
 have aO:decide (X=Y)=decide (X.Name=Y.Name/\(X.Kind.Kind=Y.Kind.Kind/\X.Kind.ap=Y.Kind.ap/\True)/\True):=by rcases X with ⟨_,⟨_,_⟩⟩;rcases Y with ⟨_,⟨_,_⟩⟩;simp
 rw [aO]
 exact ay.JN Tryz.underlying136 (by kernel_rfl) (by kernel_rfl) (ay.sP rfl Tryz.underlying9 Tryz.isAgg9 rfl rfl (ay.TQ (us:=[.int .i64 X.Kind.Kind,ay.cv X.Kind.ap]) (vs:=[.int .i64 Y.Kind.Kind,ay.cv Y.Kind.ap]) (q:=X.Kind.Kind=Y.Kind.Kind/\X.Kind.ap=Y.Kind.ap/\True) rfl Tryz.isAgg128 Tryz.sizeOf128 rfl rfl (ay.TR Tryz.underlying128 (by kernel_rfl) (ay.kI rfl Tryz.underlying3 Tryz.isAgg3 rfl rfl (ay.sP rfl Tryz.underlying9 Tryz.isAgg9 rfl rfl (by simp [ay.oK])))) (by simp [ay.oK]))) aC af hy
theorem aiY {o:Oper} {a:Act} {w:World} {t':TypeId} {x y:Operand} {X Y:I.Field} (aC:o.op= .binOp .neq 136 x y t') (af:a.eval x= .agg #[ay.cv X.Name,.int .i64 X.Kind.Kind,ay.cv X.Kind.ap]) (hy:a.eval y= .agg #[ay.cv Y.Name,.int .i64 Y.Kind.Kind,ay.cv Y.Kind.ap]):ay.bj Tryz.prog o a w (.bool (!decide (X=Y))) w:=by
 have aO:decide (X=Y)=decide (X.Name=Y.Name/\(X.Kind.Kind=Y.Kind.Kind/\X.Kind.ap=Y.Kind.ap/\True)/\True):=by rcases X with ⟨_,⟨_,_⟩⟩;rcases Y with ⟨_,⟨_,_⟩⟩;simp
 rw [aO]
 exact ay.JO Tryz.underlying136 (by kernel_rfl) (by kernel_rfl) (ay.sP rfl Tryz.underlying9 Tryz.isAgg9 rfl rfl (ay.TQ (us:=[.int .i64 X.Kind.Kind,ay.cv X.Kind.ap]) (vs:=[.int .i64 Y.Kind.Kind,ay.cv Y.Kind.ap]) (q:=X.Kind.Kind=Y.Kind.Kind/\X.Kind.ap=Y.Kind.ap/\True) rfl Tryz.isAgg128 Tryz.sizeOf128 rfl rfl (ay.TR Tryz.underlying128 (by kernel_rfl) (ay.kI rfl Tryz.underlying3 Tryz.isAgg3 rfl rfl (ay.sP rfl Tryz.underlying9 Tryz.isAgg9 rfl rfl (by simp [ay.oK])))) (by simp [ay.oK]))) aC af hy
theorem aiV {o:Oper} {a:Act} {w:World} {t':TypeId} {x y:Operand} {X Y:I.Handler} (aC:o.op= .binOp .eql 157 x y t') (af:a.eval x= .agg #[.int .i64 X.From,.int .i64 X.To,.int .i64 X.g6,ay.cv X.ap]) (hy:a.eval y= .agg #[.int .i64 Y.From,.int .i64 Y.To,.int .i64 Y.g6,ay.cv Y.ap]):ay.bj Tryz.prog o a w (.bool (decide (X=Y))) w:=by
 have aO:decide (X=Y)=decide (X.From=Y.From/\X.To=Y.To/\X.g6=Y.g6/\X.ap=Y.ap/\True):=by rcases X with ⟨_,_,_,_⟩;rcases Y with ⟨_,_,_,_⟩;simp
 rw [aO]
 exact ay.JN Tryz.underlying157 (by kernel_rfl) (by kernel_rfl) (ay.kI rfl Tryz.underlying3 Tryz.isAgg3 rfl rfl (ay.kI rfl Tryz.underlying3 Tryz.isAgg3 rfl rfl (ay.kI rfl Tryz.underlying3 Tryz.isAgg3 rfl rfl (ay.sP rfl Tryz.underlying9 Tryz.isAgg9 rfl rfl (by simp [ay.oK]))))) aC af hy
theorem aiZ {o:Oper} {a:Act} {w:World} {t':TypeId} {x y:Operand} {X Y:I.Handler} (aC:o.op= .binOp .neq 157 x y t') (af:a.eval x= .agg #[.int .i64 X.From,.int .i64 X.To,.int .i64 X.g6,ay.cv X.ap]) (hy:a.eval y= .agg #[.int .i64 Y.From,.int .i64 Y.To,.int .i64 Y.g6,ay.cv Y.ap]):ay.bj Tryz.prog o a w (.bool (!decide (X=Y))) w:=by
 have aO:decide (X=Y)=decide (X.From=Y.From/\X.To=Y.To/\X.g6=Y.g6/\X.ap=Y.ap/\True):=by rcases X with ⟨_,_,_,_⟩;rcases Y with ⟨_,_,_,_⟩;simp
 rw [aO]
 exact ay.JO Tryz.underlying157 (by kernel_rfl) (by kernel_rfl) (ay.kI rfl Tryz.underlying3 Tryz.isAgg3 rfl rfl (ay.kI rfl Tryz.underlying3 Tryz.isAgg3 rfl rfl (ay.kI rfl Tryz.underlying3 Tryz.isAgg3 rfl rfl (ay.sP rfl Tryz.underlying9 Tryz.isAgg9 rfl rfl (by simp [ay.oK]))))) aC af hy
theorem aiX {o:Oper} {a:Act} {w:World} {t':TypeId} {x y:Operand} {X Y:I.Target} (aC:o.op= .binOp .eql 166 x y t') (af:a.eval x= .agg #[.int .i64 X.ap,.int .i64 X.Method]) (hy:a.eval y= .agg #[.int .i64 Y.ap,.int .i64 Y.Method]):ay.bj Tryz.prog o a w (.bool (decide (X=Y))) w:=by
 have aO:decide (X=Y)=decide (X.ap=Y.ap/\X.Method=Y.Method/\True):=by rcases X with ⟨_,_⟩;rcases Y with ⟨_,_⟩;simp
 rw [aO]
 exact ay.JN Tryz.underlying166 (by kernel_rfl) (by kernel_rfl) (ay.kI rfl Tryz.underlying3 Tryz.isAgg3 rfl rfl (ay.kI rfl Tryz.underlying3 Tryz.isAgg3 rfl rfl (by simp [ay.oK]))) aC af hy
theorem ai1 {o:Oper} {a:Act} {w:World} {t':TypeId} {x y:Operand} {X Y:I.Target} (aC:o.op= .binOp .neq 166 x y t') (af:a.eval x= .agg #[.int .i64 X.ap,.int .i64 X.Method]) (hy:a.eval y= .agg #[.int .i64 Y.ap,.int .i64 Y.Method]):ay.bj Tryz.prog o a w (.bool (!decide (X=Y))) w:=by
 have aO:decide (X=Y)=decide (X.ap=Y.ap/\X.Method=Y.Method/\True):=by rcases X with ⟨_,_⟩;rcases Y with ⟨_,_⟩;simp
 rw [aO]
 exact ay.JO Tryz.underlying166 (by kernel_rfl) (by kernel_rfl) (ay.kI rfl Tryz.underlying3 Tryz.isAgg3 rfl rfl (ay.kI rfl Tryz.underlying3 Tryz.isAgg3 rfl rfl (by simp [ay.oK]))) aC af hy
section
open ay
variable {n:cQ} {bd:List (Nat × Value)} {w:World} {a:Act}
theorem atd (k:Nat) (ar:List Nat) {ops:Array Oper} {C:World->Prop} {nc:Act->Prop} {rest:List Oper} {M:List (Nat × Nat × List Value)} (fr':List (Nat × Value)) (L:List Nat) (eu:∀ w,C w->hR w M) (ag:Fr n bd a)
 (next:∀ a7,Fr n fr' a7->wpQuiet Tryz.prog ops C nc (rest.drop k) a7) (he:jZ nz ops n M (rest.take k) ar bd (fr'.map (·.1))=some (fr',dup L):=by kernel_rfl):wpQuiet Tryz.prog ops C nc rest a:=atc k _ ar nA eu ag he next
theorem rg (ar:List Nat) {id:Nat} {lo:List Oper} {Q:Exit->Act->World->Prop} {M:List (Nat × Nat × List Value)} (fr':List (Nat × Value)) (L:List Nat) (eu:hR w M) (ag:Fr n bd a)
 (next:∀ a7,Fr n fr' a7->Q .normal a7 w) (he:jZ nz lo.toArray n M lo ar bd (fr'.map (·.1))=some (fr',dup L):=by kernel_rfl):(Code.region id lo.toArray false).wp Tryz.prog Q a w:=by
 refine mo (gR lo.length _ ar nA eu ag (by rw [List.take_length];exact he) fun a7 dC=>?_)
 rw [List.drop_length]
 exact next a7 dC
theorem I3 (ar:List Nat) {id:Nat} {lo:List Oper} {c:Code} {Q:Exit->Act->World->Prop} (fr':List (Nat × Value)) (ag:Fr n bd a)
 (next:∀ a7,Fr n fr' a7->c.wp Tryz.prog Q a7 w) (he:jZ nz lo.toArray n [] lo ar bd (fr'.map (·.1))=some (fr',dup []):=by kernel_rfl):(Code.seq (.region id lo.toArray false) c).wp Tryz.prog Q a w:=wp_seq_k fun _ cV=>rg ar fr' [] gu ag (fun a7 dC=>cV _ _ (next a7 dC)) he
theorem jX (k:Nat) (ar:List Nat) {ops:Array Oper} {Q:Exit->Act->World->Prop} {rest:List Oper} (gv:List (Nat × Value)) (ag:Fr n bd a)
 (next:∀ a7,Fr n (mi gv bd) a7->wpList Tryz.prog ops Q (rest.drop k) a7 w) (he:jZ nz ops n [] (rest.take k) ar bd ((kG gv bd).map (·.1))=some (kG gv bd,dup []):=by kernel_rfl):wpList Tryz.prog ops Q rest a w:=gR k _ ar nA gu ag he fun a7 h=>next a7 h.Gb
theorem oH (k:Nat) (ar:List Nat) {ops:Array Oper} {Q:Exit->Act->World->Prop} {rest:List Oper} {M:List (Nat × Nat × List Value)} (gv:List (Nat × Value)) (L:List Nat) (eu:hR w M) (ag:Fr n bd a)
 (next:∀ a7,Fr n (mi gv bd) a7->wpList Tryz.prog ops Q (rest.drop k) a7 w) (he:jZ nz ops n M (rest.take k) ar bd ((kG gv bd).map (·.1))=some (kG gv bd,dup L):=by kernel_rfl):wpList Tryz.prog ops Q rest a w:=gR k _ ar nA eu ag he fun a7 h=>next a7 h.Gb
theorem S8 (ar:List Nat) {id:Nat} {lo:List Oper} {Q:Exit->Act->World->Prop} {M:List (Nat × Nat × List Value)} (gv:List (Nat × Value)) (L:List Nat) (eu:hR w M) (ag:Fr n bd a)
 (next:∀ a7,Fr n (mi gv bd) a7->Q .normal a7 w) (he:jZ nz lo.toArray n M lo ar bd ((kG gv bd).map (·.1))=some (kG gv bd,dup L):=by kernel_rfl):(Code.region id lo.toArray false).wp Tryz.prog Q a w:=rg ar _ L eu ag (fun a7 h=>next a7 h.Gb) he
theorem aev (ar:List Nat) {id:Nat} {lo:List Oper} {Q:Exit->Act->World->Prop} (gv:List (Nat × Value)) (ag:Fr n bd a)
 (next:∀ a7,Fr n (mi gv bd) a7->Q .normal a7 w) (he:jZ nz lo.toArray n [] lo ar bd ((kG gv bd).map (·.1))=some (kG gv bd,dup []):=by kernel_rfl):(Code.region id lo.toArray false).wp Tryz.prog Q a w:=S8 ar gv [] gu ag next he
theorem vg (ar:List Nat) {id:Nat} {lo:List Oper} {c:Code} {Q:Exit->Act->World->Prop} (gv:List (Nat × Value)) (ag:Fr n bd a)
 (next:∀ a7,Fr n (mi gv bd) a7->c.wp Tryz.prog Q a7 w) (he:jZ nz lo.toArray n [] lo ar bd ((kG gv bd).map (·.1))=some (kG gv bd,dup []):=by kernel_rfl):(Code.seq (.region id lo.toArray false) c).wp Tryz.prog Q a w:=wp_seq_k fun _ cV=>S8 ar gv [] gu ag (fun a7 dC=>cV _ _ (next a7 dC)) he
variable {ops:Array Oper} {Q:Exit->Act->World->Prop} {S:World->Prop} {f p:Nat} {ds:List Nat} {M:List (Nat × Nat × List Value)}
theorem dh (is:List Nat) (k:Nat) (ar:List Nat) (fr':List (Nat × Value)) (L:List Nat) (eu:∀ w,S w->hR w M) (ag:Fr n bd a) (lz:S w) (next:∀ a7,Fr n fr' a7->eI Tryz.prog ops Q p S f (ER is ds) a7 w)
 (ak:Nat.beq is.length k=true:=by kernel_rfl) (kW:(dw ops.size ds).getD p false=false:=by kernel_rfl) (aL:yW ops p ds is=true:=by kernel_rfl) (he:Gu nz ops n M is ar bd (fr'.map (·.1))=some (fr',dup L):=by kernel_rfl):eI Tryz.prog ops Q p S (f+k) ds a w:=by
 obtain ⟨os,J,aa⟩:=ajr he
 exact adt is k _ ar nA eu ag ak kW J aL aa lz next
theorem dR (is:List Nat) (k:Nat) (ar:List Nat) (gv:List (Nat × Value)) (L:List Nat) (eu:∀ w,S w->hR w M) (ag:Fr n bd a) (lz:S w) (next:∀ a7,Fr n (mi gv bd) a7->eI Tryz.prog ops Q p S f (ER is ds) a7 w)
 (ak:Nat.beq is.length k=true:=by kernel_rfl) (kW:(dw ops.size ds).getD p false=false:=by kernel_rfl) (aL:yW ops p ds is=true:=by kernel_rfl) (he:Gu nz ops n M is ar bd ((kG gv bd).map (·.1))=some (kG gv bd,dup L):=by kernel_rfl):eI Tryz.prog ops Q p S (f+k) ds a w:=
 dh is k ar _ L eu ag lz (fun a7 h=>next a7 h.Gb) ak kW aL he
end
end Go.Proofs.YteeliipnilghaaaGreat
namespace Go.Proofs.YteeliipnilghaaaGreat
open Go Go.RowKit
theorem kC:Tryz.prog.cellsOf 3 = 1 :=by kernel_rfl
theorem aek:Tryz.prog.cellsOf 4 = 1 :=by kernel_rfl
theorem sL:Tryz.prog.cellsOf 9 = 1 :=by kernel_rfl
theorem KC:Tryz.prog.cellsOf 22 = 1 :=by kernel_rfl
theorem aee:Tryz.prog.cellsOf 24 = 7 :=by kernel_rfl
theorem aef:Tryz.prog.cellsOf 25 = 1 :=by kernel_rfl
theorem aeg:Tryz.prog.cellsOf 26 = 1 :=by kernel_rfl
theorem aeh:Tryz.prog.cellsOf 27 = 1 :=by kernel_rfl
theorem aei:Tryz.prog.cellsOf 28 = 1 :=by kernel_rfl
theorem aej:Tryz.prog.cellsOf 30 = 5 :=by kernel_rfl
theorem ad':Tryz.prog.cellsOf 120 = 1 :=by kernel_rfl
theorem aea:Tryz.prog.cellsOf 121 = 1 :=by kernel_rfl
theorem SU:Tryz.prog.cellsOf 124 = 1 :=by kernel_rfl
theorem aeb:Tryz.prog.cellsOf 126 = 1 :=by kernel_rfl
theorem F9:Tryz.prog.cellsOf 128 = 2 :=by kernel_rfl
theorem aec:Tryz.prog.cellsOf 129 = 1 :=by kernel_rfl
theorem SV:Tryz.prog.cellsOf 131 = 9 :=by kernel_rfl
theorem aed:Tryz.prog.cellsOf 132 = 1 :=by kernel_rfl
theorem SW:Tryz.prog.cellsOf 134 = 4 :=by kernel_rfl
theorem SX:Tryz.prog.cellsOf 136 = 3 :=by kernel_rfl
theorem SY:Tryz.prog.cellsOf 157 = 4 :=by kernel_rfl
theorem SZ:Tryz.prog.cellsOf 166 = 2 :=by kernel_rfl
theorem adO:Tryz.prog.bytesOf 3 = 8 :=by kernel_rfl
theorem adP:Tryz.prog.bytesOf 9 = 16 :=by kernel_rfl
theorem adF:Tryz.prog.bytesOf 120 = 24 :=by kernel_rfl
theorem adG:Tryz.prog.bytesOf 121 = 24 :=by kernel_rfl
theorem adH:Tryz.prog.bytesOf 124 = 24 :=by kernel_rfl
theorem adI:Tryz.prog.bytesOf 128 = 24 :=by kernel_rfl
theorem adJ:Tryz.prog.bytesOf 131 = 128 :=by kernel_rfl
theorem adK:Tryz.prog.bytesOf 134 = 80 :=by kernel_rfl
theorem adL:Tryz.prog.bytesOf 136 = 40 :=by kernel_rfl
theorem adM:Tryz.prog.bytesOf 157 = 40 :=by kernel_rfl
theorem adN:Tryz.prog.bytesOf 166 = 16 :=by kernel_rfl
theorem ZP {l:List Value} (h:l.length= 2):∃ dh cR,l= [dh,cR]:=match l,h with | [dh,cR],_=>⟨dh,cR,rfl⟩
theorem anW {l:List Value} (h:l.length= 3):∃ dh cR di,l= [dh,cR,di]:=match l,h with | [dh,cR,di],_=>⟨dh,cR,di,rfl⟩
theorem ZQ {l:List Value} (h:l.length= 4):∃ dh cR di dW,l= [dh,cR,di,dW]:=match l,h with | [dh,cR,di,dW],_=>⟨dh,cR,di,dW,rfl⟩
theorem anX {l:List Value} (h:l.length= 5):∃ dh cR di dW eJ,l= [dh,cR,di,dW,eJ]:=match l,h with | [dh,cR,di,dW,eJ],_=>⟨dh,cR,di,dW,eJ,rfl⟩
theorem anY {l:List Value} (h:l.length= 7):∃ dh cR di dW eJ kz jU,l= [dh,cR,di,dW,eJ,kz,jU]:=match l,h with | [dh,cR,di,dW,eJ,kz,jU],_=>⟨dh,cR,di,dW,eJ,kz,jU,rfl⟩
theorem anZ {l:List Value} (h:l.length= 9):∃ dh cR di dW eJ kz jU u9 xt,l= [dh,cR,di,dW,eJ,kz,jU,u9,xt]:=match l,h with | [dh,cR,di,dW,eJ,kz,jU,u9,xt],_=>⟨dh,cR,di,dW,eJ,kz,jU,u9,xt,rfl⟩
section
variable {H:Type} {enc:TypeId × Value->H} {N:Nat}
theorem QA:ay.gg Tryz.prog enc N 22 (ay.ca (ay.eF .i64)) (fun l=>l.length* 8 <=N/\ ∀ dG ∈ l,ay.h2 dG):=by
 have h:=ay.n9 (enc:=enc) (N:=N) Tryz.underlying22 kC (by decide) (ay.k8 Tryz.underlying3)
 rw [adO] at h
 exact h
def R5 (N:Nat) (d:I.aU):Prop:=(d.Words.length* 8 <=N/\ ∀ dG ∈ d.Words,ay.h2 dG)/\ay.h2 d.aW/\ay.h2 d.a9/\ay.h2 d.bq/\ay.h2 d.bm/\(d.bg.length* 8 <=N/\ ∀ dG ∈ d.bg,ay.h2 dG)/\ay.h2 d.Next
theorem au1:ay.gg Tryz.prog enc N 24 I.awf (R5 N):=by
 intro W n cs x h aP hw
 obtain ⟨e8,au,ag⟩:=ay.lv Tryz.underlying24 h aP hw
 replace au:=au.trans aee
 obtain ⟨dh,cR,di,dW,eJ,kz,jU,rfl⟩:=anY au
 obtain ⟨w6,aY,gw,w0⟩:=ay.eO ag 0 rfl rfl rfl KC (r:=[dh]) rfl
 obtain ⟨d0,fE,gX⟩:=(QA) W _ _ _ aY gw w0
 obtain ⟨m9,fA,dn⟩:=ay.la fE
 obtain rfl:dh=_:=(List.cons.inj dn).1
 obtain ⟨dq,J,dX,gd⟩:=ay.eO ag 1 rfl rfl rfl kC (r:=[cR]) rfl
 obtain ⟨d1,cN,bt⟩:=(ay.k8 Tryz.underlying3) W _ _ _ J dX gd
 have ao:[cR]=_:=cN
 obtain rfl:cR=_:=(List.cons.inj ao).1
 obtain ⟨kr,aa,hh,dZ⟩:=ay.eO ag 2 rfl rfl rfl kC (r:=[di]) rfl
 obtain ⟨d2,ec,bu⟩:=(ay.k8 Tryz.underlying3) W _ _ _ aa hh dZ
 have aq:[di]=_:=ec
 obtain rfl:di=_:=(List.cons.inj aq).1
 obtain ⟨rM,az,kf,kl⟩:=ay.eO ag 3 rfl rfl rfl kC (r:=[dW]) rfl
 obtain ⟨d3,ij,cH⟩:=(ay.k8 Tryz.underlying3) W _ _ _ az kf kl
 have a0:[dW]=_:=ij
 obtain rfl:dW=_:=(List.cons.inj a0).1
 obtain ⟨y3,bp,k4,E9⟩:=ay.eO ag 4 rfl rfl rfl kC (r:=[eJ]) rfl
 obtain ⟨d4,yA,dp⟩:=(ay.k8 Tryz.underlying3) W _ _ _ bp k4 E9
 have ch:[eJ]=_:=yA
 obtain rfl:eJ=_:=(List.cons.inj ch).1
 obtain ⟨ayj,dj,yv,Rb⟩:=ay.eO ag 5 rfl rfl rfl KC (r:=[kz]) rfl
 obtain ⟨d5,IA,lJ⟩:=(QA) W _ _ _ dj yv Rb
 obtain ⟨rQ,iM,dt⟩:=ay.la IA
 obtain rfl:kz=_:=(List.cons.inj dt).1
 obtain ⟨ayk,gn,O8,Rc⟩:=ay.eO ag 6 rfl rfl rfl kC (r:=[jU]) rfl
 obtain ⟨d6,Qs,ti⟩:=(ay.k8 Tryz.underlying3) W _ _ _ gn O8 Rc
 have gk:[jU]=_:=Qs
 obtain rfl:jU=_:=(List.cons.inj gk).1
 exact ⟨⟨d0,d1,d2,d3,d4,d5,d6⟩,⟨m9,fA,rQ,iM,rfl,fE,IA⟩,⟨gX,bt,bu,cH,dp,lJ,ti⟩⟩
def Cy (N:Nat) (d:I.Kind):Prop:=ay.h2 d.Kind/\d.ap.length<=N
theorem Qz:ay.gg Tryz.prog enc N 128 I.wU (Cy N):=by
 intro W n cs x h aP hw
 obtain ⟨e8,au,ag⟩:=ay.lv Tryz.underlying128 h aP hw
 replace au:=au.trans F9
 obtain ⟨dh,cR,rfl⟩:=ZP au
 obtain ⟨w6,aY,gw,w0⟩:=ay.eO ag 0 rfl rfl rfl kC (r:=[dh]) rfl
 obtain ⟨d0,fE,gX⟩:=(ay.k8 Tryz.underlying3) W _ _ _ aY gw w0
 have dn:[dh]=_:=fE
 obtain rfl:dh=_:=(List.cons.inj dn).1
 obtain ⟨dq,J,dX,gd⟩:=ay.eO ag 1 rfl rfl rfl sL (r:=[cR]) rfl
 obtain ⟨d1,cN,bt⟩:=(ay.ud Tryz.underlying9) W _ _ _ J dX gd
 have ao:[cR]=_:=cN
 obtain rfl:cR=_:=(List.cons.inj ao).1
 exact ⟨⟨d0,d1⟩,rfl,⟨gX,bt⟩⟩
def Cx (N:Nat) (d:I.Field):Prop:=d.Name.length<=N/\Cy N d.Kind
theorem auZ:ay.gg Tryz.prog enc N 136 I.hG (Cx N):=by
 intro W n cs x h aP hw
 obtain ⟨e8,au,ag⟩:=ay.lv Tryz.underlying136 h aP hw
 replace au:=au.trans SX
 obtain ⟨dh,cR,di,rfl⟩:=anW au
 obtain ⟨w6,aY,gw,w0⟩:=ay.eO ag 0 rfl rfl rfl sL (r:=[dh]) rfl
 obtain ⟨d0,fE,gX⟩:=(ay.ud Tryz.underlying9) W _ _ _ aY gw w0
 have dn:[dh]=_:=fE
 obtain rfl:dh=_:=(List.cons.inj dn).1
 obtain ⟨dq,J,dX,gd⟩:=ay.eO ag 1 rfl rfl rfl F9 (r:=[cR,di]) rfl
 obtain ⟨d1,cN,bt⟩:=Qz W _ _ _ J dX gd
 have ao:[cR,di]=_:=cN
 simp only [List.cons.injEq,and_true] at ao
 obtain ⟨rfl,rfl⟩:=ao
 exact ⟨⟨d0,d1⟩,rfl,⟨gX,bt⟩⟩
theorem abm:ay.gg Tryz.prog enc N 124 (ay.ca I.hG) (fun l=>l.length* 40 <=N/\ ∀ dG ∈ l,Cx N dG):=by
 have h:=ay.n9 (enc:=enc) (N:=N) Tryz.underlying124 SX (by decide) auZ
 rw [adL] at h
 exact h
theorem au8:ay.gg Tryz.prog enc N 126 (ay.ca I.wU) (fun l=>l.length* 24 <=N/\ ∀ dG ∈ l,Cy N dG):=by
 have h:=ay.n9 (enc:=enc) (N:=N) Tryz.underlying126 F9 (by decide) Qz
 rw [adI] at h
 exact h
def J' (N:Nat) (d:I.Handler):Prop:=ay.h2 d.From/\ay.h2 d.To/\ay.h2 d.g6/\d.ap.length<=N
theorem au0:ay.gg Tryz.prog enc N 157 I.wT (J' N):=by
 intro W n cs x h aP hw
 obtain ⟨e8,au,ag⟩:=ay.lv Tryz.underlying157 h aP hw
 replace au:=au.trans SY
 obtain ⟨dh,cR,di,dW,rfl⟩:=ZQ au
 obtain ⟨w6,aY,gw,w0⟩:=ay.eO ag 0 rfl rfl rfl kC (r:=[dh]) rfl
 obtain ⟨d0,fE,gX⟩:=(ay.k8 Tryz.underlying3) W _ _ _ aY gw w0
 have dn:[dh]=_:=fE
 obtain rfl:dh=_:=(List.cons.inj dn).1
 obtain ⟨dq,J,dX,gd⟩:=ay.eO ag 1 rfl rfl rfl kC (r:=[cR]) rfl
 obtain ⟨d1,cN,bt⟩:=(ay.k8 Tryz.underlying3) W _ _ _ J dX gd
 have ao:[cR]=_:=cN
 obtain rfl:cR=_:=(List.cons.inj ao).1
 obtain ⟨kr,aa,hh,dZ⟩:=ay.eO ag 2 rfl rfl rfl kC (r:=[di]) rfl
 obtain ⟨d2,ec,bu⟩:=(ay.k8 Tryz.underlying3) W _ _ _ aa hh dZ
 have aq:[di]=_:=ec
 obtain rfl:di=_:=(List.cons.inj aq).1
 obtain ⟨rM,az,kf,kl⟩:=ay.eO ag 3 rfl rfl rfl sL (r:=[dW]) rfl
 obtain ⟨d3,ij,cH⟩:=(ay.ud Tryz.underlying9) W _ _ _ az kf kl
 have a0:[dW]=_:=ij
 obtain rfl:dW=_:=(List.cons.inj a0).1
 exact ⟨⟨d0,d1,d2,d3⟩,rfl,⟨gX,bt,bu,cH⟩⟩
theorem au9:ay.gg Tryz.prog enc N 129 (ay.ca I.wT) (fun l=>l.length* 40 <=N/\ ∀ dG ∈ l,J' N dG):=by
 have h:=ay.n9 (enc:=enc) (N:=N) Tryz.underlying129 SY (by decide) au0
 rw [adM] at h
 exact h
def FK (N:Nat) (d:I.Method):Prop:=d.Name.length<=N/\True/\(d.cC.length* 24 <=N/\ ∀ dG ∈ d.cC,Cy N dG)/\Cy N d.Returns/\ay.h2 d.gh/\ay.h2 d.gf/\d.Code.length<=N/\(d.cF.length* 40 <=N/\ ∀ dG ∈ d.cF,J' N dG)
theorem au3:ay.gg Tryz.prog enc N 131 I.m6 (FK N):=by
 intro W n cs x h aP hw
 obtain ⟨e8,au,ag⟩:=ay.lv Tryz.underlying131 h aP hw
 replace au:=au.trans SV
 obtain ⟨dh,cR,di,dW,eJ,kz,jU,u9,xt,rfl⟩:=anZ au
 obtain ⟨w6,aY,gw,w0⟩:=ay.eO ag 0 rfl rfl rfl sL (r:=[dh]) rfl
 obtain ⟨d0,fE,gX⟩:=(ay.ud Tryz.underlying9) W _ _ _ aY gw w0
 have dn:[dh]=_:=fE
 obtain rfl:dh=_:=(List.cons.inj dn).1
 obtain ⟨dq,J,dX,gd⟩:=ay.eO ag 1 rfl rfl rfl aek (r:=[cR]) rfl
 obtain ⟨d1,cN,bt⟩:=(ay.au5 Tryz.underlying4) W _ _ _ J dX gd
 have ao:[cR]=_:=cN
 obtain rfl:cR=_:=(List.cons.inj ao).1
 obtain ⟨kr,aa,hh,dZ⟩:=ay.eO ag 2 rfl rfl rfl aeb (r:=[di]) rfl
 obtain ⟨d2,ec,bu⟩:=(au8) W _ _ _ aa hh dZ
 obtain ⟨dr,cm,aq⟩:=ay.la ec
 obtain rfl:di=_:=(List.cons.inj aq).1
 obtain ⟨rM,az,kf,kl⟩:=ay.eO ag 3 rfl rfl rfl F9 (r:=[dW,eJ]) rfl
 obtain ⟨d3,ij,cH⟩:=Qz W _ _ _ az kf kl
 have a0:[dW,eJ]=_:=ij
 simp only [List.cons.injEq,and_true] at a0
 obtain ⟨rfl,rfl⟩:=a0
 obtain ⟨y3,bp,k4,E9⟩:=ay.eO ag 4 rfl rfl rfl kC (r:=[kz]) rfl
 obtain ⟨d4,yA,dp⟩:=(ay.k8 Tryz.underlying3) W _ _ _ bp k4 E9
 have ch:[kz]=_:=yA
 obtain rfl:kz=_:=(List.cons.inj ch).1
 obtain ⟨ayj,dj,yv,Rb⟩:=ay.eO ag 5 rfl rfl rfl kC (r:=[jU]) rfl
 obtain ⟨d5,IA,lJ⟩:=(ay.k8 Tryz.underlying3) W _ _ _ dj yv Rb
 have dt:[jU]=_:=IA
 obtain rfl:jU=_:=(List.cons.inj dt).1
 obtain ⟨ayk,gn,O8,Rc⟩:=ay.eO ag 6 rfl rfl rfl sL (r:=[u9]) rfl
 obtain ⟨d6,Qs,ti⟩:=(ay.ud Tryz.underlying9) W _ _ _ gn O8 Rc
 have gk:[u9]=_:=Qs
 obtain rfl:u9=_:=(List.cons.inj gk).1
 obtain ⟨az4,g_,asH,awo⟩:=ay.eO ag 7 rfl rfl rfl aec (r:=[xt]) rfl
 obtain ⟨d7,aa_,amG⟩:=(au9) W _ _ _ g_ asH awo
 obtain ⟨adi,adS,jY⟩:=ay.la aa_
 obtain rfl:xt=_:=(List.cons.inj jY).1
 exact ⟨⟨d0,d1,d2,d3,d4,d5,d6,d7⟩,⟨dr,cm,adi,adS,rfl,ec,aa_⟩,⟨gX,bt,bu,cH,dp,lJ,ti,amG⟩⟩
theorem au_:ay.gg Tryz.prog enc N 132 (ay.ca I.m6) (fun l=>l.length* 128 <=N/\ ∀ dG ∈ l,FK N dG):=by
 have h:=ay.n9 (enc:=enc) (N:=N) Tryz.underlying132 SV (by decide) au3
 rw [adJ] at h
 exact h
def Cw (N:Nat) (d:I.ap):Prop:=d.Name.length<=N/\d.cU.length<=N/\(d.Fields.length* 40 <=N/\ ∀ dG ∈ d.Fields,Cx N dG)/\(d.bh.length* 128 <=N/\ ∀ dG ∈ d.bh,FK N dG)
theorem auY:ay.gg Tryz.prog enc N 134 I.ik (Cw N):=by
 intro W n cs x h aP hw
 obtain ⟨e8,au,ag⟩:=ay.lv Tryz.underlying134 h aP hw
 replace au:=au.trans SW
 obtain ⟨dh,cR,di,dW,rfl⟩:=ZQ au
 obtain ⟨w6,aY,gw,w0⟩:=ay.eO ag 0 rfl rfl rfl sL (r:=[dh]) rfl
 obtain ⟨d0,fE,gX⟩:=(ay.ud Tryz.underlying9) W _ _ _ aY gw w0
 have dn:[dh]=_:=fE
 obtain rfl:dh=_:=(List.cons.inj dn).1
 obtain ⟨dq,J,dX,gd⟩:=ay.eO ag 1 rfl rfl rfl sL (r:=[cR]) rfl
 obtain ⟨d1,cN,bt⟩:=(ay.ud Tryz.underlying9) W _ _ _ J dX gd
 have ao:[cR]=_:=cN
 obtain rfl:cR=_:=(List.cons.inj ao).1
 obtain ⟨kr,aa,hh,dZ⟩:=ay.eO ag 2 rfl rfl rfl SU (r:=[di]) rfl
 obtain ⟨d2,ec,bu⟩:=(abm) W _ _ _ aa hh dZ
 obtain ⟨dr,cm,aq⟩:=ay.la ec
 obtain rfl:di=_:=(List.cons.inj aq).1
 obtain ⟨rM,az,kf,kl⟩:=ay.eO ag 3 rfl rfl rfl aed (r:=[dW]) rfl
 obtain ⟨d3,ij,cH⟩:=(au_) W _ _ _ az kf kl
 obtain ⟨ol,dS,a0⟩:=ay.la ij
 obtain rfl:dW=_:=(List.cons.inj a0).1
 exact ⟨⟨d0,d1,d2,d3⟩,⟨dr,cm,ol,dS,rfl,ec,ij⟩,⟨gX,bt,bu,cH⟩⟩
theorem au':ay.gg Tryz.prog enc N 25 (ay.ca I.ik) (fun l=>l.length* 80 <=N/\ ∀ dG ∈ l,Cw N dG):=by
 have h:=ay.n9 (enc:=enc) (N:=N) Tryz.underlying25 SW (by decide) auY
 rw [adK] at h
 exact h
theorem ava:ay.gg Tryz.prog enc N 26 (ay.ca (ay.ca I.hG)) (fun l=>l.length* 24 <=N/\ ∀ dG ∈ l,(dG.length* 40 <=N/\ ∀ h0 ∈ dG,Cx N h0)):=by
 have h:=ay.n9 (enc:=enc) (N:=N) Tryz.underlying26 SU (by decide) (abm)
 rw [adH] at h
 exact h
theorem au6:ay.gg Tryz.prog enc N 120 (ay.ca ay.hF) (fun l=>l.length* 16 <=N/\ ∀ dG ∈ l,dG.length<=N):=by
 have h:=ay.n9 (enc:=enc) (N:=N) Tryz.underlying120 sL (by decide) (ay.ud Tryz.underlying9)
 rw [adP] at h
 exact h
theorem avb:ay.gg Tryz.prog enc N 27 (ay.ca (ay.ca ay.hF)) (fun l=>l.length* 24 <=N/\ ∀ dG ∈ l,(dG.length* 16 <=N/\ ∀ h0 ∈ dG,h0.length<=N)):=by
 have h:=ay.n9 (enc:=enc) (N:=N) Tryz.underlying27 ad' (by decide) (au6)
 rw [adF] at h
 exact h
def FL (N:Nat) (d:I.Target):Prop:=ay.h2 d.ap/\ay.h2 d.Method
theorem au4:ay.gg Tryz.prog enc N 166 I.il (FL N):=by
 intro W n cs x h aP hw
 obtain ⟨e8,au,ag⟩:=ay.lv Tryz.underlying166 h aP hw
 replace au:=au.trans SZ
 obtain ⟨dh,cR,rfl⟩:=ZP au
 obtain ⟨w6,aY,gw,w0⟩:=ay.eO ag 0 rfl rfl rfl kC (r:=[dh]) rfl
 obtain ⟨d0,fE,gX⟩:=(ay.k8 Tryz.underlying3) W _ _ _ aY gw w0
 have dn:[dh]=_:=fE
 obtain rfl:dh=_:=(List.cons.inj dn).1
 obtain ⟨dq,J,dX,gd⟩:=ay.eO ag 1 rfl rfl rfl kC (r:=[cR]) rfl
 obtain ⟨d1,cN,bt⟩:=(ay.k8 Tryz.underlying3) W _ _ _ J dX gd
 have ao:[cR]=_:=cN
 obtain rfl:cR=_:=(List.cons.inj ao).1
 exact ⟨⟨d0,d1⟩,rfl,⟨gX,bt⟩⟩
theorem au7:ay.gg Tryz.prog enc N 121 (ay.ca I.il) (fun l=>l.length* 16 <=N/\ ∀ dG ∈ l,FL N dG):=by
 have h:=ay.n9 (enc:=enc) (N:=N) Tryz.underlying121 SZ (by decide) au4
 rw [adN] at h
 exact h
theorem avc:ay.gg Tryz.prog enc N 28 (ay.ca (ay.ca I.il)) (fun l=>l.length* 24 <=N/\ ∀ dG ∈ l,(dG.length* 16 <=N/\ ∀ h0 ∈ dG,FL N h0)):=by
 have h:=ay.n9 (enc:=enc) (N:=N) Tryz.underlying28 aea (by decide) (au7)
 rw [adG] at h
 exact h
def FJ (N:Nat) (d:I.aH):Prop:=(d.bJ.length* 80 <=N/\ ∀ dG ∈ d.bJ,Cw N dG)/\(d.bB.length* 8 <=N/\ ∀ dG ∈ d.bB,ay.h2 dG)/\(d.Fields.length* 24 <=N/\ ∀ dG ∈ d.Fields,(dG.length* 40 <=N/\ ∀ h0 ∈ dG,Cx N h0))/\(d.Names.length* 24 <=N/\ ∀ dG ∈ d.Names,(dG.length* 16 <=N/\ ∀ h0 ∈ dG,h0.length<=N))/\(d.bC.length* 24 <=N/\ ∀ dG ∈ d.bC,(dG.length* 16 <=N/\ ∀ h0 ∈ dG,FL N h0))
theorem au2:ay.gg Tryz.prog enc N 30 I.awg (FJ N):=by
 intro W n cs x h aP hw
 obtain ⟨e8,au,ag⟩:=ay.lv Tryz.underlying30 h aP hw
 replace au:=au.trans aej
 obtain ⟨dh,cR,di,dW,eJ,rfl⟩:=anX au
 obtain ⟨w6,aY,gw,w0⟩:=ay.eO ag 0 rfl rfl rfl aef (r:=[dh]) rfl
 obtain ⟨d0,fE,gX⟩:=(au') W _ _ _ aY gw w0
 obtain ⟨m9,fA,dn⟩:=ay.la fE
 obtain rfl:dh=_:=(List.cons.inj dn).1
 obtain ⟨dq,J,dX,gd⟩:=ay.eO ag 1 rfl rfl rfl KC (r:=[cR]) rfl
 obtain ⟨d1,cN,bt⟩:=(QA) W _ _ _ J dX gd
 obtain ⟨eV,cJ,ao⟩:=ay.la cN
 obtain rfl:cR=_:=(List.cons.inj ao).1
 obtain ⟨kr,aa,hh,dZ⟩:=ay.eO ag 2 rfl rfl rfl aeg (r:=[di]) rfl
 obtain ⟨d2,ec,bu⟩:=(ava) W _ _ _ aa hh dZ
 obtain ⟨dr,cm,aq⟩:=ay.la ec
 obtain rfl:di=_:=(List.cons.inj aq).1
 obtain ⟨rM,az,kf,kl⟩:=ay.eO ag 3 rfl rfl rfl aeh (r:=[dW]) rfl
 obtain ⟨d3,ij,cH⟩:=(avb) W _ _ _ az kf kl
 obtain ⟨ol,dS,a0⟩:=ay.la ij
 obtain rfl:dW=_:=(List.cons.inj a0).1
 obtain ⟨y3,bp,k4,E9⟩:=ay.eO ag 4 rfl rfl rfl aei (r:=[eJ]) rfl
 obtain ⟨d4,yA,dp⟩:=(avc) W _ _ _ bp k4 E9
 obtain ⟨rP,hq,ch⟩:=ay.la yA
 obtain rfl:eJ=_:=(List.cons.inj ch).1
 exact ⟨⟨d0,d1,d2,d3,d4⟩,⟨m9,fA,eV,cJ,dr,cm,ol,dS,rP,hq,rfl,fE,cN,ec,ij,yA⟩,⟨gX,bt,bu,cH,dp⟩⟩
end
end Go.Proofs.YteeliipnilghaaaGreat
namespace bK
open Go Go.RowKit ay I
inductive aK (El:Nat->Type):Type
 | p (v:Value)
 | b (i o:Nat)
 | x (t:Nat) (d:El t) (o:Nat)
 | s (t:Nat) (l:List (El t))
 | q (t:Nat) (l:List (El t))
 | r (i g:Nat)
 | v (i g:Nat) (lo hi:Int)
 | e (i g k t:Nat) (j:Int) (d:El t) (o:Nat)
 | w (i g o:Nat)
 | m (i:Nat)
 | n (b1 vt:Nat) (d:List (El b1 × El vt))
 | f (fn:Fn) (cs:List (aK El))
 | h (fn:Fn) (us:List (aK El))
 | a (l:List (aK El))
 | u (l:List (aK El))
 | i (t:Nat) (y:aK El)
inductive aI (El:Nat->Type):Type
 | c (ty:Nat) (cs:List (aK El))
 | r (t g k:Nat) (l:List (El t))
 | k (t sz g:Nat) (cs:List (aK El))
 | z (t g k:Nat) (l:List (El t))
 | m (b1 vt:Nat) (d:List (El b1 × El vt))
 | o (OY:Obj)
 | no (g:Nat)
structure hI (cL:Type) where
 dec:DecidableEq cL
 nN: @jg cL dec
structure cb (El:Nat->Type) (t:Nat) where
 ty:c8 (El t)
 agg:Bool
 cs:El t->List (aK El)
 fY:List (aK El)->Option (El t)
 eq:Option (El t->El t->Bool)
 key:Option (hI (El t))
structure b_ where
 El:Nat->Type
 es:List (Σ t,cb El t)
def awe {α:Type}:c8 α where
 size:=0
 rd _ _ _ _:=False
 len h:=h.elim
 one h:=h.elim
 law _ h:=h
def cb.no {El:Nat->Type} {t:Nat}:cb El t:=⟨awe,true,fun _=>[],fun _=>none,none,none⟩
def ff {El:Nat->Type}:List (Σ t,cb El t)->(t:Nat)->cb El t
 | [],_=>cb.no
 | e::r,t=>match Nat.decEq e.1 t with
   | isTrue h=>h ▸ e.2
   | isFalse _=>ff r t
def b_.e (T:b_) (t:Nat):cb T.El t:=ff T.es t
def b_.ty (T:b_) (t:Nat):c8 (T.El t):=(T.e t).ty
def cd {El:Nat->Type}:Option (aI El)->Nat
 | some (.r _ g _ _)=>g
 | some (.k _ _ g _)=>g
 | some (.z _ g _ _)=>g
 | some (.no g)=>g
 | _=>0
def fF {El:Nat->Type}:Option (aI El)->Nat
 | some (.r _ _ k _)=>k
 | some (.z _ _ k _)=>k
 | _=>0
def oa {El:Nat->Type}:Option (aI El)->Option (Σ t,List (El t))
 | some (.r t _ _ l)=>some ⟨t,l⟩
 | some (.z t _ _ l)=>some ⟨t,l⟩
 | _=>none
def hC (T:b_):Option (aI T.El)->Nat
 | some (.r t _ _ _)=>(T.ty t).size
 | some (.k _ sz _ _)=>sz
 | some (.z t _ _ _)=>(T.ty t).size
 | _=>0
def kZ:Value->Prop
 | .slice _ _ _=>True
 | _=>False
def tg:Value->Prop
 | .pointer (some _)=>True
 | _=>False
def tZ (agg:Bool) (xs:List Value):Value:=match agg with
 | true=>.agg ⟨xs⟩
 | false=>xs.headD undef
section
variable (T:b_) (F:Nat->Prop) (w:World)
def u5 (t:Nat) (d:T.El t) (v:Value):Prop:=∃ xs,(T.ty t).rd F w xs d/\v=tZ (T.e t).agg xs
def iu {b1 vt:Nat} (K:hI (T.El b1)):List MapEntry->List (T.El b1 × T.El vt)->Prop
 | [],[]=>True
 | e::es,p::d=>e.key= @jg.enc _ K.dec K.nN p.1 /\u5 T F w vt p.2 e.val/\iu K es d
 | _,_=>False
def rY (b1 vt r:Nat) (d:List (T.El b1 × T.El vt)):Prop:=∃ K,(T.e b1).key=some K/\ ∃ es clock,w.heap[r]? =some (.map es clock)/\iu T F w K es.toList d/\(es.toList.map (·.born)).Pairwise (· < ·)/\ ∀ e ∈ es.toList,e.born <clock
end
section
variable {T:b_} {F F':Nat->Prop} {w w':World}
theorem iu.law (aR:∀ k,F k->F' k/\w'.heap[k]? =w.heap[k]?) {b1 vt:Nat} {K:hI (T.El b1)}:∀ {es:List MapEntry} {d:List (T.El b1 × T.El vt)},iu T F w K es d->iu T F' w' K es d
 | [],[],_=>trivial
 | [],_::_,h=>h.elim
 | _::_,[],h=>h.elim
 | e::es,p::d,h=>by
   obtain ⟨J,⟨xs,aa,az⟩,bp⟩:=h
   exact ⟨J,⟨xs,(T.ty vt).law aR aa,az⟩,iu.law aR bp⟩
theorem rY.law (aR:∀ k,F k->F' k/\w'.heap[k]? =w.heap[k]?) {b1 vt r:Nat} {d:List (T.El b1 × T.El vt)} (ar:w'.heap[r]? =w.heap[r]?) (h:rY T F w b1 vt r d):rY T F' w' b1 vt r d:=by
 obtain ⟨K,J,es,fL,aa,az,bp⟩:=h
 exact ⟨K,J,es,fL,ar.trans aa,az.law aR,bp⟩
end
section
variable (T:b_) (F:Nat->Prop) (w:World) (ρ:List Value) (bl:List (aI T.El))
mutual
def aB:aK T.El->Value->Prop
 | .p u,v=>v=u
 | .b i o,v=>∃ g,ρ[i]? =some (.pointer (some ⟨g,0,none⟩))/\v= .pointer (some ⟨g,o,none⟩)
 | .x t d o,v=>∃ a q cs,v= .pointer (some ⟨a,q+o,none⟩)/\F a/\(T.ty t).rd F w cs d/\eW w ⟨a,q,none⟩ cs
 | .s t l,v=>(ca (T.ty t)).rd F w [v] l
 | .q t l,v=>(ca (T.ty t)).rd F w [v] l/\ ∃ A,v= .slice A l.length l.length
 | .r i g,v=>kZ v/\ ∃ h,ρ[i]? =some h/\g<=cd bl[i]? /\(g=cd bl[i]? ->v=h)
 | .v i g lo hi,v=>kZ v/\ ∃ h,ρ[i]? =some h/\g<=cd bl[i]? /\(g=cd bl[i]? -> ∃ A n c B,h= .slice A n c/\ 0 <=lo/\lo<=hi/\hi<=n/\v= .slice B (hi.toNat - lo.toNat) (c - lo.toNat)/\(lo= 0 ->B=A)/\(lo <hi->B=A.map (·.add (lo.toNat*hC T bl[i]?))))
 | .e i g k t j d o,v=>tg v/\ ∃ h,ρ[i]? =some h/\g<=cd bl[i]? /\(g=cd bl[i]? ->(∃ A n c,h= .slice A n c/\ 0 <=j/\j <n/\v= .pointer (some ⟨dO A,j.toNat*hC T bl[i]? +o,none⟩))/\k<=fF bl[i]? /\(k=fF bl[i]? -> ∃ l,oa bl[i]? =some ⟨t,l⟩/\idx l j=some d))
 | .w i g o,v=>tg v/\ ∃ h,ρ[i]? =some h/\g<=cd bl[i]? /\(g=cd bl[i]? -> ∃ A n c,h= .slice A n c/\ 0 <n/\v= .pointer (some ⟨dO A,o,none⟩))
 | .m i,v=>∃ r,ρ[i]? =some (.map (some r))/\v= .map (some r)
 | .n b1 vt d,v=>∃ r,v= .map (some r)/\F r/\rY T F w b1 vt r d
 | .f fn cs,v=>∃ vs,v= .func fn #[] ⟨vs⟩/\bc cs vs
 | .h fn us,v=>∃ vs,v= .func fn ⟨vs⟩ #[]/\bc us vs
 | .a l,v=>∃ vs,v= .agg ⟨vs⟩/\bc l vs
 | .u l,v=>∃ vs,v= .tuple ⟨vs⟩/\bc l vs
 | .i t y,v=>∃ u,v= .iface t u/\aB y u
def bc:List (aK T.El)->List Value->Prop
 | [],vs=>vs= []
 | y::r,vs=>∃ u us,vs=u::us/\aB y u/\bc r us
end
end
structure lm (T:b_) (ρ ρ':List Value) (bl bl':List (aI T.El)):Prop where
 at_:∀ (i:Nat) (h:Value),ρ[i]? =some h-> ∃ h',ρ'[i]? =some h'/\(¬ kZ h->h'=h)/\cd bl[i]? <=cd bl'[i]? /\(cd bl'[i]? =cd bl[i]? ->h'=h/\hC T bl'[i]? =hC T bl[i]? /\fF bl[i]? <=fF bl'[i]? /\(fF bl'[i]? =fF bl[i]? ->oa bl'[i]? =oa bl[i]?))
theorem lm.refl {T:b_} {ρ:List Value} {bl:List (aI T.El)}:lm T ρ ρ bl bl:=⟨fun i h hi=>⟨h,hi,fun _=>rfl,Nat.le_refl _,fun _=>⟨rfl,rfl,Nat.le_refl _,fun _=>rfl⟩⟩⟩
theorem lm.trans {T:b_} {ρ ρ' y8:List Value} {bl bl' p8:List (aI T.El)} (h:lm T ρ ρ' bl bl') (k:lm T ρ' y8 bl' p8):lm T ρ y8 bl p8:=⟨fun i v hi=>by
 obtain ⟨eT,J,aa,az,bp⟩:=h.at_ i v hi
 obtain ⟨awk,bt,bu,cH,dp⟩:=k.at_ i eT J
 refine ⟨awk,bt,fun ar=>?_,Nat.le_trans az cH,fun e=>?_⟩
 · have ao:=aa ar
   rw [bu (by rw [ao];exact ar),ao]
 · have ao:cd bl'[i]? =cd bl[i]? :=by omega
   have aq:cd p8[i]? =cd bl'[i]? :=by omega
   refine ⟨(dp aq).1.trans (bp ao).1,(dp aq).2.1.trans (bp ao).2.1,Nat.le_trans (bp ao).2.2.1 (dp aq).2.2.1,fun a0=>?_⟩
   have cR:=(bp ao).2.2.1
   have di:=(dp aq).2.2.1
   exact ((dp aq).2.2.2 (by omega)).trans ((bp ao).2.2.2 (by omega))⟩
section
variable {T:b_} {F F':Nat->Prop} {w w':World} {ρ ρ':List Value} {bl bl':List (aI T.El)}
mutual
theorem aB.later (aR:∀ k,F k->F' k/\w'.heap[k]? =w.heap[k]?) (au:lm T ρ ρ' bl bl'):∀ (y:aK T.El) {v:Value},aB T F w ρ bl y v->aB T F' w' ρ' bl' y v
 | .p _,_,h=>by simpa only [aB] using h
 | .b i o,v,h=>by
   simp only [aB] at h ⊢
   obtain ⟨g,J,aa⟩:=h
   obtain ⟨h',bt,bu,_⟩:=au.at_ i _ J
   exact ⟨g,by rw [bt,bu (by simp [kZ])],aa⟩
 | .x t d o,v,h=>by
   simp only [aB] at h ⊢
   obtain ⟨a,q,cs,J,aa,az,bp⟩:=h
   exact ⟨a,q,cs,J,(aR a aa).1,(T.ty t).law aR az,bp.law (aR a aa).2⟩
 | .s t l,v,h=>by
   simp only [aB] at h ⊢
   exact (ca (T.ty t)).law aR h
 | .q t l,v,h=>by
   simp only [aB] at h ⊢
   exact ⟨(ca (T.ty t)).law aR h.1,h.2⟩
 | .r i g,v,h=>by
   simp only [aB] at h ⊢
   obtain ⟨aY,u,J,aa,az⟩:=h
   obtain ⟨oh,bt,_,cH,dp⟩:=au.at_ i _ J
   refine ⟨aY,oh,bt,Nat.le_trans aa cH,fun e=>?_⟩
   have ao:cd bl'[i]? =cd bl[i]? :=by omega
   rw [(dp ao).1];exact az (by omega)
 | .v i g lo hi,v,h=>by
   simp only [aB] at h ⊢
   obtain ⟨aY,u,J,aa,az⟩:=h
   obtain ⟨oh,bt,_,cH,dp⟩:=au.at_ i _ J
   refine ⟨aY,oh,bt,Nat.le_trans aa cH,fun e=>?_⟩
   have ao:cd bl'[i]? =cd bl[i]? :=by omega
   rw [(dp ao).1,(dp ao).2.1];exact az (by omega)
 | .e i g k t j d o,v,h=>by
   simp only [aB] at h ⊢
   obtain ⟨aY,u,J,aa,az⟩:=h
   obtain ⟨oh,bt,_,cH,dp⟩:=au.at_ i _ J
   refine ⟨aY,oh,bt,Nat.le_trans aa cH,fun e=>?_⟩
   have ao:cd bl'[i]? =cd bl[i]? :=by omega
   obtain ⟨bx,b6,b',gQ⟩:=dp ao
   obtain ⟨cN,ec,ij⟩:=az (by omega)
   rw [bx,b6]
   refine ⟨cN,Nat.le_trans ec b',fun e=>?_⟩
   rw [gQ (by omega)];exact ij (by omega)
 | .w i g o,v,h=>by
   simp only [aB] at h ⊢
   obtain ⟨aY,u,J,aa,az⟩:=h
   obtain ⟨oh,bt,_,cH,dp⟩:=au.at_ i _ J
   refine ⟨aY,oh,bt,Nat.le_trans aa cH,fun e=>?_⟩
   have ao:cd bl'[i]? =cd bl[i]? :=by omega
   rw [(dp ao).1];exact az (by omega)
 | .m i,v,h=>by
   simp only [aB] at h ⊢
   obtain ⟨g,J,aa⟩:=h
   obtain ⟨h',bt,bu,_⟩:=au.at_ i _ J
   exact ⟨g,by rw [bt,bu (by simp [kZ])],aa⟩
 | .n b1 vt d,v,h=>by
   simp only [aB] at h ⊢
   obtain ⟨r,J,aa,az⟩:=h
   exact ⟨r,J,(aR r aa).1,az.law aR (aR r aa).2⟩
 | .f fn cs,v,h=>by
   simp only [aB] at h ⊢
   obtain ⟨vs,J,aa⟩:=h
   exact ⟨vs,J,bc.later aR au cs aa⟩
 | .h fn us,v,h=>by
   simp only [aB] at h ⊢
   obtain ⟨vs,J,aa⟩:=h
   exact ⟨vs,J,bc.later aR au us aa⟩
 | .a l,v,h=>by
   simp only [aB] at h ⊢
   obtain ⟨vs,J,aa⟩:=h
   exact ⟨vs,J,bc.later aR au l aa⟩
 | .u l,v,h=>by
   simp only [aB] at h ⊢
   obtain ⟨vs,J,aa⟩:=h
   exact ⟨vs,J,bc.later aR au l aa⟩
 | .i t y,v,h=>by
   simp only [aB] at h ⊢
   obtain ⟨u,J,aa⟩:=h
   exact ⟨u,J,aB.later aR au y aa⟩
theorem bc.later (aR:∀ k,F k->F' k/\w'.heap[k]? =w.heap[k]?) (au:lm T ρ ρ' bl bl'):∀ (l:List (aK T.El)) {vs:List Value},bc T F w ρ bl l vs->bc T F' w' ρ' bl' l vs
 | [],_,h=>by simpa only [bc] using h
 | y::r,vs,h=>by
   simp only [bc] at h ⊢
   obtain ⟨u,us,J,aa,az⟩:=h
   exact ⟨u,us,J,aB.later aR au y aa,bc.later aR au r az⟩
end
theorem bc.len:∀ {l:List (aK T.El)} {vs:List Value},bc T F w ρ bl l vs->vs.length=l.length
 | [],_,h=>by simp only [bc] at h;subst h;rfl
 | y::r,vs,h=>by
   simp only [bc] at h
   obtain ⟨u,us,rfl,_,az⟩:=h
   simp [bc.len az]
theorem bc.at_:∀ {l:List (aK T.El)} {vs:List Value} {i:Nat} {y:aK T.El},bc T F w ρ bl l vs->l[i]? =some y-> ∃ v,vs[i]? =some v/\aB T F w ρ bl y v
 | [],_,i,y,_,hi=>by simp at hi
 | z::r,vs,0,y,h,hi=>by
   simp only [bc] at h
   obtain ⟨u,us,rfl,aa,_⟩:=h
   simp only [List.getElem?_cons_zero,Option.some.injEq] at hi
   subst hi
   exact ⟨u,rfl,aa⟩
 | z::r,vs,i+ 1,y,h,hi=>by
   simp only [bc] at h
   obtain ⟨u,us,rfl,_,az⟩:=h
   simpa using bc.at_ az (by simpa using hi)
theorem bc.cq:∀ {l l':List (aK T.El)} {vs yZ:List Value},bc T F w ρ bl l vs->bc T F w ρ bl l' yZ->bc T F w ρ bl (l++l') (vs++yZ)
 | [],_,_,_,h,h'=>by simp only [bc] at h;subst h;exact h'
 | y::r,l',vs,yZ,h,h'=>by
   simp only [bc] at h
   obtain ⟨u,us,rfl,aa,az⟩:=h
   simp only [List.cons_append,bc]
   exact ⟨u,us++yZ,rfl,aa,bc.cq az h'⟩
theorem bc.drop:∀ {l:List (aK T.El)} {vs:List Value} (n:Nat),bc T F w ρ bl l vs->bc T F w ρ bl (l.drop n) (vs.drop n)
 | l,vs,0,h=>by simpa using h
 | [],vs,n+ 1,h=>by simp only [bc] at h;subst h;simp [bc]
 | y::r,vs,n+ 1,h=>by
   simp only [bc] at h
   obtain ⟨u,us,rfl,aa,az⟩:=h
   simpa using bc.drop n az
theorem bc.take:∀ {l:List (aK T.El)} {vs:List Value} (n:Nat),bc T F w ρ bl l vs->bc T F w ρ bl (l.take n) (vs.take n)
 | l,vs,0,h=>by simp [bc]
 | [],vs,n+ 1,h=>by simp only [bc] at h;subst h;simp [bc]
 | y::r,vs,n+ 1,h=>by
   simp only [bc] at h
   obtain ⟨u,us,rfl,aa,az⟩:=h
   simp only [List.take_succ_cons,bc]
   exact ⟨u,us.take n,rfl,aa,bc.take n az⟩
end
end bK
