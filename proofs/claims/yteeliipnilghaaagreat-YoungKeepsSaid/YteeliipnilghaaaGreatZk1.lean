/- Part 1 of the proof that is ended in the last text: small logic, what the functions compute, walks, plain laws. -/
import Derived.WalkKit
import Derived.Deep.LoopGhost
import Derived.Deep.Quiet
import Derived.Maps.AppendAt
import Derived.KernelRfl
import Derived.Deep.RegionHeld3
import Derived.Laws.StructEq
import Derived.Carry
import Derived.ChangeSame
import Derived.OpenShut
import Derived.Deep.Slices
import Derived.Deep.Fields
import Derived.ChangeMaps5
import Derived.Lib.LaidTab
import Derived.OrdersHeld
import Derived.MapKept
import Derived.Laws.OwnMore
import Derived.Laws.IdiomStrings
import Derived.RangeFuncRecord
import Derived.RangeFuncSeq
import Derived.RangeFuncIn
import Derived.RangeFuncLeaves
import Derived.OrdersIn
import Derived.TacticsIn
import Derived.Deep.OwnRows
import Derived.Lib.AppendZeros
import Derived.ArgAppend
import Derived.Test.YteeliipnilghaaaGreatChecked
namespace J
def aE (n:Int):Int:=(n+ 9223372036854775808) % 18446744073709551616 - 9223372036854775808
def CP (n:Int):Int:=n % 18446744073709551616
def RB (a b:Int):Int:=aE ((BitVec.ofInt 64 a ||| BitVec.ofInt 64 b).toNat:Int)
def MA (a b:Int):Int:=aE ((BitVec.ofInt 64 a &&& BitVec.ofInt 64 b).toNat:Int)
def tS (a:Int) (n:Nat):Int:=a / 2 ^ n
def kn (n:Int):UInt8:=UInt8.ofNat (n % 256).toNat
def idx {α:Type} (l:List α) (i:Int):Option α:=if 0 <=i then l[i.toNat]? else none
def tL (b:Bool):Option Unit:=if b then some () else none
def bO {α:Type} (bytes:Nat) (l m:List α):Option (List α):=if (l.length+m.length)*bytes<= 140737488355328 then some (l++m) else none
def bytesOf (s:List UInt8):Option (List UInt8):=if s.length<= 140737488355328 then some s else none
def Fk {α:Type} (z:α) (bytes:Nat) (n:Int):Option (List α):=if 0 <=n/\bytes*n.toNat<= 140737488355328 then some (List.replicate n.toNat z) else none
def DC {α:Type} (z:α) (bytes:Nat) (n:Int):Option (List α):=if 0 <n/\bytes*n.toNat<= 140737488355328 then some (List.replicate n.toNat z) else none
def cut {α:Type} (l:List α) (i j:Int):Option (List α):=if 0 <=i/\i<=j/\j<=l.length then some ((l.take j.toNat).drop i.toNat) else none
theorem MS {α:Type} {b:Bool} {x y:Option α} {r:α} (ah:b=true) (h:cond b x y=some r):x=some r:=by subst ah;exact h
theorem MR {α:Type} {b:Bool} {x y:Option α} {r:α} (ah:b=false) (h:cond b x y=some r):y=some r:=by subst ah;exact h
theorem fZ {α β:Type} {o:Option α} {f:α->Option β} {r:β} (h:o.bind f=some r):∃ x,o=some x/\f x=some r:=by
 cases o with
 | none=>cases h
 | some x=>exact ⟨x,rfl,h⟩
theorem j0 {α:Type} {l:List α} {i:Int} {d:α} (h:idx l i=some d):0 <=i/\i.toNat <l.length/\l[i.toNat]? =some d:=by
 unfold idx at h
 split at h
 · rename_i aP
   exact ⟨aP,(List.getElem?_eq_some_iff.1 h).1,h⟩
 · cases h
theorem Hz {α:Type} {bytes:Nat} {l m r:List α} (h:bO bytes l m=some r):(l.length+m.length)*bytes<= 140737488355328 /\r=l++m:=by
 unfold bO at h
 split at h
 · rename_i aP;exact ⟨aP,by simpa using h.symm⟩
 · cases h
theorem aui {α:Type} {z:α} {bytes:Nat} {n:Int} {r:List α} (h:Fk z bytes n=some r):0 <=n/\bytes*n.toNat<= 140737488355328 /\r=List.replicate n.toNat z:=by
 unfold Fk at h
 split at h
 · rename_i aP;exact ⟨aP.1,aP.2,by simpa using h.symm⟩
 · cases h
theorem alX {α:Type} {z:α} {bytes:Nat} {n:Int} {r:List α} (h:DC z bytes n=some r):0 <n/\bytes*n.toNat<= 140737488355328 /\r=List.replicate n.toNat z:=by
 unfold DC at h
 split at h
 · rename_i aP;exact ⟨aP.1,aP.2,by simpa using h.symm⟩
 · cases h
theorem Rn {b:Bool} {u:Unit} (h:tL b=some u):b=true:=by
 unfold tL at h
 split at h
 · assumption
 · cases h
theorem alZ (n:Int):((kn n).toNat:Int)=n % 256 :=by
 unfold kn
 have aP:0 <=n % 256 :=Int.emod_nonneg _ (by omega)
 have I:n % 256 < 256 :=Int.emod_lt_of_pos _ (by omega)
 simp only [UInt8.toNat_ofNat']
 omega
end J
namespace J
def join {cJ α:Type} (k:cJ) (b:cJ->Option α):Option α:=b k
end J
namespace J
section
variable {cJ β:Type} [DecidableEq cJ]
def dz:List (cJ × β)->cJ->Option β
 | [],_=>none
 | p::r,k=>if p.1 =k then some p.2 else dz r k
def hD:List (cJ × β)->cJ->β->List (cJ × β)
 | [],k,v=>[(k,v)]
 | p::r,k,v=>if p.1 =k then (k,v)::r else p::hD r k v
def nj:List (cJ × β)->cJ->Option Nat
 | [],_=>none
 | p::r,k=>if p.1 =k then some 0 else (nj r k).map (· + 1)
end
end J
namespace J
inductive Way (ρ α:Type)
 | go (a:α)
 | out (r:ρ)
def cj {ρ α:Type} (x:Option (Way ρ α)) (k:α->Option ρ):Option ρ:=match x with
 | none=>none
 | some (.go a)=>k a
 | some (.out r)=>some r
def cW {ρ α β:Type} (x:Option (Way ρ α)) (k:α->Option (Way ρ β)):Option (Way ρ β):=match x with
 | none=>none
 | some (.go a)=>k a
 | some (.out r)=>some (.out r)
def WU {ρ α:Type} (k:α->Option ρ):Way ρ α->Option ρ
 | .go a=>k a
 | .out r=>some r
theorem ayO {ρ α:Type} {x:Option (Way ρ α)} {k:α->Option ρ} {r:ρ} (h:cj x k=some r):∃ y,x=some y/\WU k y=some r:=by
 cases x with
 | none=>cases h
 | some y=>cases y <;> exact ⟨_,rfl,h⟩
@[simp] theorem oN {ρ α:Type} (a:α) (k:α->Option ρ):cj (some (.go a)) k=k a:=rfl
@[simp] theorem ac3 {ρ α:Type} (r:ρ) (k:α->Option ρ):cj (some (.out r)) k=some r:=rfl
@[simp] theorem mx {ρ α β:Type} (a:α) (k:α->Option (Way ρ β)):cW (some (.go a)) k=k a:=rfl
@[simp] theorem aEz {ρ α β:Type} (r:ρ) (k:α->Option (Way ρ β)):cW (some (.out r)) k=some (.out r):=rfl
end J
namespace J
end J
namespace ax
open Go Go.RowKit
def ez:List (Nat × Value)->Nat->Option Value
 | [],_=>none
 | p::r,t=>match Nat.beq p.1 t with
   | true=>some p.2
   | false=>ez r t
structure cN where
 n:Nat
 ds:List Deferred
instance:Coe cN Nat:=⟨cN.n⟩
structure Fr (n:cN) (l:List (Nat × Value)) (a:Act):Prop where
 size:a.tmps.size=n.n
 defers:a.defers=n.ds
 get:∀ t v,ez l t=some v->a.tmps.getD t undef=v
theorem Fr.g {n:cN} {l:List (Nat × Value)} {a:Act} {t:Nat} {v:Value} (ag:Fr n l a) (h:ez l t=some v):a.eval (.tmp t)=v:=ag.get t v h
theorem Fr.put {n:cN} {d:Nat} {l:List (Nat × Value)} {a:Act} {v:Value} (ag:Fr n l a) (aN:Nat.blt d n=true):Fr n ((d,v)::l) (a.put (some d) v):=by
 have bx:d <n:=Nat.le_of_ble_eq_true aN
 refine ⟨by simpa [Act.put] using ag.size,ag.defers,fun t u h=>?_⟩
 have ao:=ag.size
 simp only [ez] at h
 cases ah:Nat.beq d t with
 | true=>
   rw [ah] at h
   simp only [Option.some.injEq] at h
   have e:d=t:=Nat.eq_of_beq_eq_true ah
   subst e;subst h
   simp [Act.put,ao,bx]
 | false=>
   rw [ah] at h
   have e:d≠t:=by intro e;subst e;simp at ah
   have:=ag.get t u h
   simp only [Act.put,Array.getD_eq_getD_getElem?] at this ⊢
   rw [Array.getElem?_setIfInBounds,if_neg e]
   exact this
def Gn (l:List (Nat × Value)):List (Nat × Value)->Prop
 | []=>True
 | p::r=>ez l p.1 =some p.2 /\Gn l r
theorem atZ {l l':List (Nat × Value)} (h:Gn l l'):∀ t v,ez l' t=some v->ez l t=some v:=by
 induction l' with
 | nil=>intro t v aM;simp [ez] at aM
 | cons p r bi=>
   intro t v aM
   simp only [ez] at aM
   cases ah:Nat.beq p.1 t with
   | true=>
     rw [ah] at aM
     have e:p.1 =t:=Nat.eq_of_beq_eq_true ah
     simp only [Option.some.injEq] at aM
     rw [<-e,<-aM];exact h.1
   | false=>rw [ah] at aM;exact bi h.2 t v aM
theorem Fr.sub {n:cN} {l l':List (Nat × Value)} {a:Act} (ag:Fr n l a) (h:Gn l l'):Fr n l' a:=
 ⟨ag.size,ag.defers,fun t v aM=>ag.get t v (atZ h t v aM)⟩
def qI:Nat->List Value->List (Nat × Value)
 | _,[]=>[]
 | k,v::r=>(k,v)::qI (k+ 1) r
theorem atY (vs:List Value):∀ k t v,ez (qI k vs) t=some v->k<=t/\vs[t - k]? =some v:=by
 induction vs with
 | nil=>intro k t v h;simp [qI,ez] at h
 | cons u r bi=>
   intro k t v h
   simp only [qI,ez] at h
   cases ah:Nat.beq k t with
   | true=>
     rw [ah] at h
     have e:k=t:=Nat.eq_of_beq_eq_true ah
     subst e
     simpa using h
   | false=>
     rw [ah] at h
     have e:k≠t:=by intro e;subst e;simp at ah
     obtain ⟨I,aa⟩:=bi (k+ 1) t v h
     refine ⟨by omega,?_⟩
     have:t - k=(t - (k+ 1))+ 1 :=by omega
     rw [this];simpa using aa
theorem Fr.init (vs:List Value) (n:Nat) (h:Nat.ble vs.length n=true):Fr ⟨n,[]⟩ (qI 0 vs) { tmps:=vs.toArray++Array.replicate (n - vs.toArray.size) undef,defers:=[] }:=by
 have hle:vs.length<=n:=by simpa using h
 refine ⟨by simp;omega,rfl,fun t v aM=>?_⟩
 obtain ⟨_,aa⟩:=atY vs 0 t v aM
 have bx:t <vs.length:=by
  rcases Nat.lt_or_ge t vs.length with h | h
  · exact h
  · rw [List.getElem?_eq_none (by simpa using h)] at aa;cases aa
 have au:vs[t]? =some v:=by simpa using aa
 rw [Array.getD_eq_getD_getElem?]
 rw [List.getElem?_eq_getElem bx,Option.some.injEq] at au
 simp [Array.getElem?_append,bx,au]
theorem enter {P:Program} {f:FuncId} {fn:Func} {c:Code} {vs:List Value} {w:World} {R:Ending->World->Prop} {n:Nat}
 (ag:P.funcs[f]? =some fn) (ah:fn.body=some c) (aF:fn.ntmps=n) (ap:Nat.ble vs.length n=true)
 (h:∀ a,Fr ⟨n,[]⟩ (qI 0 vs) a->c.wp P (bodyPost P fn R) a w):Calls P f vs.toArray w R:=by
 refine calls_of_wp ag ah ?_
 rw [aF]
 exact h _ (Fr.init vs n ap)
structure br (M:List Nat) (w w':World):Prop where
 os:w'.os=w.os
 tape:w'.tape=w.tape
 output:w'.output=w.output
 size:w.heap.size<=w'.heap.size
 block:∀ k,k <w.heap.size->k ∉ M->w'.heap[k]? =w.heap[k]?
theorem br.refl (M:List Nat) (w:World):br M w w:=⟨rfl,rfl,rfl,Nat.le_refl _,fun _ _ _=>rfl⟩
theorem br.trans {M iN:List Nat} {a b c:World} (h:br M a b) (k:br iN b c) (hm:∀ x ∈ iN,x ∈ M\/a.heap.size<=x):br M a c:=
 ⟨k.os.trans h.os,k.tape.trans h.tape,k.output.trans h.output,Nat.le_trans h.size k.size,fun i hi aF=>
   (k.block i (Nat.lt_of_lt_of_le hi h.size) (fun ad=>by rcases hm i ad with e | e;exact aF e;omega)).trans (h.block i hi aF)⟩
theorem br.drew (M:List Nat) (w:World):br M w w.drew:=⟨rfl,rfl,rfl,Nat.le_refl _,fun _ _ _=>rfl⟩
theorem br.alloc (M:List Nat) (w:World) (o:Obj):br M w (w.alloc o):=⟨rfl,rfl,rfl,by simp,fun k ai _=>Below.heap_alloc _ _ _ ai⟩
theorem br.set (w:World) (a:Addr) (u:Value):br [a.block] w (w.setCell a u):=
 ⟨rfl,rfl,rfl,by simp [World.setCell],fun k _ aF=>Below.heap_setCell _ _ _ _ (by simpa using aF)⟩
theorem br.mono {M iN:List Nat} {a b:World} (h:br M a b) (hm:∀ x ∈ M,x ∈ iN):br iN a b:=⟨h.os,h.tape,h.output,h.size,fun k ai aF=>h.block k ai (fun ad=>aF (hm k ad))⟩
theorem br.grown {w w':World} {row:Option Nat} (h:w.grownBy w' row):br row.toList w w':=
 ⟨h.os,h.tape,h.output,h.size,fun k ai aF=>h.block k ai (fun e=>aF (by rw [<-e];simp))⟩
theorem br.below {w w':World} (h:br [] w w'):Below w.heap.size w w':=⟨h.os,h.tape,h.output,h.size,fun k ai=>h.block k ai (by simp)⟩
structure a7 where
 bA:List Nat
 ok:World->Prop
 law:∀ w w',(∀ k ∈ bA,w'.heap[k]? =w.heap[k]?)->ok w->ok w'
structure bw where
 ok:List Nat->World->Prop
 law:∀ M iN w w',br M w w'->(∀ k ∈ iN,k ∈ M\/w.heap.size<=k)->ok M w->ok iN w'
def b7 (E:List a7):List Nat:=E.flatMap a7.bA
structure bq (W:World) (M0 X:List Nat) (w:World) (E:List a7) (D:List bw):Prop where
 b_:br M0 W w
 hC:∀ k ∈ X,k <W.heap.size/\k ∉ M0
 lt:∀ k ∈ b7 E,k <w.heap.size/\(k ∈ M0\/W.heap.size<=k)
 ok:∀ x ∈ E,x.ok w
 bu:(b7 E).Nodup
 rd:∀ y ∈ D,y.ok (X++b7 E) w
section
variable {W w w':World} {M0 X:List Nat} {E:List a7} {D:List bw}
theorem bq.start (M0 X:List Nat) (w:World) (E:List a7) (D:List bw) (O5:∀ k ∈ X,k <w.heap.size/\k ∉ M0) (bx:∀ k ∈ b7 E,k <w.heap.size/\k ∈ M0) (pC:∀ x ∈ E,x.ok w) (qZ:(b7 E).Nodup) (gP:∀ y ∈ D,y.ok (X++b7 E) w) :
 bq w M0 X w E D:=⟨br.refl _ _,O5,fun k ai=>⟨(bx k ai).1,.inl (bx k ai).2⟩,pC,qZ,gP⟩
theorem bq.fg (h:bq W M0 X w E D) (af:br [] w w'):bq W M0 X w' E D:=
 ⟨h.b_.trans af (by simp),h.hC,fun k ai=>⟨Nat.lt_of_lt_of_le (h.lt k ai).1 af.size,(h.lt k ai).2⟩,
  fun x ad=>x.law w w' (fun k ai=>af.block k (h.lt k (List.mem_flatMap.2 ⟨x,ad,ai⟩)).1 (by simp)) (h.ok x ad),h.bu,
  fun y hy=>y.law (X++b7 E) _ w w' (af.mono (by simp)) (fun k ai=>.inl ai) (h.rd y hy)⟩
theorem bq.drew (h:bq W M0 X w E D):bq W M0 X w.drew E D:=h.fg (br.drew _ _)
theorem bq.push (h:bq W M0 X w E D) (x:a7) (af:br [] w w') (ad:x.ok w') (ag:∀ k ∈ x.bA,w.heap.size<=k/\k <w'.heap.size) (aF:x.bA.Nodup):bq W M0 X w' (x::E) D:=by
 have I:=h.fg af
 refine ⟨I.b_,h.hC,fun k ai=>?_,fun y hy=>?_,?_,fun y hy=>?_⟩
 · rcases List.mem_append.1 (by simpa [b7] using ai:k ∈ x.bA++b7 E) with e | e
   · exact ⟨(ag k e).2,.inr (Nat.le_trans h.b_.size (ag k e).1)⟩
   · exact I.lt k e
 · rcases List.mem_cons.1 hy with rfl | e
   · exact ad
   · exact I.ok y e
 · have:b7 (x::E)=x.bA++b7 E:=by simp [b7]
   rw [this,List.nodup_append]
   refine ⟨aF,h.bu,fun a aD b ah e=>?_⟩
   subst e
   have:=(ag a aD).1
   have:=(h.lt a ah).1
   omega
 · refine y.law (X++b7 E) _ w w' (af.mono (by simp)) (fun k ai=>?_) (h.rd y hy)
   have cQ:k ∈ X++(x.bA++b7 E):=by simpa [b7] using ai
   simp only [List.mem_append] at cQ
   rcases cQ with e | e | e
   · exact .inl (by simp [e])
   · exact .inr (ag k e).1
   · exact .inl (by simp [e])
theorem bq.drop (h:bq W M0 X w E D) {kh:List a7} (ao:List.Sublist kh E):bq W M0 X w kh D:=by
 have ag:List.Sublist (b7 kh) (b7 E):=by
  unfold b7
  clear h
  induction ao with
  | slnil=>simp
  | cons a _ bi=>simpa using bi.trans (List.sublist_append_right _ _)
  | cons_cons a _ bi=>simpa using List.Sublist.append_left bi a.bA
 exact ⟨h.b_,h.hC,fun k ai=>h.lt k (ag.subset ai),fun x ad=>h.ok x (ao.subset ad),h.bu.sublist ag,
  fun y hy=>y.law (X++b7 E) _ w w (br.refl _ _) (fun k ai=>.inl (by rcases List.mem_append.1 ai with e | e;exact List.mem_append.2 (.inl e);exact List.mem_append.2 (.inr (ag.subset e)))) (h.rd y hy)⟩
theorem bq.eb (h:bq W M0 X w E D) {A B:List a7} {x nG:a7} (a5:E=A++x::B) (af:br x.bA w w') (ad:nG.ok w') (aF:nG.bA.Nodup)
 (ag:∀ k ∈ nG.bA,k ∈ x.bA\/(w.heap.size<=k/\k <w'.heap.size)):bq W M0 X w' (A++nG::B) D:=by
 subst a5
 have ak:b7 (A++x::B)=b7 A++(x.bA++b7 B):=by simp [b7]
 have al:b7 (A++nG::B)=b7 A++(nG.bA++b7 B):=by simp [b7]
 have qZ:=h.bu
 rw [ak,List.nodup_append,List.nodup_append] at qZ
 obtain ⟨am4,⟨aDY,am5,Xg⟩,MW⟩:=qZ
 have oh:∀ k ∈ x.bA,k <w.heap.size/\(k ∈ M0\/W.heap.size<=k):=fun k ai=>h.lt k (by rw [ak];simp [ai])
 refine ⟨h.b_.trans af (fun k ai=>(oh k ai).2),h.hC,fun k ai=>?_,fun y hy=>?_,?_,fun y hy=>?_⟩
 · rw [al] at ai
   simp only [List.mem_append] at ai
   rcases ai with ai | ai | ai
   · have:=h.lt k (by rw [ak];simp [ai]);exact ⟨Nat.lt_of_lt_of_le this.1 af.size,this.2⟩
   · rcases ag k ai with e | e
     · exact ⟨Nat.lt_of_lt_of_le (oh k e).1 af.size,(oh k e).2⟩
     · exact ⟨e.2,.inr (Nat.le_trans h.b_.size e.1)⟩
   · have:=h.lt k (by rw [ak];simp [ai]);exact ⟨Nat.lt_of_lt_of_le this.1 af.size,this.2⟩
 · have aam:∀ z,z ∈ A\/z ∈ B->z.ok w':=fun z aj=>by
    have I3:z ∈ A++x::B:=by rcases aj with e | e <;> simp [e]
    refine z.law w w' (fun k ai=>af.block k (h.lt k (List.mem_flatMap.2 ⟨z,I3,ai⟩)).1 (fun IU=>?_)) (h.ok z I3)
    rcases aj with e | e
    · exact MW k (List.mem_flatMap.2 ⟨z,e,ai⟩) k (by simp [IU]) rfl
    · exact Xg k IU k (List.mem_flatMap.2 ⟨z,e,ai⟩) rfl
   simp only [List.mem_append,List.mem_cons] at hy
   rcases hy with hy | rfl | hy
   · exact aam y (.inl hy)
   · exact ad
   · exact aam y (.inr hy)
 · rw [al,List.nodup_append,List.nodup_append]
   have b5:∀ k ∈ nG.bA,∀ b,(b ∈ b7 A\/b ∈ b7 B)->k≠b:=fun k ai b ah e=>by
    subst e
    rcases ag k ai with e | e
    · rcases ah with ah | ah
      · exact MW k ah k (by simp [e]) rfl
      · exact Xg k e k ah rfl
    · have:=(h.lt k (by rw [ak];rcases ah with ah | ah <;> simp [ah])).1
      omega
   exact ⟨am4,⟨aF,am5,fun a aD b ah=>b5 a aD b (.inr ah)⟩,fun a aD b ah=>by
    rcases List.mem_append.1 ah with ah | ah
    · exact fun e=>b5 b ah a (.inl aD) e.symm
    · exact MW a aD b (by simp [ah])⟩
 · refine y.law (X++b7 (A++x::B)) _ w w' (af.mono (fun k ai=>by rw [ak];simp [ai])) (fun k ai=>?_) (h.rd y hy)
   rw [al] at ai
   simp only [List.mem_append] at ai
   rcases ai with ai | ai | ai | ai
   · exact .inl (by simp [ai])
   · exact .inl (by rw [ak];simp [ai])
   · rcases ag k ai with e | e
     · exact .inl (by rw [ak];simp [e])
     · exact .inr e.1
   · exact .inl (by rw [ak];simp [ai])
theorem bq.more (h:bq W M0 X w E D) {y:bw} (hy:y.ok (X++b7 E) w):bq W M0 X w E (y::D):=
 ⟨h.b_,h.hC,h.lt,h.ok,h.bu,fun z aj=>by rcases List.mem_cons.1 aj with rfl | e;exact hy;exact h.rd z e⟩
theorem bq.less (h:bq W M0 X w E D) {fU:List bw} (ao:∀ y ∈ fU,y ∈ D):bq W M0 X w E fU:=⟨h.b_,h.hC,h.lt,h.ok,h.bu,fun y hy=>h.rd y (ao y hy)⟩
theorem bq.e (h:bq W M0 X w E D) (i:Nat) {x:a7} (hi:E[i]? =some x):x.ok w:=h.ok x (List.mem_of_getElem? hi)
theorem bq.d (h:bq W M0 X w E D) (i:Nat) {y:bw} (hi:D[i]? =some y):y.ok (X++b7 E) w:=h.rd y (List.mem_of_getElem? hi)
theorem bw.less {y:bw} {M iN:List Nat} (h:y.ok M w) (hm:∀ k ∈ iN,k ∈ M):y.ok iN w:=y.law M iN w w (br.refl _ _) (fun k ai=>.inl (hm k ai)) h
theorem bq.KV (h:bq W M0 X w E D) (i:Nat) {x nG:a7} (hi:E[i]? =some x) (af:br x.bA w w') (ad:nG.ok w') (aF:nG.bA.Nodup)
 (ag:∀ k ∈ nG.bA,k ∈ x.bA\/(w.heap.size<=k/\k <w'.heap.size)):bq W M0 X w' (E.set i nG) D:=by
 obtain ⟨ap,rfl⟩:=List.getElem?_eq_some_iff.1 hi
 have a5:E=E.take i++E[i]::E.drop (i+ 1):=by simp
 have:=h.eb a5 af ad aF ag
 rwa [List.set_eq_take_append_cons_drop,if_pos ap]
end
end ax
namespace ax
open Go Go.RowKit J
abbrev cm (l:List UInt8):Value:=.string ⟨⟨l⟩⟩
structure dh (α:Type) where
 size:Nat
 rd:(Nat->Prop)->World->List Value->α->Prop
 len:∀ {F w cs d},rd F w cs d->cs.length=size
 one:∀ {F w cs d},rd F w cs d-> ∀ v ∈ cs,v.oneCell'=true
 law:∀ {F F' w w' cs d},(∀ k,F k->F' k/\w'.heap[k]? =w.heap[k]?)->rd F w cs d->rd F' w' cs d
def hH (M:List Nat) (w:World):Nat->Prop:=fun k=>k ∉ M/\k <w.heap.size
def bw.of {α:Type} (T:dh α) (cs:List Value) (d:α):bw where
 ok M w:=T.rd (hH M w) w cs d
 law M iN w w' af hm h:=T.law (fun k ai=>⟨⟨fun ad=>by rcases hm k ad with e | e;exact ai.1 e;exact absurd ai.2 (by omega),Nat.lt_of_lt_of_le ai.2 af.size⟩,af.block k ai.2 ai.1⟩) h
def eY (k:IntKind):dh Int where
 size:=1
 rd _ _ cs d:=cs= [.int k d]
 len h:=by subst h;rfl
 one h v af:=by subst h;simp at af;subst af;rfl
 law _ h:=h
def KW:dh UInt8 where
 size:=1
 rd _ _ cs d:=cs= [.int .u8 (d.toNat:Int)]
 len h:=by subst h;rfl
 one h v af:=by subst h;simp at af;subst af;rfl
 law _ h:=h
def azl:dh Bool where
 size:=1
 rd _ _ cs d:=cs= [.bool d]
 len h:=by subst h;rfl
 one h v af:=by subst h;simp at af;subst af;rfl
 law _ h:=h
def iC:dh (List UInt8) where
 size:=1
 rd _ _ cs d:=cs= [cm d]
 len h:=by subst h;rfl
 one h v af:=by subst h;simp at af;subst af;rfl
 law _ h:=h
section
variable {α:Type} (T:dh α)
def dT (F:Nat->Prop) (w:World):List Value->List α->Prop
 | xs,[]=>xs= []
 | xs,d::r=>∃ cs ys,xs=cs++ys/\T.rd F w cs d/\dT F w ys r
theorem tR {F:Nat->Prop} {w:World}:∀ {l:List α} {xs:List Value},dT T F w xs l->xs.length=l.length*T.size
 | [],xs,h=>by simp only [dT] at h;subst h;simp
 | d::r,xs,h=>by
   obtain ⟨cs,ys,rfl,I,aa⟩:=h
   rw [List.length_append,T.len I,tR aa,List.length_cons,Nat.add_mul];omega
theorem Cs {F:Nat->Prop} {w:World}:∀ {l:List α} {xs:List Value},dT T F w xs l-> ∀ v ∈ xs,v.oneCell'=true
 | [],xs,h=>by simp only [dT] at h;subst h;simp
 | d::r,xs,h=>by
   obtain ⟨cs,ys,rfl,I,aa⟩:=h
   intro v af
   rcases List.mem_append.1 af with e | e
   · exact T.one I v e
   · exact Cs aa v e
theorem mu {F F':Nat->Prop} {w w':World} (aI:∀ k,F k->F' k/\w'.heap[k]? =w.heap[k]?):∀ {l:List α} {xs:List Value},dT T F w xs l->dT T F' w' xs l
 | [],xs,h=>h
 | d::r,xs,h=>by
   obtain ⟨cs,ys,rfl,I,aa⟩:=h
   exact ⟨cs,ys,rfl,T.law aI I,mu aI aa⟩
theorem acx {F:Nat->Prop} {w:World} {d:α} {cs:List Value} (aN:T.rd F w cs d):∀ {l:List α} {xs:List Value},dT T F w xs l->dT T F w (xs++cs) (l++[d])
 | [],xs,h=>by simp only [dT] at h;subst h;exact ⟨cs,[],by simp,aN,rfl⟩
 | e::r,xs,h=>by
   obtain ⟨c,ys,rfl,I,aa⟩:=h
   exact ⟨c,ys++cs,by simp,I,acx aN aa⟩
theorem FU {F:Nat->Prop} {w:World} {l':List α} {eT:List Value} (h':dT T F w eT l'):∀ {l:List α} {xs:List Value},dT T F w xs l->dT T F w (xs++eT) (l++l')
 | [],xs,h=>by simp only [dT] at h;subst h;simpa using h'
 | e::r,xs,h=>by
   obtain ⟨c,ys,rfl,I,aa⟩:=h
   exact ⟨c,ys++eT,by simp,I,FU h' aa⟩
theorem FV {F:Nat->Prop} {w:World}:∀ {l:List α} {xs:List Value} {i:Nat} {d:α},dT T F w xs l->l[i]? =some d ->
 ∃ cs,T.rd F w cs d/\ ∀ j u,cs[j]? =some u->xs[i*T.size+j]? =some u
 | [],_,i,d,_,hi=>by simp at hi
 | e::r,xs,0,d,h,hi=>by
   obtain ⟨cs,ys,rfl,I,_⟩:=h
   simp only [List.getElem?_cons_zero,Option.some.injEq] at hi
   subst hi
   refine ⟨cs,I,fun j u az=>?_⟩
   have ap:j <cs.length:=by
    rcases Nat.lt_or_ge j cs.length with h | h
    · exact h
    · rw [List.getElem?_eq_none h] at az;cases az
   simpa [List.getElem?_append,ap] using az
 | e::r,xs,i+ 1,d,h,hi=>by
   obtain ⟨cs,ys,rfl,I,aa⟩:=h
   obtain ⟨c,hc,az⟩:=FV (i:=i) aa (by simpa using hi)
   refine ⟨c,hc,fun j u Ez=>?_⟩
   have hlen:=T.len I
   have ak:(i+ 1)*T.size+j=cs.length+(i*T.size+j):=by rw [Nat.add_mul];omega
   rw [ak,List.getElem?_append_right (by omega)]
   simpa using az j u Ez
def e0 (w:World) (a:Addr) (xs:List Value):Prop:=∀ j u,xs[j]? =some u->w.cell? ⟨a.block,a.off+j,none⟩=some u
theorem e0.law {w w':World} {a:Addr} {xs:List Value} (h:e0 w a xs) (ah:w'.heap[a.block]? =w.heap[a.block]?):e0 w' a xs:=
 fun j u az=>(World.cell?_of_block (a:=⟨a.block,a.off+j,none⟩) ah).trans (h j u az)
def dm (A:Option Addr):Nat:=(A.getD ⟨0,0,none⟩).block
def gg (A:Option Addr):Nat:=(A.getD ⟨0,0,none⟩).off
def b3:dh (List α) where
 size:=1
 rd F w cs l:=∃ A c,cs= [.slice A l.length c]/\l.length<=c/\c<=maxLen/\(A=none->c= 0) /\
  (l≠ []->A=some ⟨dm A,gg A,none⟩/\F (dm A)/\ ∃ xs,dT T F w xs l/\e0 w ⟨dm A,gg A,none⟩ xs)
 len h:=by obtain ⟨A,c,rfl,_⟩:=h;rfl
 one h v af:=by obtain ⟨A,c,rfl,_⟩:=h;simp at af;subst af;rfl
 law aI h:=by
  obtain ⟨A,c,I,au,bb,c0,g8⟩:=h
  refine ⟨A,c,I,au,bb,c0,fun ap=>?_⟩
  obtain ⟨ak,al,xs,aT,bU⟩:=g8 ap
  exact ⟨ak,(aI _ al).1,xs,mu T aI aT,bU.law (aI _ al).2⟩
theorem kK {F:Nat->Prop} {w:World} {v:Value} {l:List α} (h:(b3 T).rd F w [v] l):∃ A c,v= .slice A l.length c:=by
 obtain ⟨A,c,I,_⟩:=h
 exact ⟨A,c,by simpa using I⟩
theorem zS {F:Nat->Prop} {w:World} {A:Option Addr} {n c:Nat} {l:List α} {i:Int} {d:α} (h:(b3 T).rd F w [.slice A n c] l) (hi:idx l i=some d) :
 A=some ⟨dm A,gg A,none⟩/\(0 <=i/\i <n)/\ ∃ cs,T.rd F w cs d/\e0 w ⟨dm A,gg A+i.toNat*T.size,none⟩ cs:=by
 obtain ⟨aP,I,aa⟩:=j0 hi
 obtain ⟨cR,bF,ak,aT,bU,dn,gM⟩:=h
 simp only [List.cons.injEq,Value.slice.injEq,and_true] at ak
 obtain ⟨rfl,rfl,rfl⟩:=ak
 obtain ⟨dO,bE,xs,fM,iQ⟩:=gM (fun PL=>by rw [PL] at I;simp at I)
 obtain ⟨cs,hc,vx⟩:=FV T fM aa
 refine ⟨dO,⟨aP,by omega⟩,cs,hc,fun j u az=>?_⟩
 have:=iQ (i.toNat*T.size+j) u (vx j u az)
 simpa [Nat.add_assoc] using this
end
def a7.dV (g:Nat) (t:TypeId) (cs:List Value):a7 where
 bA:=[g]
 ok w:=w.heap[g]? =some (.cells cs.toArray t (0,0))
 law w w' h ai:=(h g (by simp)).trans ai
def a7.row {α:Type} (e:TypeId) (size:Nat) (v:Value) (l:List α) (xs:List Value):a7 where
 bA:=v.ownBlock.toList
 ok w:=w.ownsRow 0 e size v l.length xs
 law w w' h ai:=by
  refine ⟨ai.1,?_⟩
  rcases ai.2 with aF | ⟨g,cap,cur,rfl,ah,Et,rest⟩
  · exact .inl aF
  · exact .inr ⟨g,cap,cur,rfl,ah,(h g (by simp [Value.ownBlock])).trans Et,rest⟩
def bw.rows {α:Type} (T:dh α) (xs:List Value) (l:List α):bw where
 ok M w:=dT T (hH M w) w xs l
 law M iN w w' af hm h:=mu T (fun k ai=>⟨⟨fun ad=>by rcases hm k ad with e | e;exact ai.1 e;exact absurd ai.2 (by omega),Nat.lt_of_lt_of_le ai.2 af.size⟩,af.block k ai.2 ai.1⟩) h
theorem F2 {α:Type} {w:World} {e:TypeId} {size:Nat} {v:Value} {l:List α} {xs:List Value} (h:(a7.row e size v l xs).ok w):∃ A c,v= .slice A l.length c/\l.length<=c/\c<=maxLen/\(A=none->c= 0)/\(A≠none->A=some ⟨dm A,0,none⟩):=by
 have h':w.ownsRow 0 e size v l.length xs:=h
 rcases h'.2 with ⟨rfl,aP⟩ | ⟨g,cap,cur,rfl,_,_,I,aa,_⟩
 · exact ⟨none,0,by rw [aP],by omega,Nat.zero_le _,fun _=>rfl,fun h=>absurd rfl h⟩
 · exact ⟨some ⟨g,0,none⟩,cap,rfl,I,aa,(fun h=>by cases h),fun _=>rfl⟩
theorem ayf {α:Type} {T:dh α} {M:List Nat} {w:World} {e:TypeId} {A:Option Addr} {n c:Nat} {l:List α} {xs:List Value} (h:(a7.row e T.size (.slice A n c) l xs).ok w) (aB:(bw.rows T xs l).ok M w)
 (eB:∀ k ∈ (Value.slice A n c).ownBlock.toList,k ∉ M):(bw.of (b3 T) [.slice A n c] l).ok M w:=by
 have h':w.ownsRow 0 e T.size (.slice A n c) l.length xs:=h
 have kx:dT T (hH M w) w xs l:=aB
 show (b3 T).rd (hH M w) w _ l
 rcases h'.2 with ⟨I,aP⟩ | ⟨g,cap,cur,I,_,ay,hle,hm,ao,ad⟩
 · have ap:l= []:=List.eq_nil_of_length_eq_zero aP
   simp only [Value.slice.injEq] at I
   obtain ⟨rfl,rfl,rfl⟩:=I
   subst ap
   exact ⟨none,0,rfl,by simp,Nat.zero_le _,fun _=>rfl,fun h=>absurd rfl h⟩
 · simp only [Value.slice.injEq] at I
   obtain ⟨rfl,rfl,rfl⟩:=I
   refine ⟨_,_,rfl,hle,hm,(fun h=>by cases h),fun _=>⟨rfl,⟨eB g (by simp [Value.ownBlock]),(Array.getElem?_eq_some_iff.1 ay).1⟩,xs,kx,fun j u az=>?_⟩⟩
   have im:=h'.cells (g:=g) rfl j u az
   simpa [Addr.add,dm,gg] using (by
    have e:(⟨g,0,none⟩:Addr).add j=⟨g,0 +j,none⟩:=by unfold Addr.add;split <;> simp_all
    rw [e] at im;exact im:w.cell? ⟨g,0 +j,none⟩=some u)
theorem u' {w:World} {g:Nat} {t:TypeId} {cs:List Value} (h:(a7.dV g t cs).ok w) {j:Nat} {v:Value} (az:cs[j]? =some v):w.cell? ⟨g,j,none⟩=some v:=by
 have h':w.heap[g]? =some (.cells cs.toArray t (0,0)):=h
 simp [World.cell?,h',az]
theorem DH {w:World} {g:Nat} {t:TypeId} {cs:List Value} (h:(a7.dV g t cs).ok w):g <w.heap.size:=by
 have h':w.heap[g]? =some (.cells cs.toArray t (0,0)):=h
 exact (Array.getElem?_eq_some_iff.1 h').1
theorem al2 (w:World) (t:TypeId) (cs:List Value):(a7.dV w.heap.size t cs).ok (w.alloc (.cells cs.toArray t)):=heap_alloc_new w _
def bw.il (g:Nat) (cs:List Value):bw where
 ok M w:=g ∉ M/\g <w.heap.size/\e0 w ⟨g,0,none⟩ cs
 law M iN w w' af hm h:=⟨fun ad=>by rcases hm g ad with e | e;exact h.1 e;exact absurd h.2.1 (by omega),Nat.lt_of_lt_of_le h.2.1 af.size,h.2.2.law (af.block g h.2.1 h.1)⟩
theorem ly {α:Type} {T:dh α} {F:Nat->Prop} {w:World} {cs:List Value} {l:List α} (h:(b3 T).rd F w cs l):∃ A c,cs= [.slice A l.length c]:=by
 obtain ⟨A,c,I,_⟩:=h
 exact ⟨A,c,I⟩
theorem aye {α:Type} {T:dh α} {M:List Nat} {w:World} {e:TypeId} {A:Option Addr} {n c:Nat} {l:List α} {xs:List Value} {i:Int} {d:α} (h:(a7.row e T.size (.slice A n c) l xs).ok w) (aB:(bw.rows T xs l).ok M w) (hi:idx l i=some d) :
 A=some ⟨dm A,gg A,none⟩/\(0 <=i/\i <n)/\ ∃ cs,T.rd (hH M w) w cs d/\e0 w ⟨dm A,gg A+i.toNat*T.size,none⟩ cs:=by
 obtain ⟨aP,I,aa⟩:=j0 hi
 have h':w.ownsRow 0 e T.size (.slice A n c) l.length xs:=h
 have kx:dT T (hH M w) w xs l:=aB
 rcases h'.2 with ⟨ak,cF⟩ | ⟨g,cap,cur,ak,_,ay,_⟩
 · omega
 · simp only [Value.slice.injEq] at ak
   obtain ⟨rfl,rfl,rfl⟩:=ak
   obtain ⟨cs,hc,vx⟩:=FV T kx aa
   refine ⟨rfl,⟨aP,by omega⟩,cs,hc,fun j u az=>?_⟩
   have im:=h'.cells (g:=g) rfl _ u (vx j u az)
   have al:(⟨g,0,none⟩:Addr).add (i.toNat*T.size+j)=⟨g,0 +(i.toNat*T.size+j),none⟩:=by unfold Addr.add;split <;> simp_all
   rw [al] at im
   show w.cell? ⟨g,0 +i.toNat*T.size+j,none⟩=some u
   rw [Nat.add_assoc];exact im
end ax
namespace ax
open Go Go.RowKit J
theorem aaH (p q:List UInt8):(p == q)=decide (p=q):=by
 rw [Bool.eq_iff_iff];simp
section
variable {P:Program} {o:Oper} {a:Act} {w:World}
abbrev bh (P:Program) (o:Oper) (a:Act) (w:World) (v:Value) (w':World):Prop:=(execOp a.eval o).run P w= .ok (.value v) w'
abbrev pa (P:Program) (o:Oper) (a:Act) (w:World) (w':World):Prop:=(execOp a.eval o).run P w= .ok .skip w'
theorem ahQ {x:Operand} {v:Value} (av:o.op= .move x) (ad:a.eval x=v):bh P o a w v w:=by
 simp only [bh,execOp,av,ad];rfl
theorem ahJ {x:Operand} {v:Value} (av:o.op= .assign x) (ad:a.eval x=v):bh P o a w v w:=by
 simp only [bh,execOp,av,ad];rfl
theorem L4 {c x y:Operand} {v:Value} (av:o.op= .pick c x y) (hc:a.eval c= .bool true) (ad:a.eval x=v):bh P o a w v w:=by
 simp only [bh,execOp,av,hc,ad];rfl
theorem L3 {c x y:Operand} {v:Value} (av:o.op= .pick c x y) (hc:a.eval c= .bool false) (hy:a.eval y=v):bh P o a w v w:=by
 simp only [bh,execOp,av,hc,hy];rfl
section
variable {x y:Operand} {t t':TypeId} {k:IntKind} {m n:Int}
theorem aCV (av:o.op= .binOp .add t x y t') (ad:a.eval x= .int k m) (hy:a.eval y= .int k n):bh P o a w (.int k (k.wrap (m+n))) w:=by
 simp only [bh,execOp,av,ad,hy]
 simp [go_sem]
theorem aDq (av:o.op= .binOp .sub t x y t') (ad:a.eval x= .int k m) (hy:a.eval y= .int k n):bh P o a w (.int k (k.wrap (m - n))) w:=by
 simp only [bh,execOp,av,ad,hy]
 simp [go_sem]
theorem aDf (av:o.op= .binOp .mul t x y t') (ad:a.eval x= .int k m) (hy:a.eval y= .int k n):bh P o a w (.int k (k.wrap (m*n))) w:=by
 simp only [bh,execOp,av,ad,hy]
 simp [go_sem]
theorem aDo (av:o.op= .binOp .quo t x y t') (ad:a.eval x= .int k m) (hy:a.eval y= .int k n) (aP:n≠ 0):bh P o a w (.int k (k.wrap (m.tdiv n))) w:=by
 simp only [bh,execOp,av,ad,hy]
 simp [go_sem,aP]
theorem aDd (av:o.op= .binOp .lss t x y t') (ad:a.eval x= .int k m) (hy:a.eval y= .int k n):bh P o a w (.bool (decide (m <n))) w:=by
 simp only [bh,execOp,av,ad,hy]
 simp [go_sem]
theorem aDc (av:o.op= .binOp .leq t x y t') (ad:a.eval x= .int k m) (hy:a.eval y= .int k n):bh P o a w (.bool (decide (m<=n))) w:=by
 simp only [bh,execOp,av,ad,hy]
 simp [go_sem]
theorem aC_ (av:o.op= .binOp .gtr t x y t') (ad:a.eval x= .int k m) (hy:a.eval y= .int k n):bh P o a w (.bool (decide (n <m))) w:=by
 simp only [bh,execOp,av,ad,hy]
 simp [go_sem]
theorem aC9 (av:o.op= .binOp .geq t x y t') (ad:a.eval x= .int k m) (hy:a.eval y= .int k n):bh P o a w (.bool (decide (n<=m))) w:=by
 simp only [bh,execOp,av,ad,hy]
 simp [go_sem]
theorem aC7 (aM:P.underlying t=some (.int k)) (av:o.op= .binOp .eql t x y t') (ad:a.eval x= .int k m) (hy:a.eval y= .int k n):bh P o a w (.bool (decide (m=n))) w:=by
 have:=run_underlying (P:=P) aM
 simp only [bh,execOp,av,ad,hy]
 simp [go_sem,this]
 rfl
theorem aDi (aM:P.underlying t=some (.int k)) (av:o.op= .binOp .neq t x y t') (ad:a.eval x= .int k m) (hy:a.eval y= .int k n):bh P o a w (.bool (!decide (m=n))) w:=by
 have:=run_underlying (P:=P) aM
 simp only [bh,execOp,av,ad,hy]
 simp [go_sem,this]
 rfl
end
section
variable {x y:Operand} {t t':TypeId} {p q:Bool}
theorem ayy (aM:P.underlying t=some .bool) (p q:Bool) (w:World):(binOp .eql t (.bool p) (.bool q)).run P w= .ok (.bool (p == q)) w:=by
 have h:∀ d:Nat,(Op.equalIn (d+ 1) t (.bool p) (.bool q)).run P w= .ok (p == q) w:=fun d=>by
  simp [Op.equalIn,run_underlying aM]
 simp only [binOp]
 simp [Op.equal,Op.maxDepth,h 9999]
theorem ayz (aM:P.underlying t=some .bool) (p q:Bool) (w:World):(binOp .neq t (.bool p) (.bool q)).run P w= .ok (.bool (!(p == q))) w:=by
 have h:∀ d:Nat,(Op.equalIn (d+ 1) t (.bool p) (.bool q)).run P w= .ok (p == q) w:=fun d=>by
  simp [Op.equalIn,run_underlying aM]
 simp only [binOp]
 simp [Op.equal,Op.maxDepth,h 9999]
theorem aC6 (aM:P.underlying t=some .bool) (av:o.op= .binOp .eql t x y t') (ad:a.eval x= .bool p) (hy:a.eval y= .bool q):bh P o a w (.bool (p == q)) w:=by
 simp only [bh,execOp,av,ad,hy]
 simp [go_sem,ayy aM]
theorem aDh (aM:P.underlying t=some .bool) (av:o.op= .binOp .neq t x y t') (ad:a.eval x= .bool p) (hy:a.eval y= .bool q):bh P o a w (.bool (!(p == q))) w:=by
 simp only [bh,execOp,av,ad,hy]
 simp [go_sem,ayz aM]
theorem ahS (av:o.op= .unOp .not t x) (ad:a.eval x= .bool p):bh P o a w (.bool (!p)) w:=by
 simp only [bh,execOp,av,ad]
 simp [go_sem]
end
section
variable {x y:Operand} {t t':TypeId} {p q:List UInt8}
theorem aC8 (aM:P.underlying t=some .string) (av:o.op= .binOp .eql t x y t') (ad:a.eval x=cm p) (hy:a.eval y=cm q):bh P o a w (.bool (decide (p=q))) w:=by
 have:=run_underlying (P:=P) aM
 simp only [bh,execOp,av,ad,hy]
 simp [go_sem,this]
 exact aaH p q
theorem aDj (aM:P.underlying t=some .string) (av:o.op= .binOp .neq t x y t') (ad:a.eval x=cm p) (hy:a.eval y=cm q):bh P o a w (.bool (!decide (p=q))) w:=by
 have:=run_underlying (P:=P) aM
 simp only [bh,execOp,av,ad,hy]
 simp [go_sem,this]
 exact aaH p q
theorem ahO {lP:TypeId} (aM:P.underlying lP=some .string) (av:o.op= .call { callee:=.builtin .len,args:=#[x],argTypes:=#[lP] }) (ad:a.eval x=cm p):bh P o a w (.int .i64 p.length) w:=by
 simp only [bh,execOp,av,resolve,invoke,List.map_toArray,List.map_cons,List.map_nil,ad]
 simp [go_sem,Builtin.len_,run_underlying aM,goInt]
theorem ahN {lP:TypeId} {A:Option Addr} {n c:Nat} {e:TypeId} (aM:P.underlying lP=some (.slice e)) (av:o.op= .call { callee:=.builtin .len,args:=#[x],argTypes:=#[lP] }) (ad:a.eval x= .slice A n c):bh P o a w (.int .i64 n) w:=by
 simp only [bh,execOp,av,resolve,invoke,List.map_toArray,List.map_cons,List.map_nil,ad]
 simp [go_sem,Builtin.len_,run_underlying aM,goInt]
theorem aDa {i:Nat} {b:UInt8} (aM:P.underlying t=some .string) (av:o.op= .index t x y) (ad:a.eval x=cm p) (hy:a.eval y= .int .i64 i) (ah:p[i]? =some b):bh P o a w (.int .u8 b.toNat) w:=by
 simp only [bh,execOp,av,ad,hy]
 obtain ⟨I,aa⟩:=List.getElem?_eq_some_iff.1 ah
 have e:(⟨⟨p⟩⟩:ByteArray)[i]? =some b:=by
  show (if h:i <_ then some _ else none)=_
  rw [dif_pos (show i <(⟨⟨p⟩⟩:ByteArray).size from I)]
  exact congrArg some aa
 simp [go_sem,Instr.index,run_underlying aM,e]
theorem Vh {k k':IntKind} {n:Int} (aM:P.underlying t=some (.int k)) (sX:P.underlying t'=some (.int k')) (av:o.op= .convert t t' x) (ad:a.eval x= .int k n):bh P o a w (.int k' (k'.wrap n)) w:=by
 simp only [bh,execOp,av,ad]
 simp [go_sem,convert,run_underlying aM,run_underlying sX]
end
end
theorem ua (n:Int):IntKind.i64.wrap n=aE n:=by rw [IntKind.wrap_i64];rfl
theorem adG (n:Int):IntKind.u8.wrap n=((kn n).toNat:Int):=by rw [alZ,IntKind.wrap_u8]
section
variable {P:Program} {o:Oper} {a:Act} {w:World} {x y:Operand} {t t':TypeId} {m n:Int}
theorem aCW (av:o.op= .binOp .add t x y t') (ad:a.eval x= .int .i64 m) (hy:a.eval y= .int .i64 n):bh P o a w (.int .i64 (aE (m+n))) w:=by rw [<-ua];exact aCV av ad hy
theorem aDr (av:o.op= .binOp .sub t x y t') (ad:a.eval x= .int .i64 m) (hy:a.eval y= .int .i64 n):bh P o a w (.int .i64 (aE (m - n))) w:=by rw [<-ua];exact aDq av ad hy
theorem aDg (av:o.op= .binOp .mul t x y t') (ad:a.eval x= .int .i64 m) (hy:a.eval y= .int .i64 n):bh P o a w (.int .i64 (aE (m*n))) w:=by rw [<-ua];exact aDf av ad hy
theorem ahU (av:o.op= .binOp .rem t x y t') (ad:a.eval x= .int .i64 m) (hy:a.eval y= .int .i64 n) (aP:(!decide (n= 0))=true):bh P o a w (.int .i64 (m.tmod n)) w:=by
 have aP:n≠ 0 :=by simpa using aP
 simp only [bh,execOp,av,ad,hy]
 simp [go_sem,aP]
theorem ahT (av:o.op= .binOp .quo t x y t') (ad:a.eval x= .int .i64 m) (hy:a.eval y= .int .i64 n) (aP:(!decide (n= 0))=true):bh P o a w (.int .i64 (aE (m.tdiv n))) w:=by rw [<-ua];exact aDo av ad hy (by simpa using aP)
theorem aC1 (aM:P.underlying t=some (.int .i64)) (sX:P.underlying t'=some (.int .i64)) (av:o.op= .convert t t' x) (ad:a.eval x= .int .i64 m):bh P o a w (.int .i64 (aE m)) w:=by
 have h:=Vh (P:=P) (w:=w) aM sX av ad
 rwa [ua] at h
theorem aC2 (aM:P.underlying t=some (.int .i64)) (sX:P.underlying t'=some (.int .u8)) (av:o.op= .convert t t' x) (ad:a.eval x= .int .i64 m):bh P o a w (.int .u8 ((kn m).toNat:Int)) w:=by
 have h:=Vh (P:=P) (w:=w) aM sX av ad
 rwa [adG] at h
theorem XH (a:Act) (g:Nat):a.eval (.global g)= .pointer (some ⟨g,0,none⟩):=rfl
theorem ahK {vs:List Value} {i:Nat} {v:Value} (av:o.op= .extract x i) (ad:a.eval x= .tuple vs.toArray) (af:vs[i]? =some v):bh P o a w v w:=by
 simp only [bh,execOp,av,ad]
 simp [go_sem,Instr.extract,af]
theorem ahR {p:Addr} (av:o.op= .nilCheck x) (ad:a.eval x= .pointer (some p)):bh P o a w (.pointer (some p)) w:=by
 simp only [bh,execOp,av,ad]
 rfl
end
end ax
namespace ax
open Go Go.RowKit J
theorem jQ (b o n:Nat):(⟨b,o,none⟩:Addr).add n=⟨b,o+n,none⟩:=by
 unfold Addr.add;split <;> simp_all
section
variable {P:Program} {o:Oper} {a:Act} {w:World} {x y:Operand} {t e s:TypeId}
theorem aDb {i:Int} {b:UInt8} {p:List UInt8} (aM:P.underlying t=some .string) (av:o.op= .index t x y) (ad:a.eval x=cm p) (hy:a.eval y= .int .i64 i) (ah:idx p i=some b):bh P o a w (.int .u8 b.toNat) w:=by
 obtain ⟨aP,I,aa⟩:=j0 ah
 obtain ⟨n,rfl⟩:=Int.eq_ofNat_of_zero_le aP
 exact aDa aM av ad hy (by simpa using aa)
theorem nM {A:Option Addr} {n c sz:Nat} {i:Int} (aM:P.underlying t=some (.slice e)) (ao:∀ w,(Go.sizeOf e).run P w= .ok sz w)
 (av:o.op= .indexAddr t x y) (ad:a.eval x= .slice A n c) (hy:a.eval y= .int .i64 i) (dH:A=some ⟨dm A,gg A,none⟩) (hi:0 <=i/\i <n) :
 bh P o a w (.pointer (some ⟨dm A,gg A+i.toNat*sz,none⟩)) w:=by
 obtain ⟨aP,I⟩:=hi
 obtain ⟨k,rfl⟩:=Int.eq_ofNat_of_zero_le aP
 have bx:k <n:=by omega
 rw [dH] at ad
 simp only [bh,execOp,av,ad,hy]
 simp [go_sem,Instr.indexAt,run_underlying aM,bx,ao,jQ]
theorem ahL {cx:Array Field} {f:Field} {j b p sz:Nat} (aM:P.underlying s=some (.struct cx)) (ag:cx[j]? =some f) (ao:∀ w,(Go.sizeOf f.type).run P w= .ok sz w) (aP:Nat.beq sz 0 =false)
 (av:o.op= .fieldAddr s x j) (ad:a.eval x= .pointer (some ⟨b,p,none⟩)):bh P o a w (.pointer (some ⟨b,p+f.offset,none⟩)) w:=by
 have apd:sz≠ 0 :=by intro e;subst e;simp at aP
 simp only [bh,execOp,av,ad]
 simp [go_sem,Instr.fieldAt,run_underlying aM,ag,fieldPlace,ao,apd,jQ]
theorem Vi {b p:Nat} {v:Value} (ay:∀ w,(isAgg t).run P w= .ok false w) (av:o.op= .load t x) (ad:a.eval x= .pointer (some ⟨b,p,none⟩)) (hc:w.cell? ⟨b,p,none⟩=some v):bh P o a w v w:=by
 simp only [bh,execOp,av,ad]
 simp [go_sem,Instr.loadAt,loadVar,ay,hc]
theorem ahP {b p sz:Nat} {cs:List Value} (ay:∀ w,(isAgg t).run P w= .ok true w) (ao:∀ w,(Go.sizeOf t).run P w= .ok sz w) (ap:cs.length=sz) (av:o.op= .load t x)
 (ad:a.eval x= .pointer (some ⟨b,p,none⟩)) (hc:e0 w ⟨b,p,none⟩ cs):bh P o a w (.agg cs.toArray) w:=by
 have h:=run_loadCells_list (P:=P) w ⟨b,p,none⟩ cs (fun j u az=>by rw [jQ];exact hc j u az)
 rw [ap] at h
 unfold loadCells at h
 simp only [bh,execOp,av,ad]
 simp [go_sem,Instr.loadAt,loadVar,ay,ao,h]
theorem LZ {v:Value} {cs:List Value} (af:v.cells=cs.toArray) (av:o.op= .box t x) (ad:a.eval x=v):bh P o a w (.pointer (some ⟨w.heap.size,0,none⟩)) (w.alloc (.cells cs.toArray t)):=by
 have ff:=af
 unfold Value.cells at ff
 simp only [bh,execOp,av,ad]
 simp [go_sem,Instr.box,newVar,newRow,ff]
theorem xz {z:Value} {cs:List Value} (aj:∀ w,(zeroValue t).run P w= .ok z w) (af:z.cells=cs.toArray) (av:o.op= .alloc t):bh P o a w (.pointer (some ⟨w.heap.size,0,none⟩)) (w.alloc (.cells cs.toArray t)):=by
 have ff:=af
 unfold Value.cells at ff
 simp only [bh,execOp,av]
 simp [go_sem,Instr.alloc,newVar,newRow,aj,ff]
end
def lay:List Value->Nat->List Value->List Value
 | l,0,cs=>cs++l.drop cs.length
 | [],_+ 1,_=>[]
 | u::l,n+ 1,cs=>u::lay l n cs
theorem QM:∀ (l:List Value) (n:Nat) (cs:List Value),n+cs.length<=l.length->lay l n cs=l.take n++cs++l.drop (n+cs.length)
 | l,0,cs,_=>by simp [lay]
 | [],n+ 1,cs,h=>by simp at h
 | u::l,n+ 1,cs,h=>by
   have:=QM l n cs (by simp at h;omega)
   simp only [lay,this,List.take_succ_cons,List.cons_append]
   have e:n+ 1 +cs.length=(n+cs.length)+ 1 :=by omega
   rw [e,List.drop_succ_cons]
section
variable {P:Program} {o:Oper} {a:Act} {w:World} {x y:Operand} {t e s:TypeId}
theorem Vj {g p sz:Nat} {tb:TypeId} {cs vs:List Value} {v:Value} (af:v.cells=vs.toArray) (ao:∀ w,(Go.sizeOf t).run P w= .ok sz w) (ap:Nat.beq vs.length sz=true) (I:vs.all (·.oneCell')=true)
 (hle:Nat.ble (p+vs.length) cs.length=true) (ah:(a7.dV g tb cs).ok w) (av:o.op= .store t x y) (ad:a.eval x= .pointer (some ⟨g,p,none⟩)) (hy:a.eval y=v) :
 ∃ w',pa P o a w w'/\br [g] w w'/\(a7.dV g tb (lay cs p vs)).ok w':=by
 have fN:w.heap[g]? =some (.cells cs.toArray tb (0,0)):=ah
 have hlen:vs.length=sz:=Nat.eq_of_beq_eq_true ap
 have BI:p+vs.length<=cs.length:=Nat.le_of_ble_eq_true hle
 have h:=run_storeCells_at P g p tb vs 0 cs.toArray w fN (by simpa using BI) (fun u hu=>List.all_eq_true.1 I u hu)
 simp only [Nat.add_zero] at h
 refine ⟨w.setRow g (lay cs p vs).toArray,?_,?_,?_⟩
 · simp only [pa,execOp,av,ad,hy]
   rw [QM _ _ _ BI]
   simp only [List.append_assoc,hlen] at h
   have ff:=af
   unfold Value.cells at ff
   simp [go_sem,Instr.storeAt,storeVar,ao,ff,hlen,h]
 · refine ⟨rfl,rfl,rfl,by simp [World.setRow],fun k _ aF=>?_⟩
   simp only [World.setRow,Array.getElem?_modify]
   rw [if_neg (by simpa [eq_comm] using aF)]
 · show (w.setRow g _).heap[g]? =_
   simp [World.setRow,Array.getElem?_modify,fN]
end
section
variable {P:Program} {o:Oper} {a:Act} {w:World} {x y:Operand} {t e:TypeId}
def Ia (a:Act):List (Nat × Operand)->List (Nat × Value)->Prop
 | [],[]=>True
 | (i,x)::xs,(j,v)::vs=>(a.eval x=v/\i=j)/\Ia a xs vs
 | _,_=>False
theorem NB:∀ {xs:List (Nat × Operand)} {vs:List (Nat × Value)},Ia a xs vs->xs.map (fun p=>(p.1,a.eval p.2))=vs
 | [],[],_=>rfl
 | (i,x)::xs,(j,v)::vs,h=>by
   obtain ⟨⟨I,rfl⟩,aa⟩:=h
   rw [List.map_cons,NB aa,I]
def placesOf (P:Program) (t:TypeId):Sem (Array (Nat × Nat)):=(match P.underlying t with | some (.struct cx)=>cx | _=>#[]).mapM fun (f:Field)=>do pure (f.offset,<-Go.sizeOf f.type)
theorem aCZ {z:Value} {cx:Array Field} {pl:Array (Nat × Nat)} {xs:List (Nat × Operand)} {vs:List (Nat × Value)} {cs:List Value} (aj:∀ w,(zeroValue t).run P w= .ok z w) (hu:P.underlying t=some (.struct cx))
 (aH:∀ w,(placesOf P t).run P w= .ok pl w) (av:o.op= .build t xs.toArray) (ad:Ia a xs vs) (Pk:Instr.fill (fun i=>pl[i]?) z.cells vs=some cs.toArray):bh P o a w (.agg cs.toArray) w:=by
 have vE:=aH w
 simp only [placesOf,hu] at vE
 have I:=NB ad
 simp only [bh,execOp,av,Instr.build,Sem.run_bind,aj,Result.andThen_ok,run_underlying hu,vE,List.map_toArray]
 have e:(xs.map fun (i,x)=>(i,a.eval x))=vs:=I
 simp only [e,Pk]
 rfl
theorem Ay {z:Value} {sz n:Nat} {xs:List (Nat × Operand)} {vs:List (Nat × Value)} {cs:List Value} (hu:P.underlying t=some (.slice e)) (ao:∀ w,(Go.sizeOf e).run P w= .ok sz w) (aj:∀ w,(zeroValue e).run P w= .ok z w)
 (hle:Nat.ble (n*sz) 16777216 =true) (b5:Nat.beq (n*sz) 0 =false) (av:o.op= .buildSlice t n xs.toArray) (ad:Ia a xs vs)
 (Pk:Instr.fill (fun i=>some (i*sz,sz)) ((Array.range (n*sz)).map (z.cells[· % z.cells.size]!)) vs=some cs.toArray) :
 bh P o a w (.slice (some ⟨w.heap.size,0,none⟩) n n) (w.alloc (.cells cs.toArray e)):=by
 have I:=NB ad
 have ak:(xs.map fun (i,x)=>(i,a.eval x))=vs:=I
 have aa: ¬ (n*sz > 2 ^ 24):=by have:=Nat.le_of_ble_eq_true hle;omega
 have au:n*sz≠ 0 :=by intro aP;rw [aP] at b5;simp at b5
 simp only [bh,execOp,av,Instr.buildSlice,Sem.run_bind,Sem.run_pure,ao,aj,Result.andThen_ok,run_underlying hu,List.map_toArray,ak,if_neg aa,if_neg au,Pk]
 rfl
theorem aDl {t':TypeId} {m n:Int} (av:o.op= .binOp .or t x y t') (ad:a.eval x= .int .i64 m) (hy:a.eval y= .int .i64 n):bh P o a w (.int .i64 (RB m n)) w:=by
 unfold RB
 rw [<-ua]
 simp only [bh,execOp,av,ad,hy]
 rfl
theorem aCX {t':TypeId} {m n:Int} (av:o.op= .binOp .and t x y t') (ad:a.eval x= .int .i64 m) (hy:a.eval y= .int .i64 n):bh P o a w (.int .i64 (MA m n)) w:=by
 unfold MA
 rw [<-ua]
 simp only [bh,execOp,av,ad,hy]
 rfl
end
end ax
namespace ax
open Go Go.RowKit J
section
variable {P:Program} {ops:Array Oper} {Q:Exit->Act->World->Prop} {a:Act} {w w':World} {rest:List Oper} {o:Oper} {n:cN} {d:Nat} {l:List (Nat × Value)} {v:Value}
theorem K2 (ay:o.guard=none):Region.wanted o (yielded ops a.tmps)=true:=by simp [Region.wanted,ay]
theorem nz (hw:Region.wanted o (yielded ops a.tmps)=true) (hy:bh P o a w v w') (ag:Fr n l a) (aN:o.dst=some d) (aF:Nat.blt d n=true) (k:∀ a2,Fr n ((d,v)::l) a2->wpList P ops Q rest a2 w'):wpList P ops Q (o::rest) a w:=by
 refine wpList_step fun K cT=>?_
 rw [if_pos hw]
 unfold Oper.wp
 rw [show (execOp a.eval o).run P w=_ from hy]
 show K (a.put o.dst v) w'
 rw [aN]
 exact cT _ _ (k _ (ag.put aF))
theorem iB (hw:Region.wanted o (yielded ops a.tmps)=true) (hy:pa P o a w w') (aN:o.dst=none) (k:wpList P ops Q rest a w'):wpList P ops Q (o::rest) a w:=by
 refine wpList_step fun K cT=>?_
 rw [if_pos hw]
 unfold Oper.wp
 rw [show (execOp a.eval o).run P w=_ from hy]
 show K (a.put o.dst undef) w'
 rw [aN]
 exact cT _ _ k
theorem azC {j bu:Nat} {b:Bool} (ag:Fr n l a) (ay:o.guard=some (j,b)) (az:(ops[j]?).bind (·.dst)=some bu) (ap:ez l bu=some (.bool b)) (aF:Nat.blt bu n=true):Region.wanted o (yielded ops a.tmps)=true:=by
 have bx:bu <n:=Nat.le_of_ble_eq_true aF
 have h:=ag.get bu _ ap
 have ao:=ag.size
 have aa:a.tmps[bu]? =some (.bool b):=by
  rw [Array.getElem?_eq_getElem (by omega)]
  simpa [Array.getD_eq_getD_getElem?,ao,bx] using h
 simp [Region.wanted,ay,yielded,az,aa]
theorem azB {j bu:Nat} {b jj:Bool} (ag:Fr n l a) (ay:o.guard=some (j,b)) (az:(ops[j]?).bind (·.dst)=some bu) (ap:ez l bu=some (.bool jj)) (b5:(jj == b)=false) (aF:Nat.blt bu n=true):Region.wanted o (yielded ops a.tmps)=false:=by
 have bx:bu <n:=Nat.le_of_ble_eq_true aF
 have h:=ag.get bu _ ap
 have ao:=ag.size
 have aa:a.tmps[bu]? =some (.bool jj):=by
  rw [Array.getElem?_eq_getElem (by omega)]
  simpa [Array.getD_eq_getD_getElem?,ao,bx] using h
 simpa [Region.wanted,ay,yielded,az,aa] using b5
theorem azD {j bu:Nat} {b:Bool} (ag:Fr n l a) (ay:o.guard=some (j,b)) (az:(ops[j]?).bind (·.dst)=some bu) (ap:ez l bu=some undef) (aF:Nat.blt bu n=true):Region.wanted o (yielded ops a.tmps)=false:=by
 have bx:bu <n:=Nat.le_of_ble_eq_true aF
 have h:=ag.get bu _ ap
 have ao:=ag.size
 have aa:a.tmps[bu]? =some undef:=by
  rw [Array.getElem?_eq_getElem (by omega)]
  simpa [Array.getD_eq_getD_getElem?,ao,bx] using h
 simp [Region.wanted,ay,yielded,az,aa,undef]
theorem gy (hw:Region.wanted o (yielded ops a.tmps)=false) (ag:Fr n l a) (aN:o.dst=some d) (aF:Nat.blt d n=true) (k:∀ a2,Fr n ((d,undef)::l) a2->wpList P ops Q rest a2 w):wpList P ops Q (o::rest) a w:=by
 refine wpList_step fun K cT=>?_
 rw [if_neg (by simp [hw]),aN]
 exact cT _ _ (k _ (ag.put aF))
def Bp (a:Act):List Operand->List Value->Prop
 | [],[]=>True
 | x::xs,v::vs=>a.eval x=v/\Bp a xs vs
 | _,_=>False
theorem NC:∀ {xs:List Operand} {vs:List Value},Bp a xs vs->xs.map a.eval=vs
 | [],[],_=>rfl
 | x::xs,v::vs,h=>by rw [List.map_cons,h.1,NC h.2]
theorem azK {f:FuncId} {xs:List Operand} {lP:Array TypeId} {vs:List Value} {R:Ending->World->Prop} {K:Act->World->Prop}
 (av:o.op= .call { callee:=.value (.func f),args:=xs.toArray,argTypes:=lP }) (Em:∀ args w,(callFunc f args).run P w= .ok (.enter f args) w)
 (jm:Bp a xs vs) (hc:Calls P f vs.toArray w R) (k:∀ e w',R e w'-> ∃ v,e= .returned v/\K (a.put o.dst v) w'):o.wp P a w K Q:=by
 unfold Oper.wp
 have e:(execOp a.eval o).run P w= .ok (.enter f vs.toArray) w:=by
  have I:=NC jm
  simp only [execOp,av,resolve,List.map_toArray,I]
  simp [go_sem,Act.eval,Deferred.ofValue,invoke,Em]
 rw [e]
 exact hc.mono fun e w' aB=>by
  obtain ⟨v,rfl,ai⟩:=k e w' aB
  exact ai
theorem F6 {f:FuncId} {xs:List Operand} {lP:Array TypeId} {vs:List Value} {R:Ending->World->Prop} (hw:Region.wanted o (yielded ops a.tmps)=true)
 (av:o.op= .call { callee:=.value (.func f),args:=xs.toArray,argTypes:=lP }) (Em:∀ args w,(callFunc f args).run P w= .ok (.enter f args) w)
 (jm:Bp a xs vs) (hc:Calls P f vs.toArray w R) (ag:Fr n l a) (aN:o.dst=some d) (aF:Nat.blt d n=true)
 (k:∀ e w',R e w'-> ∃ v,e= .returned v/\ ∀ a2,Fr n ((d,v)::l) a2->wpList P ops Q rest a2 w'):wpList P ops Q (o::rest) a w:=by
 refine wpList_step fun K cT=>?_
 rw [if_pos hw]
 refine azK av Em jm hc fun e w' aB=>?_
 obtain ⟨v,he,ai⟩:=k e w' aB
 rw [aN]
 exact ⟨v,he,cT _ _ (ai _ (ag.put aF))⟩
end
section
variable {P:Program} {Q:Exit->Act->World->Prop} {a:Act} {w:World}
theorem ML {c:Code} (mJ:Nat->Act->World->Prop) (k:Nat) (h:mJ k a w) (aP:∀ a w,¬ mJ 0 a w)
 (round:∀ k a w,mJ (k+ 1) a w-> ∀ K:Act->World->Prop,(∀ a w,mJ k a w->K a w)->c.wp P (Exit.then K Q) a w):(Code.loop c).wp P Q a w:=
 wp_loop_ghost mJ k h fun m a w vv=>by
  cases m with
  | zero=>exact absurd vv (aP a w)
  | succ m=>exact round m a w vv _ fun a2 w' h'=>⟨m,Nat.lt_succ_self m,h'⟩
theorem axq {fn:Func} {R:Ending->World->Prop} {n:Nat} {l:List (Nat × Value)} (aB:fn.results= #[]) (ag:Fr ⟨n,[]⟩ l a) (h:R (.returned (.tuple #[])) w):bodyPost P fn R .ret a w:=
 ⟨ag.defers,_,results_none aB _ _ _,h⟩
theorem FR {fn:Func} {R:Ending->World->Prop} {n:Nat} {t:Nat} {l:List (Nat × Value)} {v:Value} (aB:fn.results= #[.tmp t]) (ag:Fr ⟨n,[]⟩ l a) (ap:ez l t=some v) (h:R (.returned v) w):bodyPost P fn R .ret a w:=
 ⟨ag.defers,_,results_tmp aB _ _ _,by rw [ag.get _ _ ap];exact h⟩
def S_ (P:Program) (a:Act) (w:World):ResultVar->Value->Prop
 | .tmp t,v=>a.tmps.getD t undef=v
 | .cell ej ty,v=>∃ b p,a.tmps.getD ej undef= .pointer (some ⟨b,p,none⟩) /\
  ((∃ cs:List Value,(∀ w,(isAgg ty).run P w= .ok true w)/\(∀ w,(Go.sizeOf ty).run P w= .ok cs.length w)/\e0 w ⟨b,p,none⟩ cs/\v= .agg cs.toArray) \/
   ((∀ w,(isAgg ty).run P w= .ok false w)/\w.cell? ⟨b,p,none⟩=some v))
def Kw (P:Program) (a:Act) (w:World):List ResultVar->List Value->Prop
 | [],[]=>True
 | r::rs,v::vs=>S_ P a w r v/\Kw P a w rs vs
 | _,_=>False
def pack:List Value->Value
 | [v]=>v
 | vs=>.tuple vs.toArray
def Kv (a:Act):ResultVar->Sem Value
 | .tmp t=>pure (a.tmps.getD t undef)
 | .cell ej t=>do loadVar t (<-asAddr (a.tmps.getD ej undef))
theorem ayA {r:ResultVar} {v:Value} (h:S_ P a w r v):(Kv a r).run P w= .ok v w:=by
 cases r with
 | tmp t=>exact congrArg (fun x=>Result.ok x w) h
 | cell ej ty=>
   obtain ⟨b,p,I,aa⟩:=h
   simp only [Kv,I]
   rcases aa with ⟨cs,ay,ao,hc,rfl⟩ | ⟨ay,hc⟩
   · have ap:=run_loadCells_list (P:=P) w ⟨b,p,none⟩ cs (fun j u az=>by rw [jQ];exact hc j u az)
     unfold loadCells at ap
     simp [go_sem,loadVar,asAddr,ay,ao,ap]
   · simp [go_sem,loadVar,asAddr,ay,hc]
theorem acT:∀ {rs:List ResultVar} {vs:List Value},Kw P a w rs vs->(rs.mapM (Kv a)).run P w= .ok vs w
 | [],[],_=>rfl
 | r::rs,v::vs,h=>by
   have I:=ayA h.1
   have aa:=acT h.2
   rw [List.mapM_cons]
   simp only [Sem.run_bind,I,aa,Result.andThen_ok]
   rfl
theorem axo {fn:Func} {R:Ending->World->Prop} {n:Nat} {l:List (Nat × Value)} {rs:List ResultVar} {vs:List Value} (aB:fn.results=rs.toArray) (ag:Fr ⟨n,[]⟩ l a) (af:Kw P a w rs vs)
 (h:R (.returned (pack vs)) w):bodyPost P fn R .ret a w:=by
 refine ⟨ag.defers,pack vs,?_,h⟩
 have I:=acT af
 unfold results
 have e:(fun x=>match x with | .tmp t=>pure (a.tmps.getD t undef) | .cell ej t=>do loadVar t (<-asAddr (a.tmps.getD ej undef)):ResultVar->Sem Value)=Kv a:=by
  funext x;cases x <;> rfl
 rw [aB,List.mapM_toArray]
 simp only [Sem.run_bind]
 show Result.andThen (((List.toArray <$> rs.mapM (fun x=>match x with | .tmp t=>pure (a.tmps.getD t undef) | .cell ej t=>do loadVar t (<-asAddr (a.tmps.getD ej undef)):ResultVar->Sem Value))).run P w) _=_
 rw [e,map_eq_pure_bind,Sem.run_bind,I]
 match vs with
 | []=>rfl
 | [v]=>rfl
 | v::u::r=>rfl
end
section
variable {P:Program} {ops:Array Oper} {Q:Exit->Act->World->Prop} {a:Act} {w:World} {rest:List Oper} {o:Oper} {n:cN} {d:Nat} {l:List (Nat × Value)}
 {W:World} {M0 X:List Nat} {E:List a7} {D:List bw}
theorem bq.new (hm:bq W M0 X w E D) (t:TypeId) (cs:List Value):bq W M0 X (w.alloc (.cells cs.toArray t)) (a7.dV w.heap.size t cs::E) D:=
 hm.push _ (br.alloc _ _ _) (al2 w t cs) (fun k ai=>by simp [a7.dV] at ai;subst ai;exact ⟨Nat.le_refl _,by simp⟩) (by simp [a7.dV])
theorem tW {g p sz:Nat} {t tb:TypeId} {x y:Operand} {cs vs:List Value} {v:Value} (i:Nat) (hm:bq W M0 X w E D) (hi:E[i]? =some (a7.dV g tb cs)) (hw:Region.wanted o (yielded ops a.tmps)=true)
 (af:v.cells=vs.toArray) (ao:∀ w,(Go.sizeOf t).run P w= .ok sz w) (ap:Nat.beq vs.length sz=true) (I:vs.all (·.oneCell')=true) (hle:Nat.ble (p+vs.length) cs.length=true)
 (av:o.op= .store t x y) (ad:a.eval x= .pointer (some ⟨g,p,none⟩)) (hy:a.eval y=v) (aN:o.dst=none)
 (k:∀ w',bq W M0 X w' (E.set i (a7.dV g tb (lay cs p vs))) D->wpList P ops Q rest a w'):wpList P ops Q (o::rest) a w:=by
 obtain ⟨w',I,aa,au⟩:=Vj af ao ap I hle (hm.e i hi) av ad hy
 exact iB hw I aN (k w' (hm.KV i hi aa au (by simp [a7.dV]) (fun k ai=>.inl ai)))
theorem bq.Fu {α:Type} (hm:bq W M0 X w E D) (e:TypeId) (size:Nat):bq W M0 X w (a7.row e size (.slice none 0 0) ([]:List α) []::E) D:=
 hm.push _ (br.refl _ _) (World.ownsRow_nil w 0 e size) (fun k ai=>by simp [a7.row,Value.ownBlock] at ai) (by simp [a7.row,Value.ownBlock])
theorem avn (o:Option Nat):o.toList.Nodup:=by cases o <;> simp
theorem Z6 {e:TypeId} {z:Value} {sz bytes:Nat} (h:(P.info? e).map (fun i=>(i.zero,i.size,i.bytes))=some (some z,sz,bytes)):∃ i,P.info? e=some i/\i.zero=some z/\i.size=sz/\i.bytes=bytes:=by
 cases hi:P.info? e with
 | none=>rw [hi] at h;cases h
 | some i=>
   rw [hi] at h
   simp only [Option.map_some,Option.some.injEq,Prod.mk.injEq] at h
   exact ⟨i,rfl,h.1,h.2.1,h.2.2⟩
end
end ax
namespace ax
open Go Go.RowKit J
section
variable {P:Program} {ops:Array Oper} {C:World->Prop} {o3:Act->Prop} {a:Act} {w:World} {rest:List Oper} {o:Oper} {n:cN} {d:Nat} {l:List (Nat × Value)} {v:Value}
theorem qs (hw:Region.wanted o (yielded ops a.tmps)=false) (ag:Fr n l a) (aN:o.dst=some d) (aF:Nat.blt d n=true) (k:∀ a2,Fr n ((d,undef)::l) a2->wpQuiet P ops C o3 rest a2):wpQuiet P ops C o3 (o::rest) a:=by
 unfold wpQuiet
 rw [if_neg (by simp [hw]),aN]
 exact k _ (ag.put aF)
theorem ams {id:Nat} {Q:Exit->Act->World->Prop} {l:List Oper} (hm:P.follows .mixedOrders=true) (bS:Region.lexB .any l.toArray=true)
 (h:wpQuiet P l.toArray (fun w'=>br [] w w') (fun a=>∀ w',br [] w w'->Q .normal a w') l a):(Code.region id l.toArray true).wp P Q a w:=
 wp_region_quiet (C:=fun w'=>br [] w w') hm bS (br.drew [] w) (by
  refine Eq.mp ?_ h
  rw [List.toList_toArray]) |> fun h=>wp_mono h (fun e a w q=>q)
end
theorem aoJ {w w':World} {p:Addr} {v:Value} (h:br [] w w') (hc:w.cell? p=some v):w'.cell? p=some v:=
 (World.cell?_of_block (h.block p.block (World.block_lt_of_cell? w p hc) (by simp))).trans hc
theorem Bo {w w':World} {p:Addr} {cs:List Value} (h:br [] w w') (hc:e0 w p cs):e0 w' p cs:=fun j u az=>aoJ h (hc j u az)
section
variable {P:Program} {Q:Exit->Act->World->Prop} {K:Act->World->Prop} {a:Act} {w:World}
theorem qi {i:Nat} (h:Q (.exit i) a w):Exit.then K Q (.exit i) a w:=h
theorem C_ {i:Nat} (h:Q .normal a w):Exit.inBlock i Q (.exit i) a w:=by simpa [Exit.inBlock] using h
theorem LP (h:Q .ret a w):Exit.then K Q .ret a w:=h
theorem ahB {i:Nat} (h:Q .ret a w):Exit.inBlock i Q .ret a w:=h
theorem HK {id:Nat} {c:Code} (mK:Act->World->Prop) (ad:∀ K:Act->World->Prop,(∀ a w,mK a w->K a w)->c.wp P (Exit.inBlock id (Exit.then K Q)) a w) (hy:∀ a w,mK a w->Q .normal a w):(Code.block id c).wp P Q a w:=by
 refine wp_block (wp_mono (ad _ hy) ?_)
 intro e a w h
 cases e with
 | exit i=>
   by_cases hi:i=id
   · simpa [Exit.inBlock,Exit.then,hi] using h
   · simpa [Exit.inBlock,Exit.then,hi] using h
 | _=>exact h
theorem mQ {id:Nat} {l:List Oper} (h:wpList P l.toArray Q l a w):(Code.region id l.toArray false).wp P Q a w:=wp_region_lit h
end
section
variable {W w:World} {M0 X:List Nat} {E:List a7} {D:List bw}
def J7 (D:List bw):List bw->Prop
 | []=>True
 | y::r=>(∃ i:Nat,D[i]? =some y)/\J7 D r
theorem abO {D:List bw}:∀ {fU:List bw},J7 D fU-> ∀ y ∈ fU,y ∈ D
 | [],_,y,hy=>by simp at hy
 | z::r,h,y,hy=>by
   rcases List.mem_cons.1 hy with rfl | e
   · obtain ⟨i,hi⟩:=h.1;exact List.mem_of_getElem? hi
   · exact abO h.2 y e
theorem bq.pick (h:bq W M0 X w E D) {fU:List bw} (ao:J7 D fU):bq W M0 X w E fU:=h.less (abO ao)
theorem bq.H0 (h:bq W M0 X w E D) (i:Nat):bq W M0 X w (E.eraseIdx i) D:=h.drop (List.eraseIdx_sublist E i)
theorem bq.freeze {α:Type} {T:dh α} {e:TypeId} {A:Option Addr} {n c:Nat} {l:List α} {xs:List Value} (h:bq W M0 X w E D) (i j:Nat) (hi:E[i]? =some (a7.row e T.size (.slice A n c) l xs)) (az:D[j]? =some (bw.rows T xs l)) :
 bq W M0 X w (E.eraseIdx i) (bw.of (b3 T) [.slice A n c] l::D):=by
 have I:=h.H0 i
 refine I.more (ayf (h.e i hi) (I.d j az) ?_)
 intro k ai cQ
 rcases List.mem_append.1 cQ with ak | ak
 · have bx:=h.hC k ak
   rcases (h.lt k (List.mem_flatMap.2 ⟨_,List.mem_of_getElem? hi,ai⟩)).2 with al | al
   · exact bx.2 al
   · omega
 · obtain ⟨ap,ad⟩:=List.getElem?_eq_some_iff.1 hi
   have a5:E=E.take i++E[i]::E.drop (i+ 1):=by simp
   have aN:=h.bu
   rw [a5,ad] at aN
   have al:b7 (E.take i++a7.row e T.size (.slice A n c) l xs::E.drop (i+ 1))=b7 (E.take i)++((a7.row e T.size (.slice A n c) l xs).bA++b7 (E.drop (i+ 1))):=by simp [b7]
   rw [al,List.nodup_append,List.nodup_append] at aN
   rw [List.eraseIdx_eq_take_drop_succ] at ak
   rcases List.mem_append.1 (by simpa [b7] using ak:k ∈ b7 (E.take i)++b7 (E.drop (i+ 1))) with aT | aT
   · exact aN.2.2 k aT k (List.mem_append.2 (.inl ai)) rfl
   · exact aN.2.1.2.2 k ai k aT rfl
theorem bq.YI {g:Nat} {t:TypeId} {cs:List Value} (h:bq W M0 X w E D) (i:Nat) (hi:E[i]? =some (a7.dV g t cs)):bq W M0 X w (E.eraseIdx i) (bw.il g cs::D):=by
 have I:=h.H0 i
 refine I.more ⟨?_,DH (h.e i hi),fun j u az=>?_⟩
 · intro cQ
   have ai:g ∈ (a7.dV g t cs).bA:=by simp [a7.dV]
   rcases List.mem_append.1 cQ with ak | ak
   · have bx:=h.hC g ak
     rcases (h.lt g (List.mem_flatMap.2 ⟨_,List.mem_of_getElem? hi,ai⟩)).2 with al | al
     · exact bx.2 al
     · omega
   · obtain ⟨ap,ad⟩:=List.getElem?_eq_some_iff.1 hi
     have a5:E=E.take i++E[i]::E.drop (i+ 1):=by simp
     have aN:=h.bu
     rw [a5,ad] at aN
     have al:b7 (E.take i++a7.dV g t cs::E.drop (i+ 1))=b7 (E.take i)++((a7.dV g t cs).bA++b7 (E.drop (i+ 1))):=by simp [b7]
     rw [al,List.nodup_append,List.nodup_append] at aN
     rw [List.eraseIdx_eq_take_drop_succ] at ak
     rcases List.mem_append.1 (by simpa [b7] using ak:g ∈ b7 (E.take i)++b7 (E.drop (i+ 1))) with aT | aT
     · exact aN.2.2 g aT g (List.mem_append.2 (.inl ai)) rfl
     · exact aN.2.1.2.2 g ai g aT rfl
 · have:=u' (h.e i hi) az
   simpa using this
end
end ax
namespace ax
open Go Go.RowKit J
def dJ (n:Nat):List Nat->Array Bool
 | []=>Array.replicate n false
 | i::d=>(dJ n d).setIfInBounds i true
def AN (K:Act->World->Prop) (Q:Exit->Act->World->Prop):Exit->Act->World->Prop
 | .normal,a,w=>K a w
 | e,a,w=>Q e a w
section
variable {P:Program} {ops:Array Oper} {Q:Exit->Act->World->Prop} {a:Act} {w:World} {o:Oper} {n:cN} {f d i:Nat} {ds:List Nat} {l:List (Nat × Value)} {v:Value}
def KP (ops:Array Oper) (ds:List Nat) (i:Nat):Bool:=Region.noSelect ops && Region.free .any ops (dJ ops.size ds) i && (Region.ready .any ops (dJ ops.size ds)).contains i
theorem azJ {K:Act->World->Prop} {Q:Exit->Act->World->Prop} (h:o.wp P a w K (AN K Q)):o.wp P a w K Q:=by
 unfold Oper.wp at *
 generalize (execOp a.eval o).run P w=r at *
 cases r with
 | ok n w'=>
   cases n <;> simp only [Oper.upon] at h ⊢ <;>
    first
     | exact h
     | exact Calls.mono h (fun e w'' he=>by cases e <;> first | exact he | exact he)
 | halt x w'=>cases x <;> simp only [Oper.upon] at h ⊢ <;> exact h
theorem TX {K:Act->World->Prop} (hi:ops[i]? =some o) (h:wpList P ops (AN K (NoPanic Q)) [o] a w):wpOp P ops (NoPanic Q) i K a w:=by
 unfold wpOp
 simp only [hi]
 unfold wpList at h
 split at h
 · rename_i hw
   rw [if_pos hw]
   rcases h with h | ⟨I,aa⟩
   · exact .inl (azJ h)
   · exact .inr ⟨I,aa.elim fun a h=>h.elim fun w h=>⟨a,w,h⟩⟩
 · rename_i hw
   rw [if_neg hw]
   exact h
end
section
variable {P:Program} {o:Oper} {a:Act} {w:World} {t t':TypeId} {x y:Operand} {cx:Array Go.Field} {xs ys:Array Value} {b:Bool}
theorem L1 (aM:P.underlying t=some (.struct cx)) (aH:P.stoodInHeld t=false) (hm:P.eqGuardType P.depth t=false)
 (aB:(Op.eqFields 9999 xs ys cx.toList).run P w= .ok b w) (av:o.op= .binOp .eql t x y t') (ad:a.eval x= .agg xs) (hy:a.eval y= .agg ys):bh P o a w (.bool b) w:=by
 have ag:P.fieldsOf t=cx:=by simp [Program.fieldsOf,aM]
 have h:=run_equalIn_struct (P:=P) w 9999 t xs ys (by rw [ag];exact aM) aH
 rw [ag,aB] at h
 have h:(Op.equalIn 10000 t (Value.agg xs) (Value.agg ys)).run P w= .ok b w:=h
 simp only [bh,execOp,av,ad,hy]
 simp [go_sem,Op.equal,Op.maxDepth,h,run_eqGuard_agg w _ _ _ _ _ _ hm]
theorem L2 (aM:P.underlying t=some (.struct cx)) (aH:P.stoodInHeld t=false) (hm:P.eqGuardType P.depth t=false)
 (aB:(Op.eqFields 9999 xs ys cx.toList).run P w= .ok b w) (av:o.op= .binOp .neq t x y t') (ad:a.eval x= .agg xs) (hy:a.eval y= .agg ys):bh P o a w (.bool (!b)) w:=by
 have ag:P.fieldsOf t=cx:=by simp [Program.fieldsOf,aM]
 have h:=run_equalIn_struct (P:=P) w 9999 t xs ys (by rw [ag];exact aM) aH
 rw [ag,aB] at h
 have h:(Op.equalIn 10000 t (Value.agg xs) (Value.agg ys)).run P w= .ok b w:=h
 simp only [bh,execOp,av,ad,hy]
 simp [go_sem,Op.equal,Op.maxDepth,h,run_eqGuard_agg w _ _ _ _ _ _ hm]
theorem qJ {d:Nat}:(Op.eqFields d xs ys []).run P w= .ok true w:=rfl
theorem lX {d:Nat} {f:Go.Field} {l:List Go.Field} {k:IntKind} {m n:Int} {e:Prop} [Decidable e] (aF:(f.name != "_")=true) (hu:P.underlying f.type=some (.int k)) (ay:∀ w,(isAgg f.type).run P w= .ok false w)
 (ad:xs[f.offset]? =some (.int k m)) (hy:ys[f.offset]? =some (.int k n)) (h:(Op.eqFields (d+ 1) xs ys l).run P w= .ok (decide e) w):(Op.eqFields (d+ 1) xs ys (f::l)).run P w= .ok (decide (m=n/\e)) w:=by
 have jY:f.name≠ "_" :=by simpa using aF
 simp only [Op.eqFields,jY,if_true,ne_eq,not_false_iff,part,Sem.run_bind,ay,Result.andThen_ok,ad,hy,Bool.false_eq_true,if_false,Sem.run_pure,run_equalIn_int w d f.type k k m n hu]
 by_cases sT:m=n
 · subst sT;simp [h]
 · simp [sT,show (m == n)=false from by simpa using sT]
end
end ax
namespace ax
open Go Go.RowKit Go.ChangeShapes Go.WideShapes Go.Deep J
section
variable {H:Type} {enc:TypeId × Value->H} {P:Program}
theorem WJ (ap:laidOutB P=true) {W ck:World} {gZ:Nat->Bool}:∀ {tY:List TypeId} {vs:List Value} {ds:List (DataW H)} {ps:List MemPlace},DataW.TrodAll enc P W 0 (fun _=>true) true tY vs ds ps ->
 (tY.all fun t=>P.readableRec t && Nat.blt t P.types.size)=true->(∀ p ∈ ps,W.sameAt ck p)->(∀ p ∈ ps,gZ p.block=true)->DataW.TrodAll enc P ck 0 gZ true tY vs ds ps
 | [],vs,ds,ps,h,_,_,_=>by obtain ⟨rfl,rfl,rfl⟩:=trodAll_nil h;exact trodAll_mk0
 | t::tY,vs,ds,ps,h,aB,ao,aH=>by
   obtain ⟨v,CN,d,aDU,p,q,rfl,rfl,rfl,aP,I⟩:=trodAll_cons h
   simp only [List.all_cons,Bool.and_eq_true] at aB
   exact trodAll_cons_mk (WideElems.Trod_stays ap aB.1.1 (Nat.le_of_ble_eq_true aB.1.2) aP (fun x ad=>ao x (List.mem_append_left _ ad)) (fun x ad=>aH x (List.mem_append_left _ ad)))
    (WJ ap I aB.2 (fun x ad=>ao x (List.mem_append_right _ ad)) (fun x ad=>aH x (List.mem_append_right _ ad)))
theorem avE {f:Func} {s:ChangeSpec} {W ck:World} {args:Array Value} {ds gs:List (DataW H)} {before:List MemPlace} {tb:TypeId}
 (g9:DataW.Whole enc P f.params.toList s.vars false W args.toList ds gs before) (ap:laidOutB P=true) (aB:(f.params.toList.all fun t=>P.readableRec t && Nat.blt t P.types.size)=true)
 (af:s.vars= []) (hA:s.fn H ds= { results:=[.lit (.bool true)],args:=ds }) (ah:P.underlying tb=some .bool) (ZM:f.resultTypes= #[tb]) (jF:br [] W ck) :
 s.post enc P f false true false false W args (.bool true) ck:=by
 have sH:=jF.below
 have bx:∀ p ∈ before,p.block <W.heap.size:=fun p aH=>g9.lt p aH
 have apG:=g9
 obtain ⟨p,q,dH,qR,BL,aj,aF⟩:=g9
 rw [af] at qR
 obtain ⟨rfl,rfl⟩:=trodVars_none qR
 simp only [List.append_nil] at BL
 subst BL
 have hold:∀ x ∈ before,(fun b=>decide (b <W.heap.size)) x.block=true:=fun x ad=>by simpa using bx x ad
 have O8:∀ gZ:Nat->Bool,(∀ x ∈ before,gZ x.block=true)->DataW.TrodAll enc P ck 0 gZ true f.params.toList args.toList ds before:=
  fun gZ y3=>WJ ap dH aB (fun x ad=>sH.same (bx x ad)) y3
 have q5:∀ (b:Nat) (gZ:Nat->Bool) (aN:Bool),DataW.TrodAll enc P ck b gZ aN f.resultTypes.toList ((Value.bool true).resultList f.resultTypes.size) [.lit (.bool true)] []:=fun b gZ aN=>by
  rw [ZM];exact trodAll_cons_mk (p:=[]) (shut_bool ah true) trodAll_mk0
 have I1:∀ gZ:Nat->Bool,DataW.TrodVars enc P ck gZ s.vars [] []:=fun gZ=>by rw [af];rfl
 refine ⟨ds,[],before,[],before,[],apG,?_,?_,?_,World.keptBut_mono (fun x ad=>⟨ad,Or.inr (by simpa using ad)⟩) (sH.frame (· ∈ before)),fun _=>?_⟩
 · simp only [List.append_nil,hA];exact q5 _ _ _
 · simp only [List.append_nil,hA];exact O8 _ hold
 · simp only [List.append_nil,hA];exact I1 _
 · refine ⟨ok_one ZM rfl (okWide_bool_mk ah true),_,_,([]++before)++[],⟨[]++before,[],trodAll_append (O8 (fun _=>true) (fun _ _=>rfl)) (q5 _ _ _),I1 _,rfl,?_,?_⟩,?_⟩
   · intro b off aH
     have f_:MemPlace.cell b off ∈ before:=by simpa using aH
     rw [sH.frozen (bx _ f_)]
     exact aj b off f_
   · intro aD;simpa using aF aD
   · intro x ad _;simpa using ad
theorem acS {α:Type} {T:dh α} {F:Nat->Prop} {W:World} {b o:Nat} {R:α->Prop}:∀ m:Nat,(∀ i,i <m-> ∃ cs d,e0 W ⟨b,o+i*T.size,none⟩ cs/\T.rd F W cs d/\R d) ->
 ∃ (l:List α) (xs:List Value),l.length=m/\dT T F W xs l/\e0 W ⟨b,o,none⟩ xs/\ ∀ d ∈ l,R d
 | 0,_=>⟨[],[],rfl,rfl,fun j u az=>by simp at az,fun d aN=>by cases aN⟩
 | m+ 1,h=>by
   obtain ⟨l,xs,I,aa,au,bb⟩:=acS m (fun i hi=>h i (by omega))
   obtain ⟨cs,d,c1,c2,c3⟩:=h m (by omega)
   refine ⟨l++[d],xs++cs,by simp [I],acx (T:=T) c2 aa,fun j u az=>?_,fun e he=>?_⟩
   · have ap:=tR (T:=T) aa
     rcases Nat.lt_or_ge j xs.length with bx | IJ
     · exact au j u (by simpa [List.getElem?_append,bx] using az)
     · rw [List.getElem?_append_right IJ] at az
       have:=c1 (j - xs.length) u az
       rw [ap,I] at this
       rw [show o+j=o+m*T.size+(j - m*T.size) by rw [ap,I] at IJ;omega]
       simpa using this
   · rcases List.mem_append.1 he with ak | ak
     · exact bb e ak
     · simp at ak;subst ak;exact c3
end
end ax
namespace ax
open Go Go.RowKit Go.ChangeShapes Go.WideShapes Go.Deep J
def g3 {H:Type} (P:Program) (enc:TypeId × Value->H) (N:Nat) (t:TypeId) {α:Type} (T:dh α) (R:α->Prop):Prop:=
 ∀ (W:World) (n:Nat) (cs:List Value) (x:DataW H × List MemPlace),DataW.trod enc P W 0 (fun _=>true) true n t cs=some x->(∀ p ∈ x.2,p.block <W.heap.size)->(∀ m ∈ x.1.weights P t,m<=N)-> ∃ d,T.rd (hH [] W) W cs d/\R d
def iL (n:Int):Prop:=-9223372036854775808 <=n/\n<= 9223372036854775807
section
variable {H:Type} {enc:TypeId × Value->H} {P:Program} {N:Nat} {t e:TypeId}
theorem wK (aM:P.underlying t=some .string):g3 P enc N t iC (fun s=>s.length<=N):=by
 intro W n cs x h _ hw
 obtain ⟨s,rfl,rfl,_⟩:=DataW.trod_string aM h
 exact ⟨s.data.toList,rfl,hw _ (by simp [DataW.weights])⟩
theorem mv (aM:P.underlying t=some (.int .i64)):g3 P enc N t (eY .i64) iL:=by
 intro W n cs x h _ _
 obtain ⟨z,rfl,_,aj⟩:=DataW.trod_int aM h
 exact ⟨z,rfl,by simpa [iL,Lit.wf,IntKind.min,IntKind.max,IntKind.signed,IntKind.bits] using aj⟩
theorem axV (aM:P.underlying t=some .bool):g3 P enc N t azl (fun _=>True):=by
 intro W n cs x h _ _
 obtain ⟨b,rfl,_⟩:=DataW.trod_bool aM h
 exact ⟨b,rfl,trivial⟩
theorem aaV {d:DataW H} {m:Nat} (hm:m ∈ d.weights P e):∀ {l:List (DataW H)},d ∈ l->m ∈ DataW.weightsAll P e l
 | [],h=>by cases h
 | x::r,h=>by
   simp only [DataW.weightsAll,List.mem_append]
   rcases List.mem_cons.1 h with rfl | h
   · exact .inl hm
   · exact .inr (aaV hm h)
theorem p3 {α:Type} {T:dh α} {R:α->Prop} (aM:P.underlying t=some (.slice e)) (dI:P.cellsOf e=T.size) (gO:Nat.blt 0 T.size=true) (En:g3 P enc N e T R):g3 P enc N t (b3 T) (fun l=>l.length*P.bytesOf e<=N/\ ∀ d ∈ l,R d):=by
 have gO:0 <T.size:=Nat.le_of_ble_eq_true gO
 intro W n cs x h aH hw
 rcases open_slice aM h with ⟨rfl,rfl⟩ | ⟨a,tt,cap,m,fG,D,alN,rfl,_,ap,hm,EH,ad,hi⟩
 · exact ⟨[],⟨none,0,rfl,Nat.le_refl _,Nat.zero_le _,fun _=>rfl,fun h=>absurd rfl h⟩,by simp,fun d aN=>by cases aN⟩
 · have ea:m=cap:=by simpa using EH
   subst ea
   have ZJ:x.2 =MemPlace.row a (m*P.cellsOf e)++(List.range m).flatMap alN:=congrArg Prod.snd ad
   have Zm:x.1 = .slice ((List.range tt).map D) ((List.range (m - tt)).map fun j=>D (tt+j)):=congrArg Prod.fst ad
   have vK:(tt+(m - tt))*P.bytesOf e<=N:=by
    refine hw _ ?_
    rw [Zm]
    simp only [DataW.weights,aM,List.length_map,List.length_range]
    exact List.mem_cons_self
   have hlen:tt*P.bytesOf e<=N:=Nat.le_trans (Nat.mul_le_mul_right _ (Nat.le_add_right _ _)) vK
   by_cases aP:tt= 0
   · subst aP
     exact ⟨[],⟨some a,m,rfl,by simp,hm,fun h=>(by cases h),fun h=>absurd rfl h⟩,by simp,fun d aN=>by cases aN⟩
   · have im:∀ i,i <tt-> ∃ cs d,(∀ j u,cs[j]? =some u->W.cell? (a.add (i*T.size+j))=some u)/\cs.length=T.size/\T.rd (hH [] W) W cs d/\R d:=fun i cn=>by
      have Zw:i <m:=by omega
      obtain ⟨jB,hc,sX⟩:=hi i Zw
      obtain ⟨d,aN,eV⟩:=En W fG jB _ sX (fun p PT=>aH p (by
       rw [ZJ,List.mem_append]
       exact .inr (List.mem_flatMap.2 ⟨i,by simpa using Zw,PT⟩))) (fun k ai=>hw k (by
       rw [Zm]
       simp only [DataW.weights,aM,List.mem_cons,List.mem_append]
       exact .inr (.inl (aaV ai (List.mem_map.2 ⟨i,by simpa using cn,rfl⟩)))))
      rw [dI] at hc
      obtain ⟨_,hL,vx⟩:=World.cells?_some hc
      refine ⟨jB,d,fun j u az=>?_,hL,aN,eV⟩
      have jk:j <T.size:=by rw [<-hL];exact (List.getElem?_eq_some_iff.1 az).1
      have:=vx j jk
      rw [az,Go.Deep.add_add] at this
      exact this
     have ZS:a.spot=none:=by
      obtain ⟨cs,d,I,aa,_⟩:=im 0 (by omega)
      have:=I 0 _ (List.getElem?_eq_getElem (by omega))
      unfold World.cell? at this
      split at this
      · split at this
        · cases this
        · rename_i ao;simpa [Addr.add] using ao
      · cases this
     obtain ⟨ab,Wb,aDL⟩:=a
     simp only at ZS
     subst ZS
     obtain ⟨l,xs,I,aa,au,bb⟩:=acS (T:=T) (F:=hH [] W) (W:=W) (b:=ab) (o:=Wb) (R:=R) tt (fun i cn=>by
      obtain ⟨cs,d,c1,_,c3,c4⟩:=im i cn
      exact ⟨cs,d,fun j u az=>by have:=c1 j u az;rw [jQ] at this;simpa [Nat.add_assoc] using this,c3,c4⟩)
     subst I
     refine ⟨l,⟨_,m,rfl,ap,hm,fun h=>(by cases h),fun _=>⟨rfl,⟨by simp,?_⟩,xs,aa,au⟩⟩,hlen,bb⟩
     have f_:MemPlace.cell ab Wb ∈ x.2 :=by
      rw [ZJ,List.mem_append]
      left
      have:0 <m*P.cellsOf e:=Nat.mul_pos (by omega) (by omega)
      simp only [MemPlace.row,List.mem_map,List.mem_range]
      exact ⟨0,this,by simp⟩
     exact aH _ f_
theorem aaW {m:Nat}:∀ {tY:List TypeId} {l:List (DataW H)} {j:Nat} {u:TypeId} {d:DataW H},tY[j]? =some u->l[j]? =some d->m ∈ d.weights P u->m ∈ DataW.weightsEach P tY l
 | [],_,j,_,_,h,_,_=>by simp at h
 | _::_,[],j,_,_,_,h,_=>by simp at h
 | t::tY,x::l,0,u,d,I,aa,hm=>by
   simp only [List.getElem?_cons_zero,Option.some.injEq] at I aa
   subst I;subst aa
   simp only [DataW.weightsEach,List.mem_append]
   exact .inl hm
 | t::tY,x::l,j+ 1,u,d,I,aa,hm=>by
   simp only [DataW.weightsEach,List.mem_append]
   exact .inr (aaW (j:=j) (by simpa using I) (by simpa using aa) hm)
theorem mU {cx:Array Go.Field} {W:World} {n:Nat} {cs:List Value} {x:DataW H × List MemPlace} (aM:P.underlying t=some (.struct cx)) (h:DataW.trod enc P W 0 (fun _=>true) true n t cs=some x) (aH:∀ p ∈ x.2,p.block <W.heap.size) (hw:∀ m ∈ x.1.weights P t,m<=N) :
 ∃ fG,cs.length=P.cellsOf t/\ ∀ (j:Nat) (f:Go.Field),cx[j]? =some f-> ∃ y,DataW.trod enc P W 0 (fun _=>true) true fG f.type ((cs.drop f.offset).take (P.cellsOf f.type))=some y/\(∀ p ∈ y.2,p.block <W.heap.size)/\(∀ m ∈ y.1.weights P f.type,m<=N):=by
 obtain ⟨ys,fG,_,ad,ap,aEk,ay⟩:=DataW.trod_struct aM h
 refine ⟨fG,ap,fun j f az=>?_⟩
 have jk:j <cx.size:=(Array.getElem?_eq_some_iff.1 az).1
 have hy:ys[j]? =some (ys[j]'(by omega)):=List.getElem?_eq_getElem _
 refine ⟨ys[j]'(by omega),by rw [ay j f az,hy],fun p PT=>aH p ?_,fun m hm=>hw m ?_⟩
 · rw [ad]
   exact List.mem_flatMap.2 ⟨_,List.getElem_mem _,PT⟩
 · rw [ad]
   simp only [DataW.weights,aM]
   refine aaW (j:=j) (u:=f.type) (d:=(ys[j]'(by omega)).1) ?_ ?_ hm
   · rw [List.getElem?_map,Array.getElem?_toList,az];rfl
   · rw [List.getElem?_map,hy];rfl
theorem e8 {cx:Array Go.Field} {W:World} {fG:Nat} {cs:List Value} (ag:∀ (j:Nat) (f:Go.Field),cx[j]? =some f-> ∃ y,DataW.trod enc P W 0 (fun _=>true) true fG f.type ((cs.drop f.offset).take (P.cellsOf f.type))=some y/\(∀ p ∈ y.2,p.block <W.heap.size)/\(∀ m ∈ y.1.weights P f.type,m<=N))
 (j:Nat) {f:Go.Field} (az:cx[j]? =some f) {t off k:Nat} (aM:f.type=t) (av:f.offset=off) (ai:P.cellsOf t=k) {r:List Value} (aB:(cs.drop off).take k=r):∃ y,DataW.trod enc P W 0 (fun _=>true) true fG t r=some y/\(∀ p ∈ y.2,p.block <W.heap.size)/\(∀ m ∈ y.1.weights P t,m<=N):=by
 obtain ⟨y,I,aa,au⟩:=ag j f az
 rw [aM,av] at I
 rw [aM] at au
 rw [ai,aB] at I
 exact ⟨y,I,aa,au⟩
theorem V9 {v:Array Value} {l:List Value} (h:(Value.agg v).cells.toList=l):v=l.toArray:=by
 have h:v.toList=l:=h
 rw [<-h]
theorem MB {α:Type} {T:dh α} {R:α->Prop} {W:World} {v:Value} {d:DataW H} {ps:List MemPlace} (aB:g3 P enc N t T R) (h:DataW.Trod enc P W 0 (fun _=>true) true t v d ps) (aH:∀ p ∈ ps,p.block <W.heap.size) (hw:∀ m ∈ d.weights P t,m<=N):∃ d',T.rd (hH [] W) W v.cells.toList d'/\R d':=by
 obtain ⟨n,aF⟩:=h
 exact aB W n _ _ aF aH hw
end
end ax
namespace ax
open Go Go.RowKit J
inductive lM
 | i (k:IntKind)
 | b
 | s
 | cl
def lM.ok (P:Program) (t:TypeId):lM->Prop
 | .i k=>P.underlying t=some (.int k)
 | .b=>P.underlying t=some .bool
 | .s=>P.underlying t=some .string
 | .cl=>∃ e,P.underlying t=some (.slice e)
structure kR where
 mA:List (Nat × lM)
 mU:List (Nat × Nat × Nat)
 F9:List (Nat × Option Nat)
def TM (P:Program):List (Nat × lM)->Prop
 | []=>True
 | p::r=>p.2.ok P p.1 /\TM P r
def Mj (P:Program) (s j off:Nat):Prop:=∃ cx f sz,P.underlying s=some (.struct cx)/\cx[j]? =some f/\f.offset=off/\sz≠ 0 /\ ∀ w,(Go.sizeOf f.type).run P w= .ok sz w
def NK (P:Program):List (Nat × Nat × Nat)->Prop
 | []=>True
 | p::r=>Mj P p.1 p.2.1 p.2.2 /\NK P r
def V6 (P:Program) (t:Nat):Option Nat->Prop
 | none=>∀ w,(isAgg t).run P w= .ok false w
 | some n=>(∀ w,(isAgg t).run P w= .ok true w)/\ ∀ w,(Go.sizeOf t).run P w= .ok n w
def Tq (P:Program):List (Nat × Option Nat)->Prop
 | []=>True
 | p::r=>V6 P p.1 p.2 /\Tq P r
structure qp (P:Program) (G:kR):Prop where
 mA:TM P G.mA
 mU:NK P G.mU
 F9:Tq P G.F9
theorem eG {P:Program} {s j off sz:Nat} {cx:Array Go.Field} {f:Go.Field} (h:P.underlying s=some (.struct cx)) (ag:cx[j]? =some f) (av:f.offset=off) (ao:∀ w,(Go.sizeOf f.type).run P w= .ok sz w) (aP:Nat.beq sz 0 =false):Mj P s j off:=
 ⟨cx,f,sz,h,ag,av,(fun e=>by subst e;simp at aP),ao⟩
def nh {β:Type}:List (Nat × β)->Nat->Option β
 | [],_=>none
 | p::r,t=>match Nat.beq p.1 t with
   | true=>some p.2
   | false=>nh r t
def Fg:List (Nat × Nat × Nat)->Nat->Nat->Option Nat
 | [],_,_=>none
 | p::r,s,j=>match Nat.beq p.1 s && Nat.beq p.2.1 j with
   | true=>some p.2.2
   | false=>Fg r s j
theorem zY {P:Program} {l:List (Nat × lM)} (h:TM P l) {t:Nat} {k:lM} (ap:nh l t=some k):k.ok P t:=by
 induction l with
 | nil=>simp [nh] at ap
 | cons p r bi=>
   simp only [nh] at ap
   cases ah:Nat.beq p.1 t with
   | true=>
     rw [ah] at ap
     simp only [Option.some.injEq] at ap
     rw [<-Nat.eq_of_beq_eq_true ah,<-ap];exact h.1
   | false=>rw [ah] at ap;exact bi h.2 ap
theorem adf {P:Program} {l:List (Nat × Option Nat)} (h:Tq P l) {t:Nat} {k:Option Nat} (ap:nh l t=some k):V6 P t k:=by
 induction l with
 | nil=>simp [nh] at ap
 | cons p r bi=>
   simp only [nh] at ap
   cases ah:Nat.beq p.1 t with
   | true=>
     rw [ah] at ap
     simp only [Option.some.injEq] at ap
     rw [<-Nat.eq_of_beq_eq_true ah,<-ap];exact h.1
   | false=>rw [ah] at ap;exact bi h.2 ap
theorem aoR {P:Program} {l:List (Nat × Nat × Nat)} (h:NK P l) {s j off:Nat} (ap:Fg l s j=some off):Mj P s j off:=by
 induction l with
 | nil=>simp [Fg] at ap
 | cons p r bi=>
   simp only [Fg] at ap
   cases ah:Nat.beq p.1 s && Nat.beq p.2.1 j with
   | true=>
     rw [ah] at ap
     simp only [Option.some.injEq] at ap
     simp only [Bool.and_eq_true] at ah
     rw [<-Nat.eq_of_beq_eq_true ah.1,<-Nat.eq_of_beq_eq_true ah.2,<-ap];exact h.1
   | false=>rw [ah] at ap;exact bi h.2 ap
def iY (w:World):List (Nat × Nat × List Value)->Prop
 | []=>True
 | m::r=>e0 w ⟨m.1,m.2.1,none⟩ m.2.2 /\iY w r
theorem hb {w:World}:iY w []:=trivial
theorem gH {w:World} {b p:Nat} {cs:List Value} {M:List (Nat × Nat × List Value)} (h:e0 w ⟨b,p,none⟩ cs) (k:iY w M):iY w ((b,p,cs)::M):=⟨h,k⟩
theorem aaT {w:World} {M:List (Nat × Nat × List Value)} (h:iY w M) {i b p:Nat} {cs:List Value} (hi:M[i]? =some (b,p,cs)):e0 w ⟨b,p,none⟩ cs:=by
 induction M generalizing i with
 | nil=>simp at hi
 | cons m r bi=>
   cases i with
   | zero=>
     simp only [List.getElem?_cons_zero,Option.some.injEq] at hi
     subst hi
     exact h.1
   | succ i=>exact bi h.2 (by simpa using hi)
theorem jS {w:World} {g:Nat} {t:TypeId} {cs:List Value} (h:(a7.dV g t cs).ok w):e0 w ⟨g,0,none⟩ cs:=fun j u az=>by
 have:=u' h az
 simpa using this
structure gp where
 t:Nat
 j:Nat
 want:Bool
 v:Value
def zQ:List (Nat × Value)->Nat->List (Nat × Value)
 | [],_=>[]
 | p::r,d=>match Nat.beq p.1 d with
   | true=>zQ r d
   | false=>p::zQ r d
def p7:List gp->Nat->List gp
 | [],_=>[]
 | p::r,d=>match Nat.beq p.t d || Nat.beq p.j d with
   | true=>p7 r d
   | false=>p::p7 r d
def yK:List (Nat × Bool)->Nat->Bool->Bool
 | [],_,_=>false
 | p::r,j,b=>(Nat.beq p.1 j && (p.2 == b)) || yK r j b
def Fh:List gp->List (Nat × Bool)->Nat->Option Value
 | [],_,_=>none
 | p::r,cur,t=>match Nat.beq p.t t && yK cur p.j p.want with
   | true=>some p.v
   | false=>Fh r cur t
def k6 (a:Act):List gp->Prop
 | []=>True
 | p::r=>(a.tmps.getD p.j undef= .bool p.want->a.tmps.getD p.t undef=p.v)/\k6 a r
def iO (a:Act):List (Nat × Bool)->Prop
 | []=>True
 | p::r=>a.tmps.getD p.1 undef= .bool p.2 /\iO a r
theorem Zc {a:Act} {cur:List (Nat × Bool)} (h:iO a cur) {j:Nat} {b:Bool} (bz:yK cur j b=true):a.tmps.getD j undef= .bool b:=by
 induction cur with
 | nil=>simp [yK] at bz
 | cons p r bi=>
   simp only [yK,Bool.or_eq_true,Bool.and_eq_true,beq_iff_eq] at bz
   rcases bz with ⟨I,aa⟩ | bz
   · rw [<-Nat.eq_of_beq_eq_true I,<-aa];exact h.1
   · exact bi h.2 bz
theorem at0 {a:Act} {gs:List gp} (h:k6 a gs) {cur:List (Nat × Bool)} (hc:iO a cur) {t:Nat} {v:Value} (ap:Fh gs cur t=some v):a.tmps.getD t undef=v:=by
 induction gs with
 | nil=>simp [Fh] at ap
 | cons p r bi=>
   simp only [Fh] at ap
   cases ah:Nat.beq p.t t && yK cur p.j p.want with
   | true=>
     rw [ah] at ap
     simp only [Option.some.injEq] at ap
     simp only [Bool.and_eq_true] at ah
     rw [<-Nat.eq_of_beq_eq_true ah.1,<-ap]
     exact h.1 (Zc hc ah.2)
   | false=>rw [ah] at ap;exact bi h.2 ap
def hE (a_:List (Nat × Value)) (gs:List gp) (cur:List (Nat × Bool)):Operand->Option Value
 | .const v=>some v
 | .global g=>some (.pointer (some ⟨g,0,none⟩))
 | .tmp t=>match ez a_ t with
   | some v=>some v
   | none=>Fh gs cur t
 | .func _=>none
theorem J1 {n:cN} {a_:List (Nat × Value)} {gs:List gp} {cur:List (Nat × Bool)} {a:Act} (ag:Fr n a_ a) (ay:k6 a gs) (hc:iO a cur) {x:Operand} {v:Value} (h:hE a_ gs cur x=some v):a.eval x=v:=by
 cases x with
 | const u=>simp only [hE,Option.some.injEq] at h;rw [<-h];rfl
 | global g=>simp only [hE,Option.some.injEq] at h;rw [<-h];rfl
 | func f=>simp [hE] at h
 | tmp t=>
   simp only [hE] at h
   cases ap:ez a_ t with
   | some u=>rw [ap] at h;simp only [Option.some.injEq] at h;rw [<-h];exact ag.g ap
   | none=>rw [ap] at h;exact at0 ay hc h
def Cd (a_:List (Nat × Value)) (gs:List gp) (cur:List (Nat × Bool)):List Operand->Option (List Value)
 | []=>some []
 | x::r=>match hE a_ gs cur x,Cd a_ gs cur r with
   | some v,some vs=>some (v::vs)
   | _,_=>none
theorem Ry {n:cN} {a_:List (Nat × Value)} {gs:List gp} {cur:List (Nat × Bool)} {a:Act} (ag:Fr n a_ a) (ay:k6 a gs) (hc:iO a cur):∀ {xs:List Operand} {vs:List Value},Cd a_ gs cur xs=some vs->xs.map a.eval=vs
 | [],vs,h=>by simp only [Cd,Option.some.injEq] at h;subst h;rfl
 | x::r,vs,h=>by
   simp only [Cd] at h
   split at h
   · rename_i v us I aa
     simp only [Option.some.injEq] at h
     subst h
     rw [List.map_cons,J1 ag ay hc I,Ry ag ay hc aa]
   · cases h
def E3:Operand->Bool
 | .const (.int _ n)=>n != 0
 | _=>false
def lf:IntKind->IntKind->Bool
 | .i64,.i64 | .u8,.u8 | .i32,.i32 | .u64,.u64 | .u32,.u32 | .u16,.u16 | .i16,.i16 | .i8,.i8=>true
 | _,_=>false
theorem nd {j k:IntKind} (h:lf j k=true):j=k:=by cases j <;> cases k <;> simp_all [lf]
def ky (k:IntKind):Bool:=lf k .i64
theorem kz {k:IntKind} (h:ky k=true):k= .i64:=nd h
def Wq (nf:Option lM) (gf:Bool) (op:BinOp) (j k:IntKind) (m n:Int):Option Value:=
 match op with
 | .add=>match ky j && ky k with | true=>some (.int .i64 (aE (m+n))) | false=>none
 | .sub=>match ky j && ky k with | true=>some (.int .i64 (aE (m - n))) | false=>none
 | .mul=>match ky j && ky k with | true=>some (.int .i64 (aE (m*n))) | false=>none
 | .quo=>match ky j && ky k && gf with | true=>some (.int .i64 (aE (m.tdiv n))) | false=>none
 | .rem=>match ky j && ky k && gf with | true=>some (.int .i64 (m.tmod n)) | false=>none
 | .or=>match ky j && ky k with | true=>some (.int .i64 (RB m n)) | false=>none
 | .and=>match ky j && ky k with | true=>some (.int .i64 (MA m n)) | false=>none
 | .lss=>match lf j k with | true=>some (.bool (decide (m <n))) | false=>none
 | .leq=>match lf j k with | true=>some (.bool (decide (m<=n))) | false=>none
 | .gtr=>match lf j k with | true=>some (.bool (decide (n <m))) | false=>none
 | .geq=>match lf j k with | true=>some (.bool (decide (n<=m))) | false=>none
 | .eql=>match nf with
   | some (.i i)=>match lf i j && lf j k with | true=>some (.bool (decide (m=n))) | false=>none
   | _=>none
 | .neq=>match nf with
   | some (.i i)=>match lf i j && lf j k with | true=>some (.bool (!decide (m=n))) | false=>none
   | _=>none
 | _=>none
def Wr (nf:Option lM) (op:BinOp) (p q:List UInt8):Option Value:=
 match op,nf with
 | .eql,some .s=>some (.bool (decide (p=q)))
 | .neq,some .s=>some (.bool (!decide (p=q)))
 | _,_=>none
def Wp (nf:Option lM) (op:BinOp) (p q:Bool):Option Value:=
 match op,nf with
 | .eql,some .b=>some (.bool (p == q))
 | .neq,some .b=>some (.bool (!(p == q)))
 | _,_=>none
def bin (nf:Option lM) (gf:Bool) (op:BinOp):Value->Value->Option Value
 | .int j m,.int k n=>Wq nf gf op j k m n
 | .string ⟨⟨p⟩⟩,.string ⟨⟨q⟩⟩=>Wr nf op p q
 | .bool p,.bool q=>Wp nf op p q
 | _,_=>none
section
variable {P:Program} {o:Oper} {a:Act} {w:World} {x y:Operand} {t t':TypeId}
theorem Ws {nf:Option lM} (ai:∀ k,nf=some k->k.ok P t) {gf:Bool} (aj:gf=true-> ∀ k n,a.eval y= .int k n->n≠ 0) {op:BinOp} {u v r:Value} (h:bin nf gf op u v=some r) (av:o.op= .binOp op t x y t') (ad:a.eval x=u) (hy:a.eval y=v):bh P o a w r w:=by
 unfold bin at h
 split at h
 · rename_i j m k n
   unfold Wq at h
   split at h
   case h_1=>
    split at h
    · rename_i ah
      simp only [Bool.and_eq_true] at ah
      obtain ⟨I,aa⟩:=ah
      have I:=kz I;have aa:=kz aa
      subst I;subst aa
      simp only [Option.some.injEq] at h
      subst h
      exact aCW av ad hy
    · cases h
   case h_2=>
    split at h
    · rename_i ah
      simp only [Bool.and_eq_true] at ah
      obtain ⟨I,aa⟩:=ah
      have I:=kz I;have aa:=kz aa
      subst I;subst aa
      simp only [Option.some.injEq] at h
      subst h
      exact aDr av ad hy
    · cases h
   case h_3=>
    split at h
    · rename_i ah
      simp only [Bool.and_eq_true] at ah
      obtain ⟨I,aa⟩:=ah
      have I:=kz I;have aa:=kz aa
      subst I;subst aa
      simp only [Option.some.injEq] at h
      subst h
      exact aDg av ad hy
    · cases h
   case h_4=>
    split at h
    · rename_i ah
      simp only [Bool.and_eq_true] at ah
      obtain ⟨⟨I,aa⟩,au⟩:=ah
      have I:=kz I;have aa:=kz aa
      subst I;subst aa
      simp only [Option.some.injEq] at h
      subst h
      have b5:=aj au _ _ hy
      exact ahT av ad hy (by rw [Bool.not_eq_true',decide_eq_false_iff_not];exact b5)
    · cases h
   case h_5=>
    split at h
    · rename_i ah
      simp only [Bool.and_eq_true] at ah
      obtain ⟨⟨I,aa⟩,au⟩:=ah
      have I:=kz I;have aa:=kz aa
      subst I;subst aa
      simp only [Option.some.injEq] at h
      subst h
      have b5:=aj au _ _ hy
      exact ahU av ad hy (by rw [Bool.not_eq_true',decide_eq_false_iff_not];exact b5)
    · cases h
   case h_6=>
    split at h
    · rename_i ah
      simp only [Bool.and_eq_true] at ah
      obtain ⟨I,aa⟩:=ah
      have I:=kz I;have aa:=kz aa
      subst I;subst aa
      simp only [Option.some.injEq] at h
      subst h
      exact aDl av ad hy
    · cases h
   case h_7=>
    split at h
    · rename_i ah
      simp only [Bool.and_eq_true] at ah
      obtain ⟨I,aa⟩:=ah
      have I:=kz I;have aa:=kz aa
      subst I;subst aa
      simp only [Option.some.injEq] at h
      subst h
      exact aCX av ad hy
    · cases h
   case h_8=>
    split at h
    · rename_i ah
      have ah:=nd ah
      subst ah
      simp only [Option.some.injEq] at h
      subst h
      exact aDd av ad hy
    · cases h
   case h_9=>
    split at h
    · rename_i ah
      have ah:=nd ah
      subst ah
      simp only [Option.some.injEq] at h
      subst h
      exact aDc av ad hy
    · cases h
   case h_10=>
    split at h
    · rename_i ah
      have ah:=nd ah
      subst ah
      simp only [Option.some.injEq] at h
      subst h
      exact aC_ av ad hy
    · cases h
   case h_11=>
    split at h
    · rename_i ah
      have ah:=nd ah
      subst ah
      simp only [Option.some.injEq] at h
      subst h
      exact aC9 av ad hy
    · cases h
   case h_12=>
    split at h
    · rename_i i
      have hi:=ai _ rfl
      split at h
      · rename_i ah
        simp only [Bool.and_eq_true] at ah
        have I:=nd ah.1;have aa:=nd ah.2
        subst I;subst aa
        simp only [Option.some.injEq] at h
        subst h
        exact aC7 hi av ad hy
      · cases h
    · cases h
   case h_13=>
    split at h
    · rename_i i
      have hi:=ai _ rfl
      split at h
      · rename_i ah
        simp only [Bool.and_eq_true] at ah
        have I:=nd ah.1;have aa:=nd ah.2
        subst I;subst aa
        simp only [Option.some.injEq] at h
        subst h
        exact aDi hi av ad hy
      · cases h
    · cases h
   case h_14=>cases h
 · rename_i p q
   unfold Wr at h
   split at h
   · simp only [Option.some.injEq] at h
     subst h
     exact aC8 (ai _ rfl) av ad hy
   · simp only [Option.some.injEq] at h
     subst h
     exact aDj (ai _ rfl) av ad hy
   · cases h
 · rename_i p q
   unfold Wp at h
   split at h
   · simp only [Option.some.injEq] at h
     subst h
     exact aC6 (ai _ rfl) av ad hy
   · simp only [Option.some.injEq] at h
     subst h
     exact aDh (ai _ rfl) av ad hy
   · cases h
 · cases h
end
end ax
namespace ax
open Go Go.RowKit J
def nth {α:Type}:List α->Nat->Option α
 | [],_=>none
 | x::_,0 =>some x
 | _::r,i+ 1 =>nth r i
theorem cY {α:Type}:∀ (l:List α) (i:Nat),nth l i=l[i]?
 | [],i=>by simp [nth]
 | x::r,0 =>rfl
 | x::r,i+ 1 =>by simp [nth,cY r i]
def Qm:Operand->Bool
 | .const (.bool b)=>b
 | _=>false
def Qj:Operand->Bool
 | .const (.bool b)=>!b
 | _=>false
def J6 (x y:Operand) (b:Bool):Value->Value->Option Value
 | .bool p,.bool q=>match Qm x with
   | true=>some (.bool (b || q))
   | false=>match Qj y with
     | true=>some (.bool (b && p))
     | false=>some (.bool (cond b p q))
 | .int j m,.int k n=>match lf j k with
   | true=>some (.int j (cond b m n))
   | false=>none
 | .string ⟨⟨p⟩⟩,.string ⟨⟨q⟩⟩=>some (cm (cond b p q))
 | _,_=>none
theorem ar_ {a:Act} {x:Operand} (h:Qm x=true):a.eval x= .bool true:=by
 unfold Qm at h
 split at h
 · subst h;rfl
 · cases h
theorem ar6 {a:Act} {x:Operand} (h:Qj x=true):a.eval x= .bool false:=by
 unfold Qj at h
 split at h
 · rename_i b
   have:b=false:=by simpa using h
   subst this;rfl
 · cases h
theorem abM {a:Act} {x y:Operand} {b:Bool} {u v r:Value} (h:J6 x y b u v=some r) (ad:b=true->a.eval x=u) (hy:b=false->a.eval y=v):(if b then a.eval x else a.eval y)=r:=by
 unfold J6 at h
 split at h
 · rename_i p q
   split at h
   · rename_i aM
     simp only [Option.some.injEq] at h
     subst h
     cases b with
     | true=>rw [if_pos rfl,ar_ aM];rfl
     | false=>rw [if_neg (by simp),hy rfl];rfl
   · split at h
     · rename_i ag
       simp only [Option.some.injEq] at h
       subst h
       cases b with
       | true=>rw [if_pos rfl,ad rfl];rfl
       | false=>rw [if_neg (by simp),ar6 ag];rfl
     · simp only [Option.some.injEq] at h
       subst h
       cases b with
       | true=>rw [if_pos rfl,ad rfl];rfl
       | false=>rw [if_neg (by simp),hy rfl];rfl
 · split at h
   · rename_i ai
     have:=nd ai
     subst this
     simp only [Option.some.injEq] at h
     subst h
     cases b with
     | true=>rw [if_pos rfl,ad rfl];rfl
     | false=>rw [if_neg (by simp),hy rfl];rfl
   · cases h
 · simp only [Option.some.injEq] at h
   subst h
   cases b with
   | true=>rw [if_pos rfl,ad rfl];rfl
   | false=>rw [if_neg (by simp),hy rfl];rfl
 · cases h
abbrev Out:=Value × List Nat × List (Nat × Nat)
def j2 (ao:List Nat) (v:Value):Option Out:=some (v,ao,[])
def Bm (G:kR) (M:List (Nat × Nat × List Value)) (t m rel:Nat) (ao:List Nat) (FC c6:Nat):Option Out:=
 match nth M m,nh G.F9 t with
 | some (b,off,cs),some none=>match nth cs rel with
   | some v=>some (v,ao,[(FC,b),(c6,off+rel)])
   | none=>none
 | some (b,off,cs),some (some n)=>match Nat.ble (rel+n) cs.length with
   | true=>some (.agg ((cs.drop rel).take n).toArray,ao,[(FC,b),(c6,off+rel)])
   | false=>none
 | _,_=>none
def Yj (G:kR) (s d:Nat) (ao:List Nat):Value->Option Out
 | .int k m=>match ky k,nh G.mA s,nh G.mA d with
   | true,some (.i .i64),some (.i .i64)=>j2 ao (.int .i64 (aE m))
   | true,some (.i .i64),some (.i .u8)=>j2 ao (.int .u8 ((kn m).toNat:Int))
   | _,_,_=>none
 | _=>none
def Yl (G:kR) (t:Nat) (ao:List Nat):Value->Option Out
 | .string ⟨⟨p⟩⟩=>match nh G.mA t with
   | some .s=>j2 ao (.int .i64 (p.length:Int))
   | _=>none
 | .slice _ n _=>match nh G.mA t with
   | some .cl=>j2 ao (.int .i64 (n:Int))
   | _=>none
 | _=>none
def Yn (a_:List (Nat × Value)) (gs:List gp) (cur:List (Nat × Bool)) (c x y:Operand):List Nat->Option Out
 | 0 ::ao=>match c with
   | .tmp kL=>match hE a_ gs cur (.tmp kL),hE a_ gs ((kL,true)::cur) x,hE a_ gs ((kL,false)::cur) y with
     | some (.bool b),some u,some v=>match J6 x y b u v with
       | some r=>j2 ao r
       | none=>none
     | _,_,_=>none
   | _=>none
 | _::ao=>match hE a_ gs cur c with
   | some (.bool b)=>match b with
     | true=>match hE a_ gs cur x with | some v=>j2 ao v | none=>none
     | false=>match hE a_ gs cur y with | some v=>j2 ao v | none=>none
   | _=>none
 | []=>none
def sx (G:kR) (M:List (Nat × Nat × List Value)) (ao:List Nat) (a_:List (Nat × Value)) (gs:List gp) (cur:List (Nat × Bool)):Op->Option Out
 | .move x=>match hE a_ gs cur x with | some v=>j2 ao v | none=>none
 | .assign x=>match hE a_ gs cur x with | some v=>j2 ao v | none=>none
 | .pick c x y=>Yn a_ gs cur c x y ao
 | .binOp op t x y _=>match hE a_ gs cur x,hE a_ gs cur y with
   | some u,some v=>match bin (nh G.mA t) (E3 y) op u v with
     | some r=>j2 ao r
     | none=>none
   | _,_=>none
 | .unOp .not _ x=>match hE a_ gs cur x with
   | some (.bool p)=>j2 ao (.bool (!p))
   | _=>none
 | .convert s d x=>match hE a_ gs cur x with
   | some v=>Yj G s d ao v
   | none=>none
 | .load t x=>match hE a_ gs cur x,ao with
   | some (.pointer (some ⟨FC,c6,none⟩)),m::rel::cf=>Bm G M t m rel cf FC c6
   | _,_=>none
 | .fieldAddr s x j=>match hE a_ gs cur x,Fg G.mU s j with
   | some (.pointer (some ⟨b,p,none⟩)),some off=>j2 ao (.pointer (some ⟨b,p+off,none⟩))
   | _,_=>none
 | .nilCheck x=>match hE a_ gs cur x with
   | some (.pointer (some p))=>j2 ao (.pointer (some p))
   | _=>none
 | .extract x i=>match hE a_ gs cur x with
   | some (.tuple ⟨vs⟩)=>match nth vs i with
     | some v=>j2 ao v
     | none=>none
   | _=>none
 | .makeFunc fn ⟨xs⟩ ⟨ys⟩=>match Cd a_ gs cur xs,Cd a_ gs cur ys with
   | some us,some vs=>j2 ao (.func fn us.toArray vs.toArray)
   | _,_=>none
 | .call ⟨.builtin .len,⟨[x]⟩,⟨[t]⟩⟩=>match hE a_ gs cur x with
   | some v=>Yl G t ao v
   | none=>none
 | _=>none
theorem ld {ao cf:List Nat} {u v:Value} {l:List (Nat × Nat)} (h:j2 ao u=some (v,cf,l)):u=v:=by
 simp only [j2,Option.some.injEq,Prod.mk.injEq] at h
 exact h.1
def lY:List (Nat × Nat)->Prop
 | []=>True
 | p::r=>p.1 =p.2 /\lY r
section
variable {P:Program} {G:kR} {M:List (Nat × Nat × List Value)} {w:World} {a:Act} {o:Oper}
theorem Yi {n:cN} {a_:List (Nat × Value)} {gs:List gp} {cur:List (Nat × Bool)} {ao cf:List Nat} {v:Value} {l:List (Nat × Nat)} (ey:qp P G) (eB:iY w M) (ag:Fr n a_ a) (ay:k6 a gs) (hc:iO a cur)
 {op:Op} (av:o.op=op) (h:sx G M ao a_ gs cur op=some (v,cf,l)) (ap:lY l):bh P o a w v w:=by
 have opn:∀ {x:Operand} {u:Value},hE a_ gs cur x=some u->a.eval x=u:=fun ad=>J1 ag ay hc ad
 unfold sx at h
 split at h
 · split at h
   · rename_i ad
     rw [<-ld h];exact ahQ av (opn ad)
   · cases h
 · split at h
   · rename_i ad
     rw [<-ld h];exact ahJ av (opn ad)
   · cases h
 · rename_i c x y
   unfold Yn at h
   split at h
   · split at h
     · rename_i kL
       split at h
       · rename_i b u fi I aa au
         split at h
         · rename_i r aB
           rw [<-ld h]
           have jW:a.eval (.tmp kL)= .bool b:=opn I
           have ad:b=true->a.eval x=u:=fun ah=>J1 ag ay (show iO a ((kL,true)::cur) from ⟨by subst ah;exact jW,hc⟩) aa
           have hy:b=false->a.eval y=fi:=fun ah=>J1 ag ay (show iO a ((kL,false)::cur) from ⟨by subst ah;exact jW,hc⟩) au
           have aH:=abM (a:=a) aB ad hy
           cases b with
           | true=>exact L4 av jW (by simpa using aH)
           | false=>exact L3 av jW (by simpa using aH)
         · cases h
       · cases h
     · cases h
   · split at h
     · rename_i b I
       split at h
       · split at h
         · rename_i u aa
           rw [<-ld h];exact L4 av (opn I) (opn aa)
         · cases h
       · split at h
         · rename_i u aa
           rw [<-ld h];exact L3 av (opn I) (opn aa)
         · cases h
     · cases h
   · cases h
 · rename_i op t x y t'
   split at h
   · rename_i u fi I aa
     split at h
     · rename_i r aB
       rw [<-ld h]
       refine Ws (fun k ai=>zY ey.mA ai) (fun aj k n aF=>?_) aB av (opn I) (opn aa)
       unfold E3 at aj
       split at aj
       · rename_i k' fG
         have:a.eval (.const (.int k' fG))= .int k' fG:=rfl
         rw [this] at aF
         injection aF with _ e
         subst e
         simpa using aj
       · cases aj
     · cases h
   · cases h
 · rename_i x
   split at h
   · rename_i p I
     rw [<-ld h];exact ahS av (opn I)
   · cases h
 · rename_i s d x
   split at h
   · rename_i u I
     unfold Yj at h
     split at h
     · rename_i k m
       split at h
       · rename_i aa au bb
         have:=kz aa
         subst this
         rw [<-ld h];exact aC1 (zY ey.mA au) (zY ey.mA bb) av (opn I)
       · rename_i aa au bb
         have:=kz aa
         subst this
         rw [<-ld h];exact aC2 (zY ey.mA au) (zY ey.mA bb) av (opn I)
       · cases h
     · cases h
   · cases h
 · rename_i t x
   split at h
   · rename_i FC c6 m rel iU I
     have ad:=opn I
     unfold Bm at h
     split at h
     · rename_i b off cs aa au
       split at h
       · rename_i u bb
         simp only [Option.some.injEq,Prod.mk.injEq] at h
         obtain ⟨rfl,_,rfl⟩:=h
         obtain ⟨ak,al,_⟩:=ap
         simp only at ak al
         subst ak;subst al
         rw [cY] at aa bb
         exact Vi (adf ey.F9 au) av ad (aaT eB aa rel u bb)
       · cases h
     · rename_i b off cs k aa au
       split at h
       · rename_i ah
         simp only [Option.some.injEq,Prod.mk.injEq] at h
         obtain ⟨rfl,_,rfl⟩:=h
         obtain ⟨ak,al,_⟩:=ap
         simp only at ak al
         subst ak;subst al
         rw [cY] at aa
         have ao:=adf ey.F9 au
         have hle:=Nat.le_of_ble_eq_true ah
         refine ahP ao.1 ao.2 (by simp;omega) av ad (fun j u az=>?_)
         have mZ:=aaT eB aa
         rw [List.getElem?_take] at az
         split at az
         · rw [List.getElem?_drop] at az
           have:=mZ (rel+j) u az
           simpa [Nat.add_assoc] using this
         · cases az
       · cases h
     · cases h
   · cases h
 · rename_i s x j
   split at h
   · rename_i b p off I aa
     rw [<-ld h]
     obtain ⟨cx,f,sz,dO,bE,fM,iQ,ao5⟩:=aoR ey.mU aa
     rw [<-fM]
     exact ahL dO bE ao5 (by cases aP:Nat.beq sz 0 with | false=>rfl | true=>exact absurd (Nat.eq_of_beq_eq_true aP) iQ) av (opn I)
   · cases h
 · rename_i x
   split at h
   · rename_i p I
     rw [<-ld h];exact ahR av (opn I)
   · cases h
 · rename_i x i
   split at h
   · rename_i vs I
     split at h
     · rename_i u aa
       rw [<-ld h]
       rw [cY] at aa
       exact ahK (vs:=vs) av (opn I) aa
     · cases h
   · cases h
 · rename_i fn xs ys
   split at h
   · rename_i us vs I aa
     rw [<-ld h]
     have ak:=Ry ag ay hc I
     have al:=Ry ag ay hc aa
     simp only [bh,execOp,av,Instr.makeFunc]
     rw [show (Array.map a.eval ⟨xs⟩)=us.toArray by rw [<-ak];simp,show (Array.map a.eval ⟨ys⟩)=vs.toArray by rw [<-al];simp]
     rfl
   · cases h
 · rename_i x t
   split at h
   · rename_i u I
     unfold Yl at h
     split at h
     · split at h
       · rename_i aa
         rw [<-ld h];exact ahO (zY ey.mA aa) av (opn I)
       · cases h
     · split at h
       · rename_i aa
         rw [<-ld h]
         obtain ⟨e,he⟩:=zY ey.mA aa
         exact ahN he av (opn I)
       · cases h
     · cases h
   · cases h
 · cases h
end
end ax
namespace ax
open Go Go.RowKit J
def D4 (ops:Array Oper) (j:Nat):Option Nat:=match nth ops.toList j with
 | some o=>o.dst
 | none=>none
theorem Y3 {ops:Array Oper} {j bu:Nat} (h:D4 ops j=some bu):(ops[j]?).bind (·.dst)=some bu:=by
 unfold D4 at h
 rw [cY,Array.getElem?_toList] at h
 split at h
 · rename_i o av
   rw [av];exact h
 · cases h
abbrev alJ:=List (Nat × Value) × List gp × List (Nat × Nat)
def b_ (G:kR) (ops:Array Oper) (n:Nat) (M:List (Nat × Nat × List Value)):List Oper->List Nat->List (Nat × Value)->List gp->List (Nat × Nat)->Option alJ
 | [],_,a_,gs,l=>some (a_,gs,l)
 | o::rest,ao,a_,gs,l=>match o.dst with
   | none=>none
   | some d=>match Nat.blt d n with
     | false=>none
     | true=>match o.guard with
       | none=>match sx G M ao a_ gs [] o.op with
         | some (v,cf,l')=>b_ G ops n M rest cf ((d,v)::a_) (p7 gs d) (l'++l)
         | none=>none
       | some (j,want)=>match D4 ops j with
         | none=>none
         | some bu=>match Nat.blt bu n with
           | false=>none
           | true=>match ao with
             | 0 ::cf=>match Nat.beq bu d with
               | true=>none
               | false=>match sx G M cf a_ gs [(bu,want)] o.op with
                 | some (v,iU,l')=>b_ G ops n M rest iU (zQ a_ d) (⟨d,bu,want,v⟩::p7 gs d) (l'++l)
                 | none=>none
             | _::cf=>match ez a_ bu with
               | some (.bool b)=>match b == want with
                 | true=>match sx G M cf a_ gs [] o.op with
                   | some (v,iU,l')=>b_ G ops n M rest iU ((d,v)::a_) (p7 gs d) (l'++l)
                   | none=>none
                 | false=>b_ G ops n M rest cf ((d,undef)::a_) (p7 gs d) l
               | some (.tuple ⟨[]⟩)=>b_ G ops n M rest cf ((d,undef)::a_) (p7 gs d) l
               | _=>none
             | []=>none
def Bf (a_:List (Nat × Value)):List Nat->Option (List (Nat × Value))
 | []=>some []
 | t::r=>match ez a_ t,Bf a_ r with
   | some v,some vs=>some ((t,v)::vs)
   | _,_=>none
def dup (l:List Nat):List (Nat × Nat):=l.map fun x=>(x,x)
def k4 (G:kR) (ops:Array Oper) (n:Nat) (M:List (Nat × Nat × List Value)) (os:List Oper) (ao:List Nat) (a_:List (Nat × Value)) (fg:List Nat):Option (List (Nat × Value) × List (Nat × Nat)):=
 match b_ G ops n M os ao a_ [] [] with
 | some (fr',_,l)=>match Bf fr' fg with
   | some k=>some (k,l)
   | none=>none
 | none=>none
theorem HZ:∀ l:List Nat,lY (dup l)
 | []=>trivial
 | x::r=>⟨rfl,HZ r⟩
theorem vm:∀ {l l':List (Nat × Nat)},lY (l++l')->lY l/\lY l'
 | [],_,h=>⟨trivial,h⟩
 | _::_,_,h=>⟨⟨h.1,(vm h.2).1⟩,(vm h.2).2⟩
theorem MU {a_:List (Nat × Value)}:∀ {fg:List Nat} {k:List (Nat × Value)},Bf a_ fg=some k->Gn a_ k
 | [],k,h=>by simp only [Bf,Option.some.injEq] at h;subst h;trivial
 | t::r,k,h=>by
   simp only [Bf] at h
   split at h
   · rename_i v vs I aa
     simp only [Option.some.injEq] at h
     subst h
     exact ⟨I,MU aa⟩
   · cases h
theorem avK {a:Act} {n:cN} {d:Nat} {v:Value} (ao:a.tmps.size=n) (aN:Nat.blt d n=true):(a.put (some d) v).tmps.getD d undef=v:=by
 have bx:d <n:=Nat.le_of_ble_eq_true aN
 simp [Act.put,ao,bx]
theorem Kc {a:Act} {d t:Nat} {v:Value} (h:t≠d):(a.put (some d) v).tmps.getD t undef=a.tmps.getD t undef:=by
 simp only [Act.put,Array.getD_eq_getD_getElem?]
 rw [Array.getElem?_setIfInBounds,if_neg (fun e=>h e.symm)]
theorem vr {a:Act} {d:Nat} {v:Value}:∀ {gs:List gp},k6 a gs->k6 (a.put (some d) v) (p7 gs d)
 | [],_=>trivial
 | p::r,h=>by
   simp only [p7]
   cases ah:Nat.beq p.t d || Nat.beq p.j d with
   | true=>exact vr h.2
   | false=>
     simp only [Bool.or_eq_false_iff] at ah
     have I:p.t≠d:=fun e=>by rw [e] at ah;simp at ah
     have aa:p.j≠d:=fun e=>by rw [e] at ah;simp at ah
     refine ⟨?_,vr h.2⟩
     rw [Kc I,Kc aa];exact h.1
theorem QU {d t:Nat} {v:Value}:∀ {a_:List (Nat × Value)},ez (zQ a_ d) t=some v->t≠d/\ez a_ t=some v
 | [],h=>by simp [zQ,ez] at h
 | p::r,h=>by
   simp only [zQ] at h
   cases ah:Nat.beq p.1 d with
   | true=>
     rw [ah] at h
     obtain ⟨I,aa⟩:=QU h
     refine ⟨I,?_⟩
     have e:=Nat.eq_of_beq_eq_true ah
     simp only [ez]
     cases hc:Nat.beq p.1 t with
     | true=>exact absurd ((Nat.eq_of_beq_eq_true hc).symm.trans e) I
     | false=>exact aa
   | false=>
     rw [ah] at h
     simp only [ez] at h ⊢
     cases hc:Nat.beq p.1 t with
     | true=>
       rw [hc] at h
       refine ⟨fun e=>?_,h⟩
       rw [Nat.eq_of_beq_eq_true hc,e] at ah
       simp at ah
     | false=>
       rw [hc] at h
       exact QU h
theorem Fr.Kx {n:cN} {d:Nat} {a_:List (Nat × Value)} {a:Act} {v:Value} (ag:Fr n a_ a):Fr n (zQ a_ d) (a.put (some d) v):=
 ⟨by simpa [Act.put] using ag.size,ag.defers,fun t u h=>by obtain ⟨I,aa⟩:=QU h;rw [Kc I];exact ag.get t u aa⟩
def BS:Op->Bool
 | .load _ _=>true
 | _=>false
theorem aom {G:kR} {M:List (Nat × Nat × List Value)} {ao:List Nat} {a_:List (Nat × Value)} {gs:List gp} {cur:List (Nat × Bool)} {op:Op} (h:BS op=false):sx G M ao a_ gs cur op=sx G [] ao a_ gs cur op:=by
 cases op with
 | load t x=>simp [BS] at h
 | unOp u t x=>cases u <;> rfl
 | call c=>
   unfold sx
   split <;> first | rfl | (rename_i e;cases e;done) | (rename_i e;cases e;rfl)
 | _=>rfl
theorem Nc {P:Program} {G:kR} {M:List (Nat × Nat × List Value)} {C:World->Prop} {a:Act} {o:Oper} {n:cN} {a_:List (Nat × Value)} {gs:List gp} {cur:List (Nat × Bool)} {ao cf:List Nat} {v:Value} {l:List (Nat × Nat)} (ey:qp P G) (eB:∀ w,C w->iY w M) (ag:Fr n a_ a) (ay:k6 a gs) (hc:iO a cur)
 (h:sx G M ao a_ gs cur o.op=some (v,cf,l)) (ap:lY l):(∀ w,C w->bh P o a w v w)/\(BS o.op=false-> ∀ w,bh P o a w v w):=
 ⟨fun w hx=>Yi ey (eB w hx) ag ay hc rfl h ap,fun aF w=>Yi ey (M:=[]) trivial ag ay hc rfl (by rw [<-aom aF];exact h) ap⟩
theorem ad4 {ops:Array Oper} {o:Oper} {a:Act} {n:cN} {l:List (Nat × Value)} {j bu:Nat} {want:Bool} (ag:Fr n l a) (ay:o.guard=some (j,want)) (az:(ops[j]?).bind (·.dst)=some bu) (aF:Nat.blt bu n=true) :
 Region.wanted o (yielded ops a.tmps)=true ↔ a.tmps.getD bu undef= .bool want:=by
 have bx:bu <n:=Nat.le_of_ble_eq_true aF
 have ao:=ag.size
 have aa:a.tmps[bu]? =some (a.tmps.getD bu undef):=by
  rw [Array.getElem?_eq_getElem (by omega)]
  simp [Array.getD_eq_getD_getElem?,ao,bx]
 simp only [Region.wanted,ay,yielded,az,Option.bind_some,aa,beq_iff_eq]
 constructor
 · intro h
   split at h
   · rename_i b ah
     simp only [Option.some.injEq] at h ah
     rw [ah,h]
   · cases h
 · intro h
   rw [h]
def alR (P:Program) (ops:Array Oper) (C:World->Prop) (o:Oper) (d:Nat) (a:Act) (u:Value):Prop:=
 o.dst=some d/\((Region.wanted o (yielded ops a.tmps)=true/\(∀ w,C w->bh P o a w u w)/\(BS o.op=false-> ∀ w,bh P o a w u w))\/(Region.wanted o (yielded ops a.tmps)=false/\u=undef))
section
variable {P:Program} {G:kR} {ops:Array Oper} {n:cN} {M:List (Nat × Nat × List Value)} {C:World->Prop}
theorem Nz (ey:qp P G) (eB:∀ w,C w->iY w M) {o:Oper} {rest:List Oper} {ao:List Nat} {a_:List (Nat × Value)} {gs:List gp} {l kC:List (Nat × Nat)} {fL:List (Nat × Value)} {kt:List gp} {a:Act}
 (ag:Fr n a_ a) (ay:k6 a gs) (h:b_ G ops n M (o::rest) ao a_ gs l=some (fL,kt,kC)) (aj:lY kC)
 (PI:∀ {os:List Oper} {ao:List Nat} {a_:List (Nat × Value)} {gs:List gp} {l:List (Nat × Nat)},b_ G ops n M os ao a_ gs l=some (fL,kt,kC)->lY l) :
 ∃ d u cf fr' yF l',alR P ops C o d a u/\Fr n fr' (a.put (some d) u)/\k6 (a.put (some d) u) yF/\b_ G ops n M rest cf fr' yF l'=some (fL,kt,kC):=by
 rw [b_] at h
 split at h
 · cases h
 · rename_i d aN
   split at h
   · cases h
   · rename_i aF
     split at h
     · rename_i io
       split at h
       · rename_i v cf l' I
         have he:=(vm (PI h)).1
         exact ⟨d,v,cf,_,_,_,⟨aN,.inl ⟨K2 io,Nc (cur:=[]) ey eB ag ay trivial I he⟩⟩,ag.put aF,vr ay,h⟩
       · cases h
     · rename_i j want io
       split at h
       · cases h
       · rename_i bu qZ
         have yN:=Y3 qZ
         split at h
         · cases h
         · rename_i EK
           split at h
           · rename_i cf
             split at h
             · cases h
             · rename_i b5
               split at h
               · rename_i v iU l' I
                 have he:=(vm (PI h)).1
                 have PK:bu≠d:=fun e=>by rw [e] at b5;simp at b5
                 by_cases IE:a.tmps.getD bu undef= .bool want
                 · refine ⟨d,v,iU,_,_,_,⟨aN,.inl ⟨(ad4 ag io yN EK).2 IE,Nc (cur:=[(bu,want)]) ey eB ag ay ⟨IE,trivial⟩ I he⟩⟩,ag.Kx,(show k6 (a.put (some d) v) (⟨d,bu,want,v⟩::p7 gs d) from ⟨fun _=>avK ag.size aF,vr ay⟩),h⟩
                 · refine ⟨d,undef,iU,_,_,_,⟨aN,.inr ⟨by rw [Bool.eq_false_iff];exact fun hw=>IE ((ad4 ag io yN EK).1 hw),rfl⟩⟩,ag.Kx,(show k6 (a.put (some d) undef) (⟨d,bu,want,v⟩::p7 gs d) from ⟨fun ad=>?_,vr ay⟩),h⟩
                   simp only at ad
                   rw [Kc PK] at ad
                   exact absurd ad IE
               · cases h
           · rename_i q cf aS
             split at h
             · rename_i b ah
               split at h
               · rename_i sH
                 have sH:b=want:=by simpa using sH
                 subst sH
                 split at h
                 · rename_i v iU l' I
                   have he:=(vm (PI h)).1
                   exact ⟨d,v,iU,_,_,_,⟨aN,.inl ⟨azC ag io yN ah EK,Nc (cur:=[]) ey eB ag ay trivial I he⟩⟩,ag.put aF,vr ay,h⟩
                 · cases h
               · rename_i sH
                 exact ⟨d,undef,cf,_,_,_,⟨aN,.inr ⟨azB ag io yN ah sH EK,rfl⟩⟩,ag.put aF,vr ay,h⟩
             · rename_i ah
               exact ⟨d,undef,cf,_,_,_,⟨aN,.inr ⟨azD ag io yN ah EK,rfl⟩⟩,ag.put aF,vr ay,h⟩
             · cases h
           · cases h
theorem vn {fL:List (Nat × Value)} {kt:List gp} {kC:List (Nat × Nat)} (aj:lY kC):∀ {os:List Oper} {ao:List Nat} {a_:List (Nat × Value)} {gs:List gp} {l:List (Nat × Nat)},b_ G ops n M os ao a_ gs l=some (fL,kt,kC)->lY l
 | [],ao,a_,gs,l,h=>by
   simp only [b_,Option.some.injEq,Prod.mk.injEq] at h
   rw [h.2.2];exact aj
 | o::rest,ao,a_,gs,l,h=>by
   rw [b_] at h
   split at h
   · cases h
   · split at h
     · cases h
     · split at h
       · split at h
         · exact (vm (vn aj h)).2
         · cases h
       · split at h
         · cases h
         · split at h
           · cases h
           · split at h
             · split at h
               · cases h
               · split at h
                 · exact (vm (vn aj h)).2
                 · cases h
             · split at h
               · split at h
                 · split at h
                   · exact (vm (vn aj h)).2
                   · cases h
                 · exact vn aj h
               · exact vn aj h
               · cases h
             · cases h
theorem adh {w:World} {Q:Exit->Act->World->Prop} (ey:qp P G) (eB:iY w M) {fL:List (Nat × Value)} {kt:List gp} {kC:List (Nat × Nat)} (aj:lY kC):∀ (k:Nat) {rest:List Oper} {ao:List Nat} {a_:List (Nat × Value)} {gs:List gp} {l:List (Nat × Nat)} {a:Act},
 Fr n a_ a->k6 a gs->b_ G ops n M (rest.take k) ao a_ gs l=some (fL,kt,kC)->(∀ a2,Fr n fL a2->wpList P ops Q (rest.drop k) a2 w)->wpList P ops Q rest a w
 | 0,rest,ao,a_,gs,l,a,ag,_,h,ai=>by
   simp only [List.take_zero,b_,Option.some.injEq,Prod.mk.injEq] at h
   have:=ai a (by rw [<-h.1];exact ag)
   simpa using this
 | k+ 1,[],ao,a_,gs,l,a,ag,_,h,ai=>by
   simp only [List.take_nil,b_,Option.some.injEq,Prod.mk.injEq] at h
   have:=ai a (by rw [<-h.1];exact ag)
   simpa using this
 | k+ 1,o::rest,ao,a_,gs,l,a,ag,ay,h,ai=>by
   rw [List.take_succ_cons] at h
   obtain ⟨d,u,cf,fr',yF,l',⟨aN,fO⟩,dR,fF,h'⟩:=Nz (C:=fun w'=>w'=w) ey (fun w' e=>by subst e;exact eB) ag ay h aj (vn aj)
   have next:=adh ey eB aj k dR fF h' (by simpa using ai)
   refine wpList_step fun K cT=>?_
   rcases fO with ⟨hw,hy,_⟩ | ⟨hw,rfl⟩
   · rw [if_pos hw]
     unfold Oper.wp
     rw [show (execOp a.eval o).run P w=_ from hy w rfl]
     show K (a.put o.dst u) w
     rw [aN]
     exact cT _ _ next
   · rw [if_neg (by simp [hw]),aN]
     exact cT _ _ next
theorem acb {o3:Act->Prop} (ey:qp P G) (eB:∀ w,C w->iY w M) {fL:List (Nat × Value)} {kt:List gp} {kC:List (Nat × Nat)} (aj:lY kC):∀ (k:Nat) {rest:List Oper} {ao:List Nat} {a_:List (Nat × Value)} {gs:List gp} {l:List (Nat × Nat)} {a:Act},
 Fr n a_ a->k6 a gs->b_ G ops n M (rest.take k) ao a_ gs l=some (fL,kt,kC)->(∀ a2,Fr n fL a2->wpQuiet P ops C o3 (rest.drop k) a2)->wpQuiet P ops C o3 rest a
 | 0,rest,ao,a_,gs,l,a,ag,_,h,ai=>by
   simp only [List.take_zero,b_,Option.some.injEq,Prod.mk.injEq] at h
   have:=ai a (by rw [<-h.1];exact ag)
   simpa using this
 | k+ 1,[],ao,a_,gs,l,a,ag,_,h,ai=>by
   simp only [List.take_nil,b_,Option.some.injEq,Prod.mk.injEq] at h
   have:=ai a (by rw [<-h.1];exact ag)
   simpa using this
 | k+ 1,o::rest,ao,a_,gs,l,a,ag,ay,h,ai=>by
   rw [List.take_succ_cons] at h
   obtain ⟨d,u,cf,fr',yF,l',⟨aN,fO⟩,dR,fF,h'⟩:=Nz (C:=C) ey eB ag ay h aj (vn aj)
   have next:=acb ey eB aj k dR fF h' (by simpa using ai)
   unfold wpQuiet
   rcases fO with ⟨hw,hy,_⟩ | ⟨hw,rfl⟩
   · rw [if_pos hw]
     refine ⟨u,fun w hc=>?_,?_⟩
     · unfold Oper.quietAt
       rw [show (execOp a.eval o).run P w=_ from hy w hc]
       exact ⟨rfl,rfl⟩
     · rw [aN];exact next
   · rw [if_neg (by simp [hw]),aN]
     exact next
theorem NA {os:List Oper} {ao:List Nat} {a_:List (Nat × Value)} {fg:List Nat} {k:List (Nat × Value)} {L:List (Nat × Nat)} (h:k4 G ops n M os ao a_ fg=some (k,L)):∃ fL kt,b_ G ops n M os ao a_ [] []=some (fL,kt,L)/\Gn fL k:=by
 unfold k4 at h
 split at h
 · rename_i fr' yF l I
   split at h
   · rename_i k' aa
     simp only [Option.some.injEq,Prod.mk.injEq] at h
     obtain ⟨rfl,rfl⟩:=h
     exact ⟨fr',yF,I,MU aa⟩
   · cases h
 · cases h
theorem gZ (k:Nat) (fg ao:List Nat) {w:World} {Q:Exit->Act->World->Prop} {rest:List Oper} {a_ fr':List (Nat × Value)} {L:List Nat} {a:Act} (ey:qp P G) (eB:iY w M) (ag:Fr n a_ a) (he:k4 G ops n M (rest.take k) ao a_ fg=some (fr',dup L))
 (next:∀ a2,Fr n fr' a2->wpList P ops Q (rest.drop k) a2 w):wpList P ops Q rest a w:=by
 obtain ⟨fL,kt,I,aa⟩:=NA he
 exact adh (gs:=[]) ey eB (HZ L) k ag trivial I fun a2 dR=>next a2 (dR.sub aa)
theorem av7 (k:Nat) (fg ao:List Nat) {o3:Act->Prop} {rest:List Oper} {a_ fr':List (Nat × Value)} {L:List Nat} {a:Act} (ey:qp P G) (eB:∀ w,C w->iY w M) (ag:Fr n a_ a) (he:k4 G ops n M (rest.take k) ao a_ fg=some (fr',dup L))
 (next:∀ a2,Fr n fr' a2->wpQuiet P ops C o3 (rest.drop k) a2):wpQuiet P ops C o3 rest a:=by
 obtain ⟨fL,kt,I,aa⟩:=NA he
 exact acb (gs:=[]) ey eB (HZ L) k ag trivial I fun a2 dR=>next a2 (dR.sub aa)
end
def fA:List Nat->Nat->Bool
 | [],_=>false
 | i::r,j=>Nat.beq i j || fA r j
section
variable {P:Program} {ops:Array Oper} {Q:Exit->Act->World->Prop} {md:Region.Mode} {S:World->Prop} {p:Nat}
def ub (P:Program) (md:Region.Mode) (ops:Array Oper) (Q:Exit->Act->World->Prop) (p:Nat) (S:World->Prop):Nat->Array Bool->Act->World->Prop
 | 0,listed,a,w=>Region.ready md ops listed= []/\Q .normal a w
 | cD+ 1,listed,a,w=>
   (Region.ready md ops listed= []->Q .normal a w) /\
   ∀ i ∈ Region.ready md ops listed,wpOp P ops Q i (fun a2 w'=>((listed.setIfInBounds i true).getD p false=false->S w')/\ub P md ops Q p S cD (listed.setIfInBounds i true) a2 w') a w
theorem aed:∀ (cD:Nat) (listed:Array Bool) (a:Act) (w:World),ub P md ops Q p S cD listed a w->wpAny P md ops Q cD listed a w
 | 0,_,_,_,h=>h
 | cD+ 1,_,_,_,h=>⟨h.1,fun i hi=>wpOp_mono (fun a2 w' h'=>aed cD _ a2 w' h'.2) (h.2 i hi)⟩
theorem ac5 {b':Array Bool} {i p:Nat} (h:b'.getD p false=true):(b'.setIfInBounds i true).getD p false=true:=by
 simp only [Array.getD_eq_getD_getElem?,Array.getElem?_setIfInBounds] at h ⊢
 split
 · rename_i e
   subst e
   split
   · rfl
   · rename_i bx
     rw [Array.getElem?_eq_none (by omega)] at h
     cases h
 · exact h
theorem aeb {rA:Nat} {A0:World->Prop}:∀ (cD:Nat) (listed:Array Bool) (a:Act) (w:World),listed.getD p false=true->ub P md ops Q rA A0 cD listed a w->ub P md ops Q p S cD listed a w
 | 0,_,_,_,_,h=>h
 | cD+ 1,_,_,_,aH,h=>⟨h.1,fun i hi=>wpOp_mono (fun a2 w' h'=>⟨fun ag=>absurd ((ac5 aH).symm.trans ag) (by simp),aeb cD _ a2 w' (ac5 aH) h'.2⟩) (h.2 i hi)⟩
def lU:List Oper->Nat->Nat->List Nat->List Nat
 | [],_,_,acc=>acc
 | o::r,k,i,acc=>lU r (k+ 1) i (match o.after.toList.any fun e=>Region.binds .any e && (Nat.beq e.on i || fA acc e.on) with | true=>k::acc | false=>acc)
theorem vN {l:List Nat} {j:Nat} (h:fA l j=true):j ∈ l:=by
 induction l with
 | nil=>simp [fA] at h
 | cons i r bi=>
   simp only [fA,Bool.or_eq_true] at h
   rcases h with h | h
   · rw [Nat.eq_of_beq_eq_true h];simp
   · exact List.mem_cons_of_mem _ (bi h)
def AH (ops:Array Oper) (i:Nat) (U:List Nat):Prop:=∀ u ∈ U,∃ o,ops[u]? =some o/\ ∃ e ∈ o.after,Region.binds .any e=true/\(e.on=i\/e.on ∈ U)
theorem MX {ops:Array Oper} {i:Nat}:∀ {l:List Oper} {k:Nat} {acc:List Nat},(∀ m o,l[m]? =some o->ops[k+m]? =some o)->AH ops i acc->AH ops i (lU l k i acc)
 | [],_,_,_,h=>h
 | o::r,k,acc,ap,h=>by
   rw [lU]
   refine MX (fun m cU hm=>by have:=ap (m+ 1) cU (by simpa using hm);rwa [show k+(m+ 1)=k+ 1 +m by omega] at this) ?_
   split
   · rename_i ah
     intro u hu
     rcases List.mem_cons.1 hu with rfl | hu
     · simp only [List.any_eq_true,Bool.and_eq_true,Bool.or_eq_true] at ah
       obtain ⟨e,he,I,aa⟩:=ah
       refine ⟨o,by simpa using ap 0 o rfl,e,by simpa using he,I,?_⟩
       rcases aa with aa | aa
       · exact .inl (Nat.eq_of_beq_eq_true aa)
       · exact .inr (List.mem_cons_of_mem _ (vN aa))
     · obtain ⟨cU,iT,e,he,I,aa⟩:=h u hu
       exact ⟨cU,iT,e,he,I,aa.imp id (List.mem_cons_of_mem _)⟩
   · exact h
def TS (ops:Array Oper) (p i:Nat) (ds:List Nat):Bool:=(match nth ops.toList p with
 | none=>true
 | some _=>fA (lU ops.toList 0 i []) p) && (lU ops.toList 0 i []).all fun u=>!(dJ ops.size ds).getD u false
theorem TT {ops:Array Oper} {p i:Nat} {ds:List Nat} (h:TS ops p i ds=true):AH ops i (lU ops.toList 0 i [])/\(ops[p]? =none\/p ∈ lU ops.toList 0 i [])/\ ∀ u ∈ lU ops.toList 0 i [],(dJ ops.size ds).getD u false=false:=by
 unfold TS at h
 rw [Bool.and_eq_true] at h
 refine ⟨MX (fun m o hm=>by simpa using hm) (fun u hu=>by simp at hu),?_,fun u hu=>?_⟩
 · have I:=h.1
   rw [cY,Array.getElem?_toList] at I
   split at I
   · rename_i aF;exact .inl aF
   · exact .inr (vN I)
 · have:=List.all_eq_true.1 h.2 u hu
   simpa using this
theorem azH {i:Nat} {cZ:Oper} {v:Value} (hi:ops[i]? =some cZ) (lb:∀ (j:Nat) (o:Oper) cs b,ops[j]? =some o->o.op≠ .select cs b) (sV:p≠i)
 (eH:∀ c a w,Q (.panic c) (a.put cZ.dst v) w->Q (.panic c) a w) {U:List Nat} (Ef:AH ops i U) (aq0:ops[p]? =none\/p ∈ U) :
 ∀ (cD:Nat) (listed:Array Bool) (a:Act) (w:World),
   (∀ j dK,ops[j]? =some dK->j≠i->listed.getD j true=false->(∀ e ∈ dK.after,Region.binds .any e=true->e.on≠i)->cZ.apart ops dK=true) ->
   listed.getD p false=false->(∀ u ∈ U,listed.getD u false=false)->i ∈ Region.ready .any ops listed->YieldsIf P ops S cZ v a->S w ->
   ub P .any ops Q p S cD (listed.setIfInBounds i true) (a.put cZ.dst v) w->ub P .any ops Q p S (cD+ 1) listed a w:=by
 intro cD
 induction cD with
 | zero=>
   intro listed a w _ _ _ aB hy fb H
   refine ⟨fun h=>(by rw [h] at aB;cases aB),fun j az=>?_⟩
   by_cases fc:j=i
   · subst fc;exact hy.wpOp hi fb ⟨fun _=>fb,H⟩
   · have:=ready_mono az fc
     rw [H.1] at this
     cases this
 | succ cD bi=>
   intro listed a w m3 ma jl aB hy fb H
   refine ⟨fun h=>(by rw [h] at aB;cases aB),fun j az=>?_⟩
   by_cases fc:j=i
   · subst fc;exact hy.wpOp hi fb ⟨fun _=>fb,H⟩
   · have I:=H.2 j (ready_mono az fc)
     obtain ⟨vC,dK,l_,iR⟩:=mem_ready.1 az
     have q3:∀ e ∈ dK.after,Region.binds .any e=true->e.on≠i:=fun e he ah heq=>by
      have I:=iR e he ah
      have aP:=(mem_ready.1 aB).1
      rw [heq] at I
      rcases Nat.lt_or_ge i listed.size with h' | h'
      · simp [h'] at aP I;rw [aP] at I;cases I
      · simp [Array.getElem?_eq_none h'] at I
     have Ex:j ∉ U:=fun Ez=>by
      obtain ⟨cU,iT,e,he,ah,aa⟩:=Ef j Ez
      rw [l_] at iT
      simp only [Option.some.injEq] at iT
      subst iT
      rcases aa with aa | aa
      · exact q3 e he ah aa
      · have au:=iR e he ah
        rw [jl _ aa] at au
        cases au
     have Zz:j≠p:=fun e=>by
      subst e
      rcases aq0 with h | h
      · rw [l_] at h;cases h
      · exact Ex h
     have P3:∀ u ∈ U,(listed.setIfInBounds j true).getD u false=false:=fun u hu=>by
      have:=jl u hu
      have b5:j≠u:=fun e=>Ex (e ▸ hu)
      simp only [Array.getD_eq_getD_getElem?,Array.getElem?_setIfInBounds,if_neg b5] at this ⊢
      exact this
     have PU:(listed.setIfInBounds j true).getD p false=false:=by
      simp only [Array.getD_eq_getD_getElem?,Array.getElem?_setIfInBounds,if_neg Zz] at ma ⊢
      exact ma
     have ZK:((listed.setIfInBounds i true).setIfInBounds j true).getD p false=false:=by
      simp only [Array.getD_eq_getD_getElem?,Array.getElem?_setIfInBounds,if_neg Zz,if_neg (Ne.symm sV)] at ma ⊢
      exact ma
     have aa:=wpOp_putIf l_ (m3 j dK l_ fc vC q3) (fun cs b=>lb i cZ cs b hi) (fun cs b=>lb j dK cs b l_) eH hy I
     have Ep:∀ k ok,ops[k]? =some ok->k≠i->(listed.setIfInBounds j true).getD k true=false ->
      (∀ e ∈ ok.after,Region.binds .any e=true->e.on≠i)->cZ.apart ops ok=true:=fun k ok ai EB jl iS=>by
      refine m3 k ok ai EB ?_ iS
      by_cases q2:j=k
      · subst q2;exact vC
      · rw [getD_set_ne true q2] at jl;exact jl
     refine wpOp_mono (fun a2 w' au=>⟨fun _=>au.2.1 ZK,bi (listed.setIfInBounds j true) a2 w' Ep PU P3 (ready_mono aB (Ne.symm fc)) au.1 (au.2.1 ZK) ?_⟩) aa
     rw [Array.setIfInBounds_comm _ _ fc]
     exact au.2.2
theorem aea {i:Nat} {cZ:Oper} {v:Value} (hi:ops[i]? =some cZ) (lb:∀ (j:Nat) (o:Oper) cs b,ops[j]? =some o->o.op≠ .select cs b) (sV:p≠i)
 (eH:∀ c a w,Q (.panic c) (a.put cZ.dst v) w->Q (.panic c) a w) :
 ∀ (cD:Nat) (listed:Array Bool) (a:Act) (w:World),
   (∀ j dK,ops[j]? =some dK->j≠i->listed.getD j true=false->(∀ e ∈ dK.after,Region.binds .any e=true->e.on≠i)->cZ.apart ops dK=true) ->
   (listed.getD p false=false->S w)->i ∈ Region.ready .any ops listed->YieldsIf P ops (fun _=>True) cZ v a ->
   ub P .any ops Q p S cD (listed.setIfInBounds i true) (a.put cZ.dst v) w->ub P .any ops Q p S (cD+ 1) listed a w:=by
 have ES:∀ (b':Array Bool) (b:Bool),(b'.setIfInBounds i true).getD p b=b'.getD p b:=fun b' b=>by
  simp only [Array.getD_eq_getD_getElem?,Array.getElem?_setIfInBounds,if_neg (Ne.symm sV)]
 intro cD
 induction cD with
 | zero=>
   intro listed a w _ fb aB hy H
   refine ⟨fun h=>(by rw [h] at aB;cases aB),fun j az=>?_⟩
   by_cases fc:j=i
   · subst fc;exact hy.wpOp hi trivial ⟨fun h=>fb (by rwa [ES] at h),H⟩
   · have:=ready_mono az fc
     rw [H.1] at this
     cases this
 | succ cD bi=>
   intro listed a w m3 fb aB hy H
   refine ⟨fun h=>(by rw [h] at aB;cases aB),fun j az=>?_⟩
   by_cases fc:j=i
   · subst fc;exact hy.wpOp hi trivial ⟨fun h=>fb (by rwa [ES] at h),H⟩
   · have I:=H.2 j (ready_mono az fc)
     obtain ⟨vC,dK,l_,iR⟩:=mem_ready.1 az
     have q3:∀ e ∈ dK.after,Region.binds .any e=true->e.on≠i:=fun e he ah heq=>by
      have I:=iR e he ah
      have aP:=(mem_ready.1 aB).1
      rw [heq] at I
      rcases Nat.lt_or_ge i listed.size with h' | h'
      · simp [h'] at aP I;rw [aP] at I;cases I
      · simp [Array.getElem?_eq_none h'] at I
     have aa:=wpOp_putIf l_ (m3 j dK l_ fc vC q3) (fun cs b=>lb i cZ cs b hi) (fun cs b=>lb j dK cs b l_) eH hy I
     have Ep:∀ k ok,ops[k]? =some ok->k≠i->(listed.setIfInBounds j true).getD k true=false ->
      (∀ e ∈ ok.after,Region.binds .any e=true->e.on≠i)->cZ.apart ops ok=true:=fun k ok ai EB jl iS=>by
      refine m3 k ok ai EB ?_ iS
      by_cases q2:j=k
      · subst q2;exact vC
      · rw [getD_set_ne true q2] at jl;exact jl
     have IC:∀ w',(((listed.setIfInBounds i true).setIfInBounds j true).getD p false=false->S w')->(listed.setIfInBounds j true).getD p false=false->S w':=fun w' ad vE=>
      ad (by rw [Array.setIfInBounds_comm _ _ (Ne.symm fc),ES];exact vE)
     refine wpOp_mono (fun a2 w' au=>⟨IC w' au.2.1,bi (listed.setIfInBounds j true) a2 w' Ep (IC w' au.2.1) (ready_mono aB (Ne.symm fc)) au.1 ?_⟩) aa
     rw [Array.setIfInBounds_comm _ _ fc]
     exact au.2.2
end
def eZ (P:Program) (ops:Array Oper) (Q:Exit->Act->World->Prop) (p:Nat) (S:World->Prop) (f:Nat) (ds:List Nat) (a:Act) (w:World):Prop:=((dJ ops.size ds).getD p false=false->S w)/\ub P .any ops (NoPanic Q) p S f (dJ ops.size ds) a w
def zL (ops:List Oper):List Nat->Option (List Oper)
 | []=>some []
 | i::r=>match nth ops i,zL ops r with
   | some o,some os=>some (o::os)
   | _,_=>none
def abi (ops:Array Oper) (i:Nat):Bool:=match nth ops.toList i with
 | some o=>!BS o.op
 | none=>false
def CF (ops:Array Oper) (p:Nat):List Nat->List Nat->Bool
 | _,[]=>true
 | ds,i::r=>KP ops ds i && (TS ops p i ds || abi ops i) && !Nat.beq p i && CF ops p (i::ds) r
def F1:List Nat->List Nat->List Nat
 | [],ds=>ds
 | i::r,ds=>F1 r (i::ds)
section
variable {P:Program} {G:kR} {ops:Array Oper} {n:cN} {M:List (Nat × Nat × List Value)} {S:World->Prop} {Q:Exit->Act->World->Prop} {a:Act} {w:World} {f p:Nat} {ds:List Nat}
theorem auh (i:Nat):dJ ops.size (i::ds)=(dJ ops.size ds).setIfInBounds i true:=rfl
theorem eZ.wpAny (h:eZ P ops Q p S f ds a w):Go.wpAny P .any ops (NoPanic Q) f (dJ ops.size ds) a w:=aed f _ a w h.2
theorem Hx (hc:(Region.ready .any ops (dJ ops.size ds)).isEmpty=true) (h:Q .normal a w) (fb:(dJ ops.size ds).getD p false=false->S w):eZ P ops Q p S f ds a w:=by
 refine ⟨fb,?_⟩
 have aB:=List.isEmpty_iff.1 hc
 cases f with
 | zero=>exact ⟨aB,NoPanic.normal h⟩
 | succ f=>exact ⟨fun _=>NoPanic.normal h,by rw [aB];simp⟩
theorem eZ.next (rA:Nat) (A0:World->Prop) (aH:(dJ ops.size ds).getD p false=true) (h:eZ P ops Q rA A0 f ds a w):eZ P ops Q p S f ds a w:=
 ⟨fun ag=>absurd (aH.symm.trans ag) (by simp),aeb f _ a w aH h.2⟩
theorem Wc (ey:qp P G) (eB:∀ w,S w->iY w M) (mY:S w) {fL:List (Nat × Value)} {kt:List gp} {kC:List (Nat × Nat)} (aj:lY kC):∀ (is:List Nat) {os:List Oper} {ao ds:List Nat} {a_:List (Nat × Value)} {gs:List gp} {l:List (Nat × Nat)} {a:Act},
 (dJ ops.size ds).getD p false=false->zL ops.toList is=some os->CF ops p ds is=true->Fr n a_ a->k6 a gs->b_ G ops n M os ao a_ gs l=some (fL,kt,kC)->(∀ a2,Fr n fL a2->eZ P ops Q p S f (F1 is ds) a2 w)->eZ P ops Q p S (f+is.length) ds a w
 | [],os,ao,ds,a_,gs,l,a,_,av,_,ag,_,h,ai=>by
   simp only [zL,Option.some.injEq] at av
   subst av
   simp only [b_,Option.some.injEq,Prod.mk.injEq] at h
   exact ai a (by rw [<-h.1];exact ag)
 | i::is,os,ao,ds,a_,gs,l,a,ma,av,aM,ag,ay,h,ai=>by
   simp only [zL] at av
   split at av
   · rename_i o aEr I aa
     simp only [Option.some.injEq] at av
     subst av
     rw [cY,Array.getElem?_toList] at I
     simp only [CF,Bool.and_eq_true,Bool.not_eq_true'] at aM
     obtain ⟨⟨⟨m9,vK⟩,sV⟩,arq⟩:=aM
     have EO:p≠i:=fun e=>by rw [e] at sV;simp at sV
     obtain ⟨d,u,cf,fr',yF,l',⟨aN,fO⟩,dR,fF,h'⟩:=Nz (C:=S) ey eB ag ay h aj (vn aj)
     have PU:(dJ ops.size (i::ds)).getD p false=false:=by
      rw [auh]
      simp only [Array.getD_eq_getD_getElem?,Array.getElem?_setIfInBounds,if_neg (Ne.symm EO)] at ma ⊢
      exact ma
     have next:=Wc ey eB mY aj is PU aa arq dR fF h' ai
     simp only [KP,Bool.and_eq_true] at m9
     refine ⟨fun _=>mY,?_⟩
     have:=next.2
     rw [show f+(i::is).length=f+is.length+ 1 by simp [Nat.add_assoc]]
     rw [Bool.or_eq_true] at vK
     rcases vK with vK | EL
     · refine azH (v:=u) I (Region.noSelect_spec m9.1.1) EO (fun c a w h=>h) (TT vK).1 (TT vK).2.1 (f+is.length) _ a w (Region.free_spec I m9.1.2) ma (TT vK).2.2 (by simpa using m9.2) (fO.imp (fun ⟨x,y,_⟩=>⟨x,y⟩) id) mY ?_
       rw [aN]
       exact this
     · have aqT:BS o.op=false:=by
        unfold abi at EL
        rw [cY,Array.getElem?_toList,I] at EL
        simpa using EL
       refine aea (v:=u) I (Region.noSelect_spec m9.1.1) EO (fun c a w h=>h) (f+is.length) _ a w (Region.free_spec I m9.1.2) (fun _=>mY) (by simpa using m9.2) (fO.imp (fun ⟨x,_,y⟩=>⟨x,fun w _=>y aqT w⟩) id) ?_
       rw [aN]
       exact this
   · cases av
theorem alW (is:List Nat) (k:Nat) (fg ao:List Nat) {os:List Oper} {a_ fr':List (Nat × Value)} {L:List Nat} (ey:qp P G) (eB:∀ w,S w->iY w M) (ag:Fr n a_ a) (ai:Nat.beq is.length k=true) (ma:(dJ ops.size ds).getD p false=false) (hi:zL ops.toList is=some os) (aM:CF ops p ds is=true)
 (he:k4 G ops n M os ao a_ fg=some (fr',dup L)) (mY:S w) (next:∀ a2,Fr n fr' a2->eZ P ops Q p S f (F1 is ds) a2 w):eZ P ops Q p S (f+k) ds a w:=by
 have ai:=Nat.eq_of_beq_eq_true ai
 subst ai
 obtain ⟨fL,kt,I,aa⟩:=NA he
 exact Wc (gs:=[]) ey eB mY (HZ L) is ma hi aM ag trivial I fun a2 dR=>next a2 (dR.sub aa)
theorem k1 (i:Nat) {o:Oper} (hi:ops[i]? =some o) (hc:(Region.ready .any ops (dJ ops.size ds) == [i])=true) (fb:(dJ ops.size ds).getD p false=false->S w) (h:wpList P ops (AN (eZ P ops Q p S f (i::ds)) (NoPanic Q)) [o] a w):eZ P ops Q p S (f+ 1) ds a w:=by
 have aB:=eq_of_beq hc
 refine ⟨fb,⟨fun aP=>(by rw [aB] at aP;cases aP),fun j az=>?_⟩⟩
 rw [aB] at az
 have:j=i:=by simpa using az
 subst this
 exact TX hi h
theorem V_ (i j:Nat) {o cU:Oper} (hi:ops[i]? =some o) (az:ops[j]? =some cU) (hc:(Region.ready .any ops (dJ ops.size ds) == [i,j])=true) (fb:(dJ ops.size ds).getD p false=false->S w) (h:wpList P ops (AN (eZ P ops Q p S f (i::ds)) (NoPanic Q)) [o] a w)
 (h':wpList P ops (AN (eZ P ops Q p S f (j::ds)) (NoPanic Q)) [cU] a w):eZ P ops Q p S (f+ 1) ds a w:=by
 have aB:=eq_of_beq hc
 refine ⟨fb,⟨fun aP=>(by rw [aB] at aP;cases aP),fun q aS=>?_⟩⟩
 rw [aB] at aS
 have:q=i\/q=j:=by simpa using aS
 rcases this with rfl | rfl
 · exact TX hi h
 · exact TX az h'
theorem ji (h:eZ P ops Q p S f ds a w):wpList P ops (AN (eZ P ops Q p S f ds) (NoPanic Q)) [] a w:=h
end
end ax
namespace ax
open Go Go.RowKit J
theorem MD (p q:List UInt8):((⟨⟨p⟩⟩:ByteArray) == ⟨⟨q⟩⟩)=decide (p=q):=by
 show ((⟨p⟩:Array UInt8) == ⟨q⟩)=_
 rw [Bool.eq_iff_iff];simp
structure ki (cJ:Type) [DecidableEq cJ] where
 enc:cJ->Value
 desc:TypeDesc
 same:∀ a b,Instr.sameNow desc (enc a) (enc b)=some (decide (b=a))
 bits:∀ a,Instr.sameBits 10000 (enc a) (enc a)=true
 check:∀ (P:Program) (w:World) (e:Bool) (t:TypeId) (a:cJ),P.underlying t=some desc->(Instr.checkKey e 10000 t (enc a)).run P w= .ok () w
def asq:ki Int where
 enc n:=.int .i64 n
 desc:=.int .i64
 same a b:=by
  simp only [Instr.sameNow,if_true,Option.some.injEq]
  rw [Bool.eq_iff_iff]
  simp only [beq_iff_eq,decide_eq_true_iff]
  exact eq_comm
 bits a:=by
  have h:∀ n,Instr.sameBits n (.int .i64 a) (.int .i64 a)=true:=fun n=>by cases n <;> simp [Instr.sameBits]
  exact h 10000
 check P w e t a h:=by
  have h':∀ n:Nat,(Instr.checkKey e (n+ 1) t (.int .i64 a)).run P w= .ok () w:=fun n=>by simp [Instr.checkKey,run_underlying h]
  exact h' 9999
def lg:ki (List UInt8) where
 enc s:=cm s
 desc:=.string
 same a b:=by
  simp only [Instr.sameNow,Option.some.injEq]
  have e:decide (a=b)=decide (b=a):=by rw [decide_eq_decide];exact eq_comm
  exact (MD a b).trans e
 bits a:=by
  have h:∀ n,Instr.sameBits n (cm a) (cm a)=true:=fun n=>by
   have e:((⟨⟨a⟩⟩:ByteArray) == ⟨⟨a⟩⟩)=true:=(MD a a).trans (by simp)
   cases n <;> (simp only [Instr.sameBits];exact e)
  exact h 10000
 check P w e t a h:=by
  have h':∀ n:Nat,(Instr.checkKey e (n+ 1) t (cm a)).run P w= .ok () w:=fun n=>by simp [Instr.checkKey,run_underlying h]
  exact h' 9999
section
variable {cJ β:Type} [DecidableEq cJ] (K:ki cJ) (b_:β->Value)
def Mh (es:List MapEntry) (d:List (cJ × β)):Prop:=es.map (fun e=>(e.key,e.val))=d.map (fun p=>(K.enc p.1,b_ p.2))
def VP (w:World) (r:Nat) (d:List (cJ × β)):Prop:=∃ es clock,w.heap[r]? =some (.map es clock)/\Mh K b_ es.toList d/\(es.toList.map (·.born)).Pairwise (· < ·)/\ ∀ e ∈ es.toList,e.born <clock
def a7.map (r:Nat) (d:List (cJ × β)):a7 where
 bA:=[r]
 ok w:=VP K b_ w r d
 law w w' h ai:=by
  obtain ⟨es,c,I,aa⟩:=ai
  exact ⟨es,c,(h r (by simp)).trans I,aa⟩
def bw.map (r:Nat) (d:List (cJ × β)):bw where
 ok M w:=r ∉ M/\r <w.heap.size/\VP K b_ w r d
 law M iN w w' af hm h:=by
  obtain ⟨I,aa,es,c,au,bb⟩:=h
  exact ⟨fun ad=>by rcases hm r ad with e | e;exact I e;omega,Nat.lt_of_lt_of_le aa af.size,es,c,(af.block r aa I).trans au,bb⟩
end
section
variable {cJ β:Type} [DecidableEq cJ] {K:ki cJ} {b_:β->Value}
variable {P:Program} {o:Oper} {a:Act} {w:World} {x y z:Operand} {t bT DS:TypeId} {r:Nat} {d:List (cJ × β)} {k:cJ} {v:β}
theorem aDe (av:o.op= .makeMap t none):bh P o a w (.map (some w.heap.size)) (w.alloc (.map #[] 0)):=by
 simp only [bh,execOp,av,Sem.run_bind]
 rfl
end
end ax
namespace ax
open Go Go.RowKit J
def VG (E:List a7):Prop:=∀ (i:Nat) (x:a7),E[i]? =some x->x.bA.Nodup/\ ∀ (j:Nat) (y:a7),E[j]? =some y->i≠j-> ∀ k ∈ x.bA,k ∉ y.bA
theorem ND:∀ {E:List a7},(b7 E).Nodup->VG E
 | [],_=>fun i x h=>by simp at h
 | e::E,h=>by
   have h':(e.bA++b7 E).Nodup:=by simpa [b7] using h
   rw [List.nodup_append] at h'
   obtain ⟨I,aa,au⟩:=h'
   have bi:=ND aa
   intro i x ad
   cases i with
   | zero=>
     simp only [List.getElem?_cons_zero,Option.some.injEq] at ad
     subst ad
     refine ⟨I,fun j y hy b5 k ai cQ=>?_⟩
     cases j with
     | zero=>exact b5 rfl
     | succ j=>exact au k ai k (List.mem_flatMap.2 ⟨y,List.mem_of_getElem? (by simpa using hy),cQ⟩) rfl
   | succ i=>
     have ad:E[i]? =some x:=by simpa using ad
     refine ⟨(bi i x ad).1,fun j y hy b5 k ai cQ=>?_⟩
     cases j with
     | zero=>
       simp only [List.getElem?_cons_zero,Option.some.injEq] at hy
       subst hy
       exact au k cQ k (List.mem_flatMap.2 ⟨x,List.mem_of_getElem? ad,ai⟩) rfl
     | succ j=>exact (bi i x ad).2 j y (by simpa using hy) (by omega) k ai cQ
theorem abp:∀ {E:List a7},VG E->(b7 E).Nodup
 | [],_=>by simp [b7]
 | e::E,h=>by
   have ak:b7 (e::E)=e.bA++b7 E:=by simp [b7]
   rw [ak,List.nodup_append]
   refine ⟨(h 0 e rfl).1,abp fun i x ad=>⟨(h (i+ 1) x (by simpa using ad)).1,fun j y hy b5 k ai=>(h (i+ 1) x (by simpa using ad)).2 (j+ 1) y (by simpa using hy) (by omega) k ai⟩,fun a aD b ah yJ=>?_⟩
   subst yJ
   obtain ⟨x,ad,ai⟩:=List.mem_flatMap.1 ah
   obtain ⟨i,hi,rfl⟩:=List.mem_iff_getElem.1 ad
   exact (h 0 e rfl).2 (i+ 1) E[i] (by simp [hi]) (by omega) a aD ai
def Cz (E:List a7):List Nat->Option (List a7)
 | []=>some []
 | i::r=>match nth E i,Cz E r with
   | some x,some xs=>some (x::xs)
   | _,_=>none
def I5:List Nat->Nat->Bool
 | [],_=>false
 | i::r,j=>Nat.beq i j || I5 r j
def Fs:List Nat->Bool
 | []=>true
 | i::r=>!I5 r i && Fs r
theorem arZ {l:List Nat} {j:Nat} (h:I5 l j=false):j ∉ l:=by
 induction l with
 | nil=>simp
 | cons i r bi=>
   simp only [I5,Bool.or_eq_false_iff] at h
   intro hm
   rcases List.mem_cons.1 hm with rfl | e
   · simp at h
   · exact bi h.2 e
theorem aa4:∀ {l:List Nat},Fs l=true->l.Nodup
 | [],_=>by simp
 | i::r,h=>by
   simp only [Fs,Bool.and_eq_true,Bool.not_eq_true'] at h
   exact List.nodup_cons.2 ⟨arZ h.1,aa4 h.2⟩
theorem KE {E:List a7}:∀ {is:List Nat} {kh:List a7},Cz E is=some kh-> ∀ (m:Nat) (x:a7),kh[m]? =some x-> ∃ i:Nat,is[m]? =some i/\E[i]? =some x
 | [],kh,h,m,x,ad=>by simp only [Cz,Option.some.injEq] at h;subst h;simp at ad
 | i::r,kh,h,m,x,ad=>by
   simp only [Cz] at h
   split at h
   · rename_i y ys I aa
     simp only [Option.some.injEq] at h
     subst h
     cases m with
     | zero=>
       simp only [List.getElem?_cons_zero,Option.some.injEq] at ad
       subst ad
       exact ⟨i,rfl,by rw [<-cY];exact I⟩
     | succ m=>obtain ⟨q,bp,bI⟩:=KE aa m x (by simpa using ad);exact ⟨q,by simpa using bp,bI⟩
   · cases h
section
variable {W w w':World} {M0 X:List Nat} {E:List a7} {D:List bw}
theorem bq.sel (h:bq W M0 X w E D) (is:List Nat) {kh:List a7} (aF:Fs is=true) (ao:Cz E is=some kh):bq W M0 X w kh D:=by
 have kv:∀ x ∈ kh,x ∈ E:=fun x ad=>by
  obtain ⟨m,hm,rfl⟩:=List.mem_iff_getElem.1 ad
  obtain ⟨i,_,hi⟩:=KE ao m _ (List.getElem?_eq_getElem hm)
  exact List.mem_of_getElem? hi
 have ag:∀ k ∈ b7 kh,k ∈ b7 E:=fun k ai=>by
  obtain ⟨x,ad,IU⟩:=List.mem_flatMap.1 ai
  exact List.mem_flatMap.2 ⟨x,kv x ad,IU⟩
 have aN:=ND h.bu
 have sU:=aa4 aF
 refine ⟨h.b_,h.hC,fun k ai=>h.lt k (ag k ai),fun x ad=>h.ok x (kv x ad),abp fun m x ad=>?_,fun y hy=>y.law _ _ w w (br.refl _ _) (fun k ai=>.inl ?_) (h.rd y hy)⟩
 · obtain ⟨i,hi,I2⟩:=KE ao m x ad
   refine ⟨(aN i x I2).1,fun eR y hy b5 k ai=>?_⟩
   obtain ⟨j,az,EW⟩:=KE ao eR y hy
   refine (aN i x I2).2 j y EW (fun e=>?_) k ai
   subst e
   obtain ⟨l1,ak⟩:=List.getElem?_eq_some_iff.1 hi
   obtain ⟨cp,al⟩:=List.getElem?_eq_some_iff.1 az
   rcases Nat.lt_or_gt_of_ne b5 with bx | bx
   · exact (List.pairwise_iff_getElem.1 sU m eR l1 cp bx) (ak.trans al.symm)
   · exact (List.pairwise_iff_getElem.1 sU eR m cp l1 bx) (al.trans ak.symm)
 · rcases List.mem_append.1 ai with e | e
   · exact List.mem_append.2 (.inl e)
   · exact List.mem_append.2 (.inr (ag k e))
theorem Br (A B:List a7):b7 (A++B)=b7 A++b7 B:=by simp [b7]
theorem bq.into (h:bq W M0 X w E D) (m:Nat):bq w (b7 (E.take m)) (X++b7 (E.drop m)) w (E.take m) D:=by
 have a5:b7 E=b7 (E.take m)++b7 (E.drop m):=by rw [<-Br,List.take_append_drop]
 have aN:=h.bu
 rw [a5,List.nodup_append] at aN
 refine ⟨br.refl _ _,fun k ai=>?_,fun k ai=>⟨(h.lt k (by rw [a5];simp [ai])).1,.inl ai⟩,fun x ad=>h.ok x (List.mem_of_mem_take ad),aN.1,fun y hy=>y.law _ _ w w (br.refl _ _) (fun k ai=>.inl ?_) (h.rd y hy)⟩
 · rcases List.mem_append.1 ai with e | e
   · refine ⟨Nat.lt_of_lt_of_le (h.hC k e).1 h.b_.size,fun cQ=>?_⟩
     have:=(h.lt k (by rw [a5];simp [cQ])).2
     rcases this with al | al
     · exact (h.hC k e).2 al
     · have:=(h.hC k e).1;omega
   · exact ⟨(h.lt k (by rw [a5];simp [e])).1,fun cQ=>aN.2.2 k cQ k e rfl⟩
 · rw [a5]
   simp only [List.mem_append] at ai ⊢
   rcases ai with (e | e) | e <;> simp [e]
def Mk:List bw->Prop
 | []=>True
 | y::r=>(∀ M iN w w',y.ok M w->y.ok iN w')/\Mk r
theorem VH:∀ {D:List bw},Mk D-> ∀ y ∈ D,∀ M iN w w',y.ok M w->y.ok iN w'
 | [],_,y,hy=>by simp at hy
 | z::r,h,y,hy=>by
   rcases List.mem_cons.1 hy with rfl | e
   · exact h.1
   · exact VH h.2 y e
theorem bq.Wi (h:bq W M0 X w E D) (m:Nat) {sc:List Nat} {qu:List a7} {fU:List bw} (k:bq w (b7 (E.take m)) sc w' qu fU) (d_:∀ y ∈ fU,y.ok (X++b7 (qu++E.drop m)) w'):bq W M0 X w' (qu++E.drop m) (fU++D):=by
 have a5:b7 E=b7 (E.take m)++b7 (E.drop m):=by rw [<-Br,List.take_append_drop]
 have aN:=h.bu
 rw [a5,List.nodup_append] at aN
 have l6:∀ b ∈ b7 (E.take m),b <w.heap.size/\(b ∈ M0\/W.heap.size<=b):=fun b ah=>h.lt b (by rw [a5];simp [ah])
 have eV:∀ b ∈ b7 (E.drop m),b <w.heap.size/\(b ∈ M0\/W.heap.size<=b):=fun b ah=>h.lt b (by rw [a5];simp [ah])
 have af:=k.b_
 have Eh:∀ b ∈ b7 qu,b ∉ b7 (E.drop m):=fun b ah fN=>by
  rcases (k.lt b ah).2 with e | e
  · exact aN.2.2 b e b fN rfl
  · have:=(eV b fN).1;omega
 refine ⟨h.b_.trans af (fun b ah=>(l6 b ah).2),h.hC,fun b ah=>?_,fun x ad=>?_,?_,fun y hy=>?_⟩
 · rw [Br] at ah
   rcases List.mem_append.1 ah with e | e
   · refine ⟨(k.lt b e).1,?_⟩
     rcases (k.lt b e).2 with al | al
     · exact (l6 b al).2
     · exact .inr (Nat.le_trans h.b_.size al)
   · exact ⟨Nat.lt_of_lt_of_le (eV b e).1 af.size,(eV b e).2⟩
 · rcases List.mem_append.1 ad with e | e
   · exact k.ok x e
   · refine x.law w w' (fun b ah=>?_) (h.ok x (List.mem_of_mem_drop e))
     have fN:b ∈ b7 (E.drop m):=List.mem_flatMap.2 ⟨x,e,ah⟩
     exact af.block b (eV b fN).1 (fun ai=>aN.2.2 b ai b fN rfl)
 · rw [Br,List.nodup_append]
   exact ⟨k.bu,aN.2.1,fun a aD b ah e=>by subst e;exact Eh a aD ah⟩
 · rcases List.mem_append.1 hy with e | e
   · exact d_ y e
   · refine y.law _ _ w w' (af.mono fun b ah=>?_) (fun b ah=>?_) (h.rd y e)
     · rw [a5];simp [ah]
     · rw [Br] at ah
       rw [a5]
       simp only [List.mem_append] at ah ⊢
       rcases ah with ak | ak | ak
       · simp [ak]
       · rcases (k.lt b ak).2 with al | al
         · simp [al]
         · exact .inr al
       · simp [ak]
theorem bq.back (h:bq W M0 X w E D) (m:Nat) {qu:List a7} {fU:List bw} (k:bq w (b7 (E.take m)) (X++b7 (E.drop m)) w' qu fU):bq W M0 X w' (qu++E.drop m) (fU++D):=
 h.Wi m k fun y hy=>y.law _ _ w' w' (br.refl _ _) (fun b ah=>.inl (by
   rw [Br] at ah
   simp only [List.mem_append] at ah ⊢
   rcases ah with e | e | e <;> simp [e])) (k.rd y hy)
theorem bq.fY (h:bq W M0 X w E D) (m:Nat) {sc:List Nat} {qu:List a7} {fU:List bw} (aI:Mk fU) (k:bq w (b7 (E.take m)) sc w' qu fU):bq W M0 X w' (qu++E.drop m) (fU++D):=
 h.Wi m k fun y hy=>VH aI y hy _ _ _ _ (k.rd y hy)
end
end ax
namespace ax
open Go Go.RowKit J
section
variable {P:Program} {ops:Array Oper} {Q:Exit->Act->World->Prop} {a:Act} {w:World} {rest:List Oper} {o:Oper} {n:cN} {d:Nat} {l:List (Nat × Value)}
 {W:World} {M0 X:List Nat} {E:List a7} {D:List bw}
theorem bq.acQ (h:bq W M0 X w E D) {α:Type} {T:dh α} {xs:List Value} {li:List α} (aB:dT T (hH (X++b7 E) w) w xs li):bq W M0 X w E (bw.rows T xs li::D):=h.more aB
theorem KD {α:Type} {T:dh α} {t e:TypeId} {x y:Operand} {z:Value} {bytes m c:Nat} {v:Value} {li ml l':List α} {xs cs:List Value} {ej:Addr} (i:Nat) (hm:bq W M0 X w E D) (hi:E[i]? =some (a7.row e T.size v li xs))
 (dB:P.underlying t=some (.slice e)) (jH:(P.info? e).map (fun i=>(i.zero,i.size,i.bytes))=some (some z,T.size,bytes)) (aj:z.cells.size=T.size) (dI:0 <T.size)
 (aB:bO bytes li ml=some l') (vD:ml.length=m) (l7:0 <bytes)
 (jm:dT T (hH (X++b7 E) w) w xs li) (hcs:dT T (hH (X++b7 E) w) w cs ml) (im:∀ j u,cs[j]? =some u->w.cell? (ej.add j)=some u)
 (hw:Region.wanted o (yielded ops a.tmps)=true)
 (av:o.op= .call { callee:=.builtin .append,args:=#[x,y],argTypes:=#[t,t] }) (ad:a.eval x=v) (hy:a.eval y= .slice (some ej) m c) (ag:Fr n l a) (aN:o.dst=some d) (aF:Nat.blt d n=true)
 (k:∀ a2 A bF w',br v.ownBlock.toList w w'->Fr n ((d,.slice A l'.length bF)::l) a2->bq W M0 X w' (E.set i (a7.row e T.size (.slice A l'.length bF) l' (xs++cs))) (bw.rows T (xs++cs) l'::D)->wpList P ops Q rest a2 w'):wpList P ops Q (o::rest) a w:=by
 obtain ⟨i0,Ew,Z2,y2,qT⟩:=Z6 jH
 obtain ⟨O7,rfl⟩:=Hz aB
 have jZ:w.ownsRow 0 e T.size v li.length xs:=hm.e i hi
 subst vD
 have apT:li.length+ml.length<=maxLen:=by
  have aa:=Nat.le_mul_of_pos_right (li.length+ml.length) l7
  simp only [maxLen]
  omega
 obtain ⟨fi,w',g_,aa,au,_,c0⟩:=run_append_own_at (P:=P) w 0 t o.type e i0 z T.size bytes dB Ew Z2 y2 qT aj dI v li.length xs jZ ej ml.length c cs (tR T hcs)
  im (Cs T hcs) apT O7 (Nat.zero_le _)
 have od:(a7.row e T.size fi (li++ml) (xs++cs)).ok w':=by
  show w'.ownsRow 0 e T.size fi (li++ml).length (xs++cs)
  rw [List.length_append];exact aa
 obtain ⟨A,bF,rfl,_⟩:=F2 od
 have na:bh P o a w (.slice A (li++ml).length bF) w':=by
  simp only [bh,execOp,av,resolve,invoke,builtin,Sem.run_bind,Sem.run_pure,Result.andThen_ok,List.map_toArray,List.map_cons,List.map_nil,ad,hy,g_]
 have yX:=hm.acQ (FU T hcs jm)
 refine nz hw na ag aN aF fun a2 dR=>k a2 A bF w' (br.grown au) dR (yX.KV i hi (br.grown au) od (avn _) fun q aS=>?_)
 have sW:(Value.slice A (li++ml).length bF).ownBlock=some q:=by simpa [a7.row] using aS
 rcases c0 with dn | dn
 · left;simpa [a7.row,<-dn] using sW
 · right
   rw [dn] at sW
   injection sW with sW
   subst sW
   refine ⟨Nat.le_refl _,?_⟩
   rcases aa.2 with ⟨af,_⟩ | ⟨g',cap,cur,af,_,fF,_⟩
   · rw [af] at dn;simp [Value.ownBlock] at dn
   · rw [af] at dn
     have:g'=w.heap.size:=by simpa [Value.ownBlock] using dn
     subst this
     exact (Array.getElem?_eq_some_iff.1 fF).1
theorem F5 {α:Type} {T:dh α} {t e:TypeId} {x y:Operand} {z:Value} {bytes g m c:Nat} {v:Value} {li ml l':List α} {xs cs:List Value} (i j q:Nat) (hm:bq W M0 X w E D) (hi:E[i]? =some (a7.row e T.size v li xs)) (az:E[j]? =some (a7.dV g e cs)) (aS:D[q]? =some (bw.rows T xs li))
 (dB:P.underlying t=some (.slice e)) (jH:(P.info? e).map (fun i=>(i.zero,i.size,i.bytes))=some (some z,T.size,bytes)) (aj:z.cells.size=T.size) (dI:Nat.blt 0 T.size=true)
 (aB:bO bytes li ml=some l') (vD:ml.length=m) (l7:Nat.blt 0 bytes=true) (hcs:dT T (hH (X++b7 E) w) w cs ml)
 (hw:Region.wanted o (yielded ops a.tmps)=true)
 (av:o.op= .call { callee:=.builtin .append,args:=#[x,y],argTypes:=#[t,t] }) (ad:a.eval x=v) (hy:a.eval y= .slice (some ⟨g,0,none⟩) m c) (ag:Fr n l a) (aN:o.dst=some d) (aF:Nat.blt d n=true)
 (k:∀ a2 A bF eT w',Fr n ((d,.slice A l'.length bF)::l) a2->bq W M0 X w' ((E.set i (a7.row e T.size (.slice A l'.length bF) l' eT)).eraseIdx j) (bw.rows T eT l'::D)->wpList P ops Q rest a2 w'):wpList P ops Q (o::rest) a w:=by
 have ah:=hm.e j az
 exact KD i hm hi dB jH aj (Nat.le_of_ble_eq_true dI) aB vD (Nat.le_of_ble_eq_true l7) (hm.d q aS) hcs (fun j u hu=>by rw [jQ];simpa using u' ah hu) hw av ad hy ag aN aF
  fun a2 A bF w' _ dR ea=>k a2 A bF _ w' dR (ea.H0 j)
theorem Tk {α:Type} {T:dh α} {t e:TypeId} {x y:Operand} {z:Value} {bytes g m c:Nat} {v:Value} {li ml l':List α} {xs cs:List Value} (i j q:Nat) (hm:bq W M0 X w E D) (hi:E[i]? =some (a7.row e T.size v li xs)) (az:E[j]? =some (a7.dV g e cs)) (aS:D[q]? =some (bw.rows T xs li))
 (dB:P.underlying t=some (.slice e)) (jH:(P.info? e).map (fun i=>(i.zero,i.size,i.bytes))=some (some z,T.size,bytes)) (aj:z.cells.size=T.size) (dI:Nat.blt 0 T.size=true)
 (aB:bO bytes li ml=some l') (vD:ml.length=m) (l7:Nat.blt 0 bytes=true) (hcs:dT T (hH (X++b7 E) w) w cs ml)
 (hw:Region.wanted o (yielded ops a.tmps)=true)
 (av:o.op= .call { callee:=.builtin .append,args:=#[x,y],argTypes:=#[t,t] }) (ad:a.eval x=v) (hy:a.eval y= .slice (some ⟨g,0,none⟩) m c) (ag:Fr n l a) (aN:o.dst=some d) (aF:Nat.blt d n=true)
 (k:∀ a2 A bF eT w',br v.ownBlock.toList w w'->Fr n ((d,.slice A l'.length bF)::l) a2->bq W M0 X w' ((E.set i (a7.row e T.size (.slice A l'.length bF) l' eT)).eraseIdx j) (bw.rows T eT l'::D)->wpList P ops Q rest a2 w'):wpList P ops Q (o::rest) a w:=by
 have ah:=hm.e j az
 exact KD i hm hi dB jH aj (Nat.le_of_ble_eq_true dI) aB vD (Nat.le_of_ble_eq_true l7) (hm.d q aS) hcs (fun j u hu=>by rw [jQ];simpa using u' ah hu) hw av ad hy ag aN aF
  fun a2 A bF w' af dR ea=>k a2 A bF _ w' af dR (ea.H0 j)
theorem aCY {t e:TypeId} {x y:Operand} {v:Value} {sz k:Nat} {xs:List Value} {z:Value} {bytes:Nat} (dB:P.underlying t=some (.slice e)) (jH:(P.info? e).map (fun i=>(i.zero,i.size,i.bytes))=some (some z,sz,bytes)) (jZ:w.ownsRow 0 e sz v k xs)
 (av:o.op= .call { callee:=.builtin .append,args:=#[x,y],argTypes:=#[t,t] }) (ad:a.eval x=v) (hy:a.eval y= .slice none 0 0):bh P o a w v w:=by
 obtain ⟨i0,Ew,Z2,y2,qT⟩:=Z6 jH
 have g_:=run_append_owned_none (P:=P) (w:=w) 0 t o.type e i0 sz dB Ew v k xs jZ
 simp only [bh,execOp,av,resolve,invoke,builtin,Sem.run_bind,Sem.run_pure,Result.andThen_ok,List.map_toArray,List.map_cons,List.map_nil,ad,hy,g_]
theorem ayL {α:Type} {T:dh α} {t e:TypeId} {x y:Operand} {z:Value} {bytes c:Nat} {v:Value} {li ml l':List α} {xs:List Value} {oZ:Option Addr} (i q p:Nat) (hm:bq W M0 X w E D) (hi:E[i]? =some (a7.row e T.size v li xs)) (aS:D[q]? =some (bw.rows T xs li)) (aH:D[p]? =some (bw.of (b3 T) [.slice oZ ml.length c] ml))
 (dB:P.underlying t=some (.slice e)) (jH:(P.info? e).map (fun i=>(i.zero,i.size,i.bytes))=some (some z,T.size,bytes)) (aj:z.cells.size=T.size) (dI:Nat.blt 0 T.size=true)
 (aB:bO bytes li ml=some l') (l7:Nat.blt 0 bytes=true)
 (hw:Region.wanted o (yielded ops a.tmps)=true)
 (av:o.op= .call { callee:=.builtin .append,args:=#[x,y],argTypes:=#[t,t] }) (ad:a.eval x=v) (hy:a.eval y= .slice oZ ml.length c) (ag:Fr n l a) (aN:o.dst=some d) (aF:Nat.blt d n=true)
 (k:∀ a2 A bF eT w',br v.ownBlock.toList w w'->Fr n ((d,.slice A l'.length bF)::l) a2->bq W M0 X w' (E.set i (a7.row e T.size (.slice A l'.length bF) l' eT)) (bw.rows T eT l'::D)->wpList P ops Q rest a2 w'):wpList P ops Q (o::rest) a w:=by
 have jm:=hm.d q aS
 have aqj:(b3 T).rd (hH (X++b7 E) w) w [.slice oZ ml.length c] ml:=hm.d p aH
 obtain ⟨ec,c1,ak,al,aT,bU,dn⟩:=aqj
 simp only [List.cons.injEq,Value.slice.injEq,and_true,true_and] at ak
 obtain ⟨rfl,rfl⟩:=ak
 by_cases vD:ml= []
 · subst vD
   cases oZ with
   | none=>
     have l8:=bU rfl
     subst l8
     have jZ:w.ownsRow 0 e T.size v li.length xs:=hm.e i hi
     have od:(a7.row e T.size v li xs).ok w:=hm.e i hi
     obtain ⟨A,bF,rfl,_⟩:=F2 od
     obtain ⟨_,rfl⟩:=Hz aB
     refine nz hw (aCY dB jH jZ av ad hy) ag aN aF fun a2 dR=>?_
     have ap:li++[]=li:=List.append_nil li
     refine k a2 A bF xs w (br.refl _ w) (by rw [ap];exact dR) ?_
     rw [ap]
     have a5:E.set i (a7.row e T.size (.slice A li.length bF) li xs)=E:=by
      obtain ⟨bx,he⟩:=List.getElem?_eq_some_iff.1 hi
      rw [<-he,List.set_getElem_self]
     rw [a5]
     exact hm.more jm
   | some ej=>
     exact KD (cs:=[]) i hm hi dB jH aj (Nat.le_of_ble_eq_true dI) aB rfl (Nat.le_of_ble_eq_true l7) jm rfl (fun j u hu=>by simp at hu) hw av ad hy ag aN aF fun a2 A bF w' af dR ea=>k a2 A bF _ w' af dR ea
 · obtain ⟨dO,bE,cs,fM,iQ⟩:=dn vD
   rw [dO] at hy
   exact KD (cs:=cs) i hm hi dB jH aj (Nat.le_of_ble_eq_true dI) aB rfl (Nat.le_of_ble_eq_true l7) jm fM (fun j u hu=>by rw [jQ];exact iQ j u hu) hw av ad hy ag aN aF fun a2 A bF w' af dR ea=>k a2 A bF _ w' af dR ea
theorem ayK {α:Type} {T:dh α} {t e:TypeId} {x y:Operand} {z:Value} {bytes c:Nat} {v:Value} {li ml l':List α} {xs:List Value} {oZ:Option Addr} (i q p:Nat) (hm:bq W M0 X w E D) (hi:E[i]? =some (a7.row e T.size v li xs)) (aS:D[q]? =some (bw.rows T xs li)) (aH:D[p]? =some (bw.of (b3 T) [.slice oZ ml.length c] ml))
 (dB:P.underlying t=some (.slice e)) (jH:(P.info? e).map (fun i=>(i.zero,i.size,i.bytes))=some (some z,T.size,bytes)) (aj:z.cells.size=T.size) (dI:Nat.blt 0 T.size=true)
 (aB:bO bytes li ml=some l') (l7:Nat.blt 0 bytes=true)
 (hw:Region.wanted o (yielded ops a.tmps)=true)
 (av:o.op= .call { callee:=.builtin .append,args:=#[x,y],argTypes:=#[t,t] }) (ad:a.eval x=v) (hy:a.eval y= .slice oZ ml.length c) (ag:Fr n l a) (aN:o.dst=some d) (aF:Nat.blt d n=true)
 (k:∀ a2 A bF eT w',Fr n ((d,.slice A l'.length bF)::l) a2->bq W M0 X w' (E.set i (a7.row e T.size (.slice A l'.length bF) l' eT)) (bw.rows T eT l'::D)->wpList P ops Q rest a2 w'):wpList P ops Q (o::rest) a w:=
 ayL i q p hm hi aS aH dB jH aj dI aB l7 hw av ad hy ag aN aF fun a2 A bF eT w' _=>k a2 A bF eT w'
theorem wM {x:Value} {y:Nat} {code:BoundsCode} {k:IntKind} {i:Int} (ad:x= .int k i) (h:0 <=i/\i<=y):(Instr.sliceBound x y code).run P w= .ok i.toNat w:=by
 subst ad
 simp [Instr.sliceBound,asIntOf,h]
end
end ax
namespace ax
open Go Go.RowKit J
section
variable {α:Type} {T:dh α}
theorem S3 {F:Nat->Prop} {w:World} {d':α} {jB:List Value} (h':T.rd F w jB d'):∀ {li:List α} {xs:List Value} {i:Nat},dT T F w xs li->i <li.length->dT T F w (xs.take (i*T.size)++jB++xs.drop (i*T.size+T.size)) (li.set i d')
 | [],_,i,_,hi=>by simp at hi
 | d::r,xs,0,h,_=>by
   obtain ⟨cs,ys,rfl,I,aa⟩:=h
   have ap:=T.len I
   refine ⟨jB,ys,?_,h',aa⟩
   simp [<-ap]
 | d::r,xs,i+ 1,h,hi=>by
   obtain ⟨cs,ys,rfl,I,aa⟩:=h
   have ap:=T.len I
   have bi:=S3 h' aa (i:=i) (by simpa using hi)
   refine ⟨cs,_,?_,I,bi⟩
   have ak:(i+ 1)*T.size=cs.length+i*T.size:=by rw [Nat.add_mul];omega
   rw [ak,List.take_append,List.take_of_length_le (by omega),show cs.length+i*T.size - cs.length=i*T.size by omega,List.drop_append,List.drop_of_length_le (l:=cs) (by omega),
    show cs.length+i*T.size+T.size - cs.length=i*T.size+T.size by omega]
   simp
end
theorem Ty {β:Type} {L vs:List β} {p N:Nat} (I:p+vs.length<=N) (aa:N<=L.length):(L.take p++vs++L.drop (p+vs.length)).take N=(L.take N).take p++vs++(L.take N).drop (p+vs.length):=by
 have ap:(L.take p++vs).length=p+vs.length:=by rw [List.length_append,List.length_take];omega
 rw [List.take_append,List.take_of_length_le (by omega),ap,List.take_take,Nat.min_eq_left (by omega),List.drop_take]
section
variable {P:Program} {ops:Array Oper} {Q:Exit->Act->World->Prop} {a:Act} {w:World} {rest:List Oper} {o:Oper} {n:cN} {d:Nat} {l:List (Nat × Value)}
 {W:World} {M0 X:List Nat} {E:List a7} {D:List bw}
theorem Ys {xs cs:List Value} {p:Nat} (h:∀ j u,cs[j]? =some u->xs[p+j]? =some u):(xs.drop p).take cs.length=cs:=by
 apply List.ext_getElem?
 intro j
 rw [List.getElem?_take]
 by_cases az:j <cs.length
 · rw [if_pos az,List.getElem?_drop,List.getElem?_eq_getElem az]
   exact h j _ (List.getElem?_eq_getElem az)
 · rw [if_neg az,List.getElem?_eq_none (by omega)]
theorem ayX {α:Type} {T:dh α} {t e:TypeId} {x y:Operand} {A:Option Addr} {c kk sz:Nat} {li:List α} {xs cs0 vs:List Value} {z:Int} {d0 d':α} {v:Value} (i q:Nat) (hm:bq W M0 X w E D) (hi:E[i]? =some (a7.row e T.size (.slice A li.length c) li xs)) (aS:D[q]? =some (bw.rows T xs li))
 (aj:idx li z=some d0) (hcs:T.rd (hH (X++b7 E) w) w cs0 d0) (hL:e0 w ⟨dm A,gg A+z.toNat*T.size,none⟩ cs0) (hw:Region.wanted o (yielded ops a.tmps)=true)
 (af:v.cells=vs.toArray) (ao:∀ w,(Go.sizeOf t).run P w= .ok sz w) (ap:Nat.beq vs.length sz=true) (I:vs.all (·.oneCell')=true) (hle:Nat.ble (kk+vs.length) cs0.length=true)
 (EJ:T.rd (hH (X++b7 E) w) w (lay cs0 kk vs) d')
 (av:o.op= .store t x y) (ad:a.eval x= .pointer (some ⟨dm A,gg A+z.toNat*T.size+kk,none⟩)) (hy:a.eval y=v) (aN:o.dst=none)
 (k:∀ eT w',br (Value.slice A li.length c).ownBlock.toList w w'->bq W M0 X w' (E.set i (a7.row e T.size (.slice A li.length c) (li.set z.toNat d') eT)) (bw.rows T eT (li.set z.toNat d')::D)->wpList P ops Q rest a w'):wpList P ops Q (o::rest) a w:=by
 obtain ⟨hT,xE,Dd⟩:=j0 aj
 have hlen:vs.length=sz:=Nat.eq_of_beq_eq_true ap
 have BI:kk+vs.length<=cs0.length:=Nat.le_of_ble_eq_true hle
 have l8:=T.len hcs
 have jZ:w.ownsRow 0 e T.size (.slice A li.length c) li.length xs:=hm.e i hi
 have ari:dT T (hH (X++b7 E) w) w xs li:=hm.d q aS
 rcases jZ.2 with ⟨_,cF⟩ | ⟨g,cap,cur,ak,_,ay,ZG,qX,Pd,arr⟩
 · omega
 simp only [Value.slice.injEq,true_and] at ak
 obtain ⟨rfl,rfl⟩:=ak
 have apU:dm (some ⟨g,0,none⟩)=g:=rfl
 have aqX:gg (some ⟨g,0,none⟩)= 0 :=rfl
 simp only [apU,aqX,Nat.zero_add] at ad hL
 have hmul:(z.toNat+ 1)*T.size<=li.length*T.size:=Nat.mul_le_mul_right _ xE
 have aEc:li.length*T.size<=c*T.size:=Nat.mul_le_mul_right _ ZG
 have aEf:(z.toNat+ 1)*T.size=z.toNat*T.size+T.size:=by rw [Nat.add_mul,Nat.one_mul]
 have oh:xs.length=li.length*T.size:=jZ.1
 have hold:(xs.drop (z.toNat*T.size)).take cs0.length=cs0:=Ys fun j u az=>by
  have:=hL j u az
  have jk:j <cs0.length:=(List.getElem?_eq_some_iff.1 az).1
  rw [World.ownsRow.cellAt jZ (z.toNat*T.size+j) (by omega)] at this
  exact this
 have gv:=run_storeCells_at P g (z.toNat*T.size+kk) e vs 0 cur w ay (by omega) (fun u hu=>List.all_eq_true.1 I u hu)
 simp only [Nat.add_zero] at gv
 obtain ⟨p,aH⟩:∃ p,p=z.toNat*T.size+kk:=⟨_,rfl⟩
 rw [<-aH] at gv ad
 have aD7:cur.toList.length=c*T.size:=by simpa using Pd
 obtain ⟨eT,P7⟩:∃ eT,eT=xs.take p++vs++xs.drop (p+vs.length):=⟨_,rfl⟩
 have aqS:eT=xs.take (z.toNat*T.size)++lay cs0 kk vs++xs.drop (z.toNat*T.size+T.size):=by
  rw [P7,QM _ _ _ BI]
  have aro:xs=xs.take (z.toNat*T.size)++(cs0++xs.drop (z.toNat*T.size+T.size)):=by
   conv=>lhs;rw [<-List.take_append_drop (z.toNat*T.size) xs]
   congr 1
   rw [<-List.take_append_drop cs0.length (xs.drop (z.toNat*T.size)),hold,List.drop_drop,l8]
  have sS:(xs.take (z.toNat*T.size)).length=z.toNat*T.size:=by rw [List.length_take];omega
  conv=>lhs;rw [aro]
  rw [List.take_append,List.take_of_length_le (by rw [sS];omega),sS,List.drop_append,List.drop_of_length_le (l:=xs.take (z.toNat*T.size)) (by rw [sS];omega),sS,
   show p - z.toNat*T.size=kk by omega,show p+vs.length - z.toNat*T.size=kk+vs.length by omega,List.take_append_of_le_length (by omega),List.drop_append_of_le_length (by omega)]
  simp
 have arN:eT.length=li.length*T.size:=by
  rw [P7];simp only [List.length_append,List.length_take,List.length_drop];omega
 have od:(a7.row e T.size (.slice (some ⟨g,0,none⟩) li.length c) (li.set z.toNat d') eT).ok (w.setRow g (cur.toList.take p++vs++cur.toList.drop (p+vs.length)).toArray):=by
  show World.ownsRow _ 0 e T.size _ (li.set z.toNat d').length eT
  rw [List.length_set]
  refine ⟨arN,.inr ⟨g,c,(cur.toList.take p++vs++cur.toList.drop (p+vs.length)).toArray,rfl,Nat.zero_le _,?_,ZG,qX,?_,?_⟩⟩
  · simp only [World.setRow,Array.getElem?_modify,if_true,ay]
    rfl
  · simp only [List.size_toArray,List.length_append,List.length_take,List.length_drop];omega
  · rw [List.toList_toArray,P7,<-arr]
    exact Ty (by omega) (by omega)
 have P_:pa P o a w (w.setRow g (cur.toList.take p++vs++cur.toList.drop (p+vs.length)).toArray):=by
  simp only [pa,execOp,av,ad,hy]
  simp only [List.append_assoc,hlen] at gv ⊢
  have ff:=af
  unfold Value.cells at ff
  simp [go_sem,Instr.storeAt,storeVar,ao,ff,hlen,gv]
 have yX:=hm.acQ (T:=T) (xs:=eT) (li:=li.set z.toNat d') (by rw [aqS];exact S3 EJ ari xE)
 have jF:br (Value.slice (some ⟨g,0,none⟩) li.length c).ownBlock.toList w (w.setRow g (cur.toList.take p++vs++cur.toList.drop (p+vs.length)).toArray):=⟨rfl,rfl,rfl,by simp [World.setRow],fun b _ aF=>by
  simp only [World.setRow,Array.getElem?_modify]
  rw [if_neg (by simpa [Value.ownBlock,eq_comm] using aF)]⟩
 exact iB hw P_ aN (k eT _ jF (yX.KV i hi jF od (by simp [a7.row,Value.ownBlock]) (fun b ah=>.inl (by simpa [a7.row] using ah))))
theorem ayY {α:Type} {T:dh α} {t e:TypeId} {x y:Operand} {A:Option Addr} {c kk sz:Nat} {li cp:List α} {xs cs0 vs:List Value} {z:Int} {d0 d':α} {v:Value} (i q:Nat) (yT:some (li.set z.toNat d')=some cp) (hm:bq W M0 X w E D) (hi:E[i]? =some (a7.row e T.size (.slice A li.length c) li xs)) (aS:D[q]? =some (bw.rows T xs li))
 (aj:idx li z=some d0) (hcs:T.rd (hH (X++b7 E) w) w cs0 d0) (hL:e0 w ⟨dm A,gg A+z.toNat*T.size,none⟩ cs0) (hw:Region.wanted o (yielded ops a.tmps)=true)
 (af:v.cells=vs.toArray) (ao:∀ w,(Go.sizeOf t).run P w= .ok sz w) (ap:Nat.beq vs.length sz=true) (I:vs.all (·.oneCell')=true) (hle:Nat.ble (kk+vs.length) cs0.length=true)
 (EJ:T.rd (hH (X++b7 E) w) w (lay cs0 kk vs) d')
 (av:o.op= .store t x y) (ad:a.eval x= .pointer (some ⟨dm A,gg A+z.toNat*T.size+kk,none⟩)) (hy:a.eval y=v) (aN:o.dst=none)
 (k:∀ eT w',li.length=cp.length->br (Value.slice A li.length c).ownBlock.toList w w'->bq W M0 X w' (E.set i (a7.row e T.size (.slice A li.length c) cp eT)) (bw.rows T eT cp::D)->wpList P ops Q rest a w'):wpList P ops Q (o::rest) a w:=by
 obtain rfl:=Option.some.inj yT
 exact ayX i q hm hi aS aj hcs hL hw af ao ap I hle EJ av ad hy aN fun eT w'=>k eT w' (by rw [List.length_set])
theorem ayw {A:Option Addr} {m c sz:Nat} {t e:TypeId} {lo hi:Option Value} {i j:Int} (aM:P.underlying t=some (.slice e)) (ao:∀ w,(Go.sizeOf e).run P w= .ok sz w)
 (m6:(lo=none/\i= 0)\/lo=some (.int .i64 i)) (jG:(hi=none/\j=m)\/hi=some (.int .i64 j)) (h:0 <=i/\i<=j/\j<=m) (ZC:m<=c) :
 (Instr.slice t (.slice A m c) lo hi none).run P w= .ok (.slice (if c=i.toNat then A else A.map (·.add (i.toNat*sz))) (j.toNat - i.toNat) (c - i.toNat)) w:=by
 have ah:(Instr.sliceBounds true m c lo hi none).run P w= .ok (i.toNat,j.toNat,c) w:=by
  have bZ:∀ code,(Instr.sliceBound (.int .i64 j) c code).run P w= .ok j.toNat w:=fun code=>wM rfl (by omega)
  have ed:∀ code,(Instr.sliceBound (.int .i64 i) j.toNat code).run P w= .ok i.toNat w:=fun code=>wM rfl (by omega)
  have fX:j=m-> ∀ code,(Instr.sliceBound (.int .i64 i) m code).run P w= .ok i.toNat w:=fun e code=>wM rfl (by omega)
  rcases m6 with ⟨rfl,rfl⟩ | rfl <;> rcases jG with ⟨rfl,az⟩ | rfl
  · simp [Instr.sliceBounds,az]
  · simp [Instr.sliceBounds,bZ]
  · simp [Instr.sliceBounds,fX az,az]
  · simp [Instr.sliceBounds,bZ,ed]
 simp [Instr.slice,run_underlying aM,ah,ao]
theorem L0 {A:Option Addr} {m c sz:Nat} {t e:TypeId} {x:Operand} {lo hi:Option Operand} {i j:Int} (aM:P.underlying t=some (.slice e)) (ao:∀ w,(Go.sizeOf e).run P w= .ok sz w) (av:o.op= .slice t x lo hi none) (ad:a.eval x= .slice A m c)
 (m6:(lo=none/\i= 0)\/ ∃ z,lo=some z/\a.eval z= .int .i64 i) (jG:(hi=none/\j=m)\/ ∃ z,hi=some z/\a.eval z= .int .i64 j) (h:0 <=i/\i<=j/\j<=m) (ZC:m<=c) :
 bh P o a w (.slice (if c=i.toNat then A else A.map (·.add (i.toNat*sz))) (j.toNat - i.toNat) (c - i.toNat)) w:=by
 have aB:=ayw (P:=P) (w:=w) (A:=A) (m:=m) (c:=c) (lo:=lo.map a.eval) (hi:=hi.map a.eval) aM ao (i:=i) (j:=j)
  (m6.imp (fun h=>⟨by rw [h.1];rfl,h.2⟩) (fun ⟨z,I,aa⟩=>by rw [I,Option.map_some,aa])) (jG.imp (fun h=>⟨by rw [h.1];rfl,h.2⟩) (fun ⟨z,I,aa⟩=>by rw [I,Option.map_some,aa])) h ZC
 simp only [bh,execOp,av,ad,Instr.sliceAt,Sem.run_bind,run_underlying aM,Result.andThen_ok,Option.map_none,aB]
 rfl
theorem MV {α:Type} {l r:List α} {i j:Int} (h:cut l i j=some r):(0 <=i/\i<=j/\j<=l.length)/\r=(l.take j.toNat).drop i.toNat:=by
 unfold cut at h
 split at h
 · rename_i aP;exact ⟨aP,by simpa using h.symm⟩
 · cases h
theorem rF {α:Type} {T:dh α} {F:Nat->Prop} {w:World}:∀ {l:List α} {xs:List Value} (i j:Nat),dT T F w xs l->dT T F w ((xs.take (j*T.size)).drop (i*T.size)) ((l.take j).drop i)
 | [],xs,i,j,h=>by
   have h:xs= []:=h
   subst h
   have e:(([]:List α).take j).drop i= []:=by simp
   rw [e]
   show List.drop _ (List.take _ _)= []
   simp
 | d::r,xs,i,0,h=>by
   have e:((d::r).take 0).drop i= []:=by simp
   rw [e]
   show List.drop _ (List.take _ _)= []
   simp
 | d::r,xs,0,j+ 1,h=>by
   obtain ⟨cs,ys,rfl,I,aa⟩:=h
   have ap:=T.len I
   have bi:=rF 0 j aa
   simp only [Nat.zero_mul,List.drop_zero] at bi ⊢
   rw [List.take_succ_cons,show (j+ 1)*T.size=cs.length+j*T.size by rw [Nat.add_mul];omega,List.take_append,List.take_of_length_le (by omega),show cs.length+j*T.size - cs.length=j*T.size by omega]
   exact ⟨cs,_,rfl,I,bi⟩
 | d::r,xs,i+ 1,j+ 1,h=>by
   obtain ⟨cs,ys,rfl,I,aa⟩:=h
   have ap:=T.len I
   have bi:=rF i j aa
   rw [List.take_succ_cons,List.drop_succ_cons,show (j+ 1)*T.size=cs.length+j*T.size by rw [Nat.add_mul];omega,List.take_append,List.take_of_length_le (by omega),show cs.length+j*T.size - cs.length=j*T.size by omega,
    show (i+ 1)*T.size=cs.length+i*T.size by rw [Nat.add_mul];omega,List.drop_append,List.drop_of_length_le (l:=cs) (by omega),show cs.length+i*T.size - cs.length=i*T.size by omega,List.nil_append]
   exact bi
end
end ax
namespace ax
open Go Go.RowKit J
section
variable {P:Program} {ops:Array Oper} {Q:Exit->Act->World->Prop} {a:Act} {w:World} {rest:List Oper} {o:Oper} {n:cN} {d:Nat} {l:List (Nat × Value)}
 {W:World} {M0 X:List Nat} {E:List a7} {D:List bw}
theorem Fr.ko (ag:Fr n l a) (t:Nat) {b c:Bool} (ap:ez l t=some (.bool b)) (ah:b=c):Fr n ((t,.bool c)::l) a:=
 ⟨ag.size,ag.defers,fun u v h=>by
  simp only [ez] at h
  cases Pc:Nat.beq t u with
  | true=>
    rw [Pc] at h
    simp only [Option.some.injEq] at h
    rw [<-Nat.eq_of_beq_eq_true Pc,<-h,<-ah]
    exact ag.get t _ ap
  | false=>rw [Pc] at h;exact ag.get u v h⟩
theorem wB {t:TypeId} {cs:List Value} (hw:Region.wanted o (yielded ops a.tmps)=true) (hy:bh P o a w (.pointer (some ⟨w.heap.size,0,none⟩)) (w.alloc (.cells cs.toArray t))) (ag:Fr n l a) (hm:bq W M0 X w E D)
 (aN:o.dst=some d) (aF:Nat.blt d n=true) (k:∀ a2 g w',br [] w w'->Fr n ((d,.pointer (some ⟨g,0,none⟩))::l) a2->bq W M0 X w' (a7.dV g t cs::E) D->wpList P ops Q rest a2 w'):wpList P ops Q (o::rest) a w:=
 nz hw hy ag aN aF fun a2 dR=>k a2 _ _ (br.alloc _ _ _) dR (hm.new t cs)
theorem aa' {t:TypeId} {cs:List Value} {m:Nat} (hw:Region.wanted o (yielded ops a.tmps)=true) (hy:bh P o a w (.slice (some ⟨w.heap.size,0,none⟩) m m) (w.alloc (.cells cs.toArray t))) (ag:Fr n l a) (hm:bq W M0 X w E D)
 (aN:o.dst=some d) (aF:Nat.blt d n=true) (k:∀ a2 g w',br [] w w'->Fr n ((d,.slice (some ⟨g,0,none⟩) m m)::l) a2->bq W M0 X w' (a7.dV g t cs::E) D->wpList P ops Q rest a2 w'):wpList P ops Q (o::rest) a w:=
 nz hw hy ag aN aF fun a2 dR=>k a2 _ _ (br.alloc _ _ _) dR (hm.new t cs)
theorem aC0 {t e:TypeId} {sz:Nat} (hu:P.underlying t=some (.slice e)) (ao:∀ w,(Go.sizeOf e).run P w= .ok sz w) (av:o.op= .buildSlice t 0 (List.toArray [])) :
 bh P o a w (.slice (some ⟨w.heap.size,0,none⟩) 0 0) (w.alloc (.cells (List.toArray []) e)):=by
 simp only [bh,execOp,av,Instr.buildSlice,Sem.run_bind,Sem.run_pure,ao,Result.andThen_ok,run_underlying hu]
 simp [Instr.fill,newRow,go_sem]
theorem alU {S:World->Prop} {f p:Nat} {ds:List Nat} {v:Value} (i:Nat) (hi:ops[i]? =some o) (aM:(KP ops ds i && !Nat.beq p i)=true) (hw:Region.wanted o (yielded ops a.tmps)=true) (hy:∀ w',bh P o a w' v w') (mY:S w)
 (ag:Fr n l a) (aN:o.dst=some d) (aF:Nat.blt d n=true) (k:∀ a2,Fr n ((d,v)::l) a2->eZ P ops Q p S f (i::ds) a2 w):eZ P ops Q p S (f+ 1) ds a w:=by
 simp only [Bool.and_eq_true,Bool.not_eq_true'] at aM
 obtain ⟨m9,sV⟩:=aM
 have EO:p≠i:=fun e=>by rw [e] at sV;simp at sV
 simp only [KP,Bool.and_eq_true] at m9
 refine ⟨fun _=>mY,?_⟩
 refine aea (v:=v) hi (Region.noSelect_spec m9.1.1) EO (fun c a w h=>h) f _ a w (Region.free_spec hi m9.1.2) (fun _=>mY) (by simpa using m9.2) (.inl ⟨hw,fun w _=>hy w⟩) ?_
 rw [aN]
 exact (k _ (ag.put aF)).2
end
section
variable {P:Program} {o:Oper} {a:Act} {w:World} {xs ys:Array Value}
theorem XQ {d sz:Nat} {f:Go.Field} {l:List Go.Field} {us vs:List Value} {e q:Prop} [Decidable e] [Decidable q] (aF:(f.name != "_")=true) (ay:∀ w,(isAgg f.type).run P w= .ok true w) (ao:∀ w,(Go.sizeOf f.type).run P w= .ok sz w)
 (ad:xs.extract f.offset (f.offset+sz)=us.toArray) (hy:ys.extract f.offset (f.offset+sz)=vs.toArray) (aS:(Op.equalIn (d+ 1) f.type (.agg us.toArray) (.agg vs.toArray)).run P w= .ok (decide q) w)
 (h:(Op.eqFields (d+ 1) xs ys l).run P w= .ok (decide e) w):(Op.eqFields (d+ 1) xs ys (f::l)).run P w= .ok (decide (q/\e)) w:=by
 have jY:f.name≠ "_" :=by simpa using aF
 simp only [Op.eqFields,jY,if_true,ne_eq,not_false_iff,part,Sem.run_bind,ay,ao,Result.andThen_ok,ad,hy,Sem.run_pure,aS]
 by_cases sT:q
 · simp [sT,h]
 · simp [sT]
theorem XR {d:Nat} {t:TypeId} {cx:Array Go.Field} {q:Prop} [Decidable q] (aM:P.underlying t=some (.struct cx)) (aH:P.stoodInHeld t=false) (h:(Op.eqFields d xs ys cx.toList).run P w= .ok (decide q) w):(Op.equalIn (d+ 1) t (.agg xs) (.agg ys)).run P w= .ok (decide q) w:=by
 have ag:P.fieldsOf t=cx:=by simp [Program.fieldsOf,aM]
 have h':=run_equalIn_struct (P:=P) w d t xs ys (by rw [ag];exact aM) aH
 rw [ag,h] at h'
 exact h'
theorem vl {d:Nat} {f:Go.Field} {l:List Go.Field} {m n:List UInt8} {e:Prop} [Decidable e] (aF:(f.name != "_")=true) (hu:P.underlying f.type=some .string) (ay:∀ w,(isAgg f.type).run P w= .ok false w)
 (ad:xs[f.offset]? =some (cm m)) (hy:ys[f.offset]? =some (cm n)) (h:(Op.eqFields (d+ 1) xs ys l).run P w= .ok (decide e) w):(Op.eqFields (d+ 1) xs ys (f::l)).run P w= .ok (decide (m=n/\e)) w:=by
 have jY:f.name≠ "_" :=by simpa using aF
 have heq:(Op.equalIn (d+ 1) f.type (cm m) (cm n)).run P w= .ok (decide (m=n)) w:=by
  simp only [Op.equalIn,Sem.run_bind,run_underlying hu,Result.andThen_ok]
  rw [<-MD m n]
  rfl
 simp only [Op.eqFields,jY,if_true,ne_eq,not_false_iff,part,Sem.run_bind,ay,Result.andThen_ok,ad,hy,Bool.false_eq_true,if_false,Sem.run_pure,heq]
 by_cases sT:m=n
 · subst sT;simp [h]
 · simp [sT]
end
section
variable {P:Program} {ops:Array Oper} {Q:Exit->Act->World->Prop} {a:Act} {w:World} {rest:List Oper} {o:Oper} {n:cN} {d:Nat} {l:List (Nat × Value)}
 {W:World} {M0 X:List Nat} {E:List a7} {D:List bw}
theorem acC {F:Nat->Prop} {w:World}:∀ s:List UInt8,dT KW F w (s.map fun b=>Value.int .u8 (b.toNat:Int)) s
 | []=>rfl
 | b::r=>⟨[.int .u8 (b.toNat:Int)],_,rfl,rfl,acC r⟩
end
end ax
namespace ax
open Go Go.RowKit J
section
variable {P:Program} {Q:Exit->Act->World->Prop} {a:Act} {w:World}
theorem HM {c:Operand} {x y:Code} {t:Bool} {ρ:Type} {p q:Option ρ} {r:ρ} (hc:a.eval c= .bool t) (h:cond t p q=some r) (aM:t=true->p=some r->x.wp P Q a w) (ag:t=false->q=some r->y.wp P Q a w):(Code.cond c x y).wp P Q a w:=
 wp_cond_split hc (fun e=>aM e (MS e h)) (fun e=>ag e (MR e h))
end
end ax
namespace ax
open Go Go.RowKit J
section
variable {P:Program} {ops:Array Oper} {Q:Exit->Act->World->Prop} {a:Act} {w w0 w':World} {rest:List Oper} {o:Oper} {n:cN} {d:Nat} {l:List (Nat × Value)}
 {W:World} {M0 X:List Nat} {E:List a7} {D:List bw}
theorem aDk {t:TypeId} {x:Operand} {m:Int} (av:o.op= .unOp .neg t x) (ad:a.eval x= .int .i64 m):bh P o a w (.int .i64 (aE (0 - m))) w:=by
 rw [<-ua]
 simp only [bh,execOp,av,ad]
 simp [go_sem]
theorem bq.JX (h:bq W M0 X w E D) {g:Nat} {t:TypeId} {cs:List Value} {x:a7} (i j:Nat) (hi:E[i]? =some (a7.dV g t cs)) (az:E[j]? =some x) (b5:i≠j):g ∉ x.bA:=fun ai=>
 (ND h.bu i _ hi).2 j x az b5 g (by simp [a7.dV]) ai
theorem H' {M:List Nat} {p:Addr} {cs:List Value} (h:br M w w') (aF:p.block ∉ M) (bx:p.block <w.heap.size) (hc:e0 w p cs):e0 w' p cs:=hc.law (h.block p.block bx aF)
theorem Fv {t:TypeId} {cs:List Value} {m:Nat} (hw:Region.wanted o (yielded ops a.tmps)=true) (hy:bh P o a w (.slice (some ⟨w.heap.size,0,none⟩) m m) (w.alloc (.cells cs.toArray t))) (ag:Fr n l a) (hm:bq W M0 X w E D)
 (aN:o.dst=some d) (aF:Nat.blt d n=true) (k:∀ a2 g w',br [] w w'->w.heap.size<=g->Fr n ((d,.slice (some ⟨g,0,none⟩) m m)::l) a2->bq W M0 X w' (a7.dV g t cs::E) D->wpList P ops Q rest a2 w'):wpList P ops Q (o::rest) a w:=
 nz hw hy ag aN aF fun a2 dR=>k a2 _ _ (br.alloc _ _ _) (Nat.le_refl _) dR (hm.new t cs)
end
end ax
namespace ax
open Go Go.RowKit J
def oE:List Oper->Bool
 | []=>true
 | o::r=>(match o.op with
   | .defer _=>false
   | _=>true) && oE r
theorem JV:∀ {l:List Oper},oE l=true-> ∀ o ∈ l,∀ c,o.op≠ .defer c
 | [],_,o,av,_=>by simp at av
 | p::r,h,o,av,c=>by
   simp only [oE,Bool.and_eq_true] at h
   rcases List.mem_cons.1 av with rfl | e
   · intro al
     rw [al] at h
     exact absurd h.1 (by simp)
   · exact JV h.2 o e c
def jh (ro:Option Nat):Fence:={ Fence.wide with round:=ro }
theorem S4 {ro:Option Nat} {q:Prop}:(jh ro).depth.isSome=true->q:=fun h=>by simp [jh,Fence.wide] at h
section
variable {P:Program} {ops:Array Oper} {Q:Exit->Act->World->Prop} {K:Act->World->Prop} {a:Act} {w:World} {o:Oper} {ro:Option Nat} {n:Nat}
theorem Rx (aN:∀ c,o.op≠ .defer c) (h:o.wp P a w K Q):o.wpIn (jh ro) n P a w K Q:=by
 unfold Oper.wpIn
 refine ⟨fun _ _=>trivial,?_⟩
 rw [Oper.semAt_eq _ _ _ aN]
 unfold Oper.wp at h
 generalize (execOp a.eval o).run P w=r at *
 cases r with
 | ok x w'=>
   cases x <;> simp only [Oper.upon,Oper.uponIn] at h ⊢ <;> first
    | exact h
    | exact ⟨S4,(callsIn_wide (n:=n - 1)).2 h⟩
    | exact ⟨S4,fun c cs _=>let ⟨v,w',r,s⟩:=h c cs;⟨v,w',r,stepsIn_wide.2 s⟩⟩
 | halt x w'=>cases x <;> simp only [Oper.upon,Oper.uponIn] at h ⊢ <;> exact h
theorem Jp (eH:∀ a w,¬ Q .outgrown a w):∀ {os:List Oper} {a:Act} {w:World},oE os=true->wpList P ops Q os a w->wpListIn (jh ro) n P ops Q os a w
 | [],_,_,_,h=>h
 | o::r,a,w,aN,h=>by
   have pB:=aN
   simp only [oE,Bool.and_eq_true] at pB
   simp only [wpList] at h
   simp only [wpListIn]
   split
   · rename_i hw
     rw [if_pos hw] at h
     rcases h with h | ⟨_,a2,w',h⟩
     · exact Rx (JV aN o (by simp)) (Oper.wp_mono (fun a w h=>Jp eH pB.2 h) h)
     · exact absurd h (eH _ _)
   · rename_i hw
     rw [if_neg hw] at h
     exact ⟨fun _ _=>trivial,Jp eH pB.2 h⟩
theorem atW (k:Nat) {lo:List Oper} (aN:oE (lo.take k)=true) (h:wpList P ops (Exit.then (wpListIn (jh ro) n P ops Q (lo.drop k)) (fun _ _ _=>False)) (lo.take k) a w):wpListIn (jh ro) n P ops Q lo a w:=by
 have key:∀ (os rest:List Oper) (a:Act) (w:World),oE os=true->wpList P ops (Exit.then (wpListIn (jh ro) n P ops Q rest) (fun _ _ _=>False)) os a w->wpListIn (jh ro) n P ops Q (os++rest) a w:=by
  intro os
  induction os with
  | nil=>intro rest a w _ h;exact h
  | cons o r bi=>
    intro rest a w aN h
    have pB:=aN
    simp only [oE,Bool.and_eq_true] at pB
    simp only [wpList] at h
    simp only [List.cons_append,wpListIn]
    split
    · rename_i hw
      rw [if_pos hw] at h
      rcases h with h | ⟨_,a2,w',h⟩
      · have I:=Rx (ro:=ro) (n:=n) (JV aN o (by simp)) (Oper.wp_mono (fun a w h=>bi rest a w pB.2 h) h)
        refine ⟨I.1,?_⟩
        have aa:=I.2
        revert aa
        generalize (o.semAt (jh ro).round a.eval).run P w=h4
        intro aa
        cases h4 with
        | ok x w'=>
          cases x <;> simp only [Oper.uponIn] at aa ⊢ <;> first
           | exact aa
           | exact ⟨aa.1,CallsIn.mono aa.2 (fun e w'' he=>by cases e <;> first | exact he | exact absurd he (by simp [Exit.then,LetsOut]))⟩
           | exact ⟨aa.1,RoundIn.mono aa.2 (fun e w'' he=>by cases e <;> first | exact he | exact absurd he (by simp [Exit.then,LetsOut]))⟩
        | halt x w'=>cases x <;> simp only [Oper.uponIn] at aa ⊢ <;> first | exact aa | exact absurd aa (by simp [Exit.then])
      · exact absurd h (by simp [Exit.then])
    · rename_i hw
      rw [if_neg hw] at h
      exact ⟨fun _ _=>trivial,bi rest _ _ pB.2 h⟩
 have:=key (lo.take k) (lo.drop k) a w aN h
 rwa [List.take_append_drop] at this
theorem avl (eH:∀ a w,¬ Q .outgrown a w) (aN:oE ops.toList=true) {i:Nat} (h:wpOp P ops Q i K a w):wpOpIn (jh ro) n P ops Q i K a w:=by
 unfold wpOp at h
 unfold wpOpIn
 split
 · rename_i aP
   rw [aP] at h
   exact h
 · rename_i o av
   rw [av] at h
   have hm:o ∈ ops.toList:=by
    have:=List.mem_of_getElem? (l:=ops.toList) (i:=i) (a:=o) (by rw [Array.getElem?_toList];exact av)
    exact this
   simp only at h
   split
   · rename_i hw
     rw [if_pos hw] at h
     rcases h with h | ⟨_,a2,w',h⟩
     · exact Rx (JV aN o hm) h
     · exact absurd h (eH _ _)
   · rename_i hw
     rw [if_neg hw] at h
     exact ⟨fun _ _=>trivial,h⟩
theorem Wa (eH:∀ a w,¬ Q .outgrown a w) (aN:oE ops.toList=true):∀ {f:Nat} {ls:Array Bool} {a:Act} {w:World},wpAny P .any ops Q f ls a w->wpAnyIn (jh ro) n P .any ops Q f ls a w
 | 0,_,_,_,h=>h
 | f+ 1,ls,a,w,h=>⟨h.1,fun i hi=>avl eH aN (wpOp_mono (fun a w h=>Wa eH aN h) (h.2 i hi))⟩
end
def fW (ro:Option Nat) (n:Nat) (P:Program) (c:Code) (Q:Exit->Act->World->Prop) (a:Act) (w:World):Prop:=(∀ a w,¬ Q .outgrown a w)->c.wpIn (jh ro) n P Q a w
section
variable {P:Program} {Q:Exit->Act->World->Prop} {a:Act} {w:World} {ro:Option Nat} {n:Nat}
theorem K6 (h:Q .normal a w):fW ro n P .skip Q a w:=fun _=>wpIn_skip h
theorem T2 {id:Nat} (h:Q (.exit id) a w):fW ro n P (.exit id) Q a w:=fun _=>wpIn_exit h
theorem lC {x y:Code} (h:∀ K:Act->World->Prop,(∀ a w,fW ro n P y Q a w->K a w)->fW ro n P x (Exit.then K Q) a w):fW ro n P (.seq x y) Q a w:=
 fun eH=>wpIn_seq (h _ (fun _ _ h=>h eH) eH)
theorem T1 {c:Operand} {x y:Code} {t:Bool} (hc:a.eval c= .bool t) (aM:t=true->fW ro n P x Q a w) (ag:t=false->fW ro n P y Q a w):fW ro n P (.cond c x y) Q a w:=
 fun eH=>wpIn_cond_split hc (fun e=>aM e eH) (fun e=>ag e eH)
theorem azM {c:Operand} {x y:Code} {b:Bool} (hc:a.eval c= .bool b) (ah:b=false) (h:fW ro n P y Q a w):fW ro n P (.cond c x y) Q a w:=fun eH=>wpIn_cond_false (by rw [hc,ah]) (h eH)
theorem TZ {id:Nat} {c:Code} (h:fW ro n P c (Exit.inBlock id Q) a w):fW ro n P (.block id c) Q a w:=fun eH=>wpIn_block (h eH)
theorem T0 {id:Nat} {c:Code} (mK:Act->World->Prop) (ad:∀ K:Act->World->Prop,(∀ a w,mK a w->K a w)->fW ro n P c (Exit.inBlock id (Exit.then K Q)) a w) (hy:∀ a w,mK a w->Q .normal a w):fW ro n P (.block id c) Q a w:=by
 intro eH
 refine wpIn_block (wpIn_mono (ad _ hy eH) ?_)
 intro e a w h
 cases e with
 | exit i=>
   by_cases hi:i=id
   · simpa [Exit.inBlock,Exit.then,hi] using h
   · simpa [Exit.inBlock,Exit.then,hi] using h
 | _=>exact h
theorem aeg {c:Code} (mJ:Nat->Act->World->Prop) (k:Nat) (h:mJ k a w) (aP:∀ a w,¬ mJ 0 a w)
 (round:∀ k a w,mJ (k+ 1) a w-> ∀ K:Act->World->Prop,(∀ a w,mJ k a w->K a w)->fW ro n P c (Exit.then K Q) a w):fW ro n P (.loop c) Q a w:=by
 intro eH
 refine wpIn_loop (fun a w=>∃ n,mJ n a w) (fun a w=>leastOf (fun n=>mJ n a w)) ⟨k,h⟩ ?_
 intro a w vv
 have I:=(leastOf_spec vv).1
 cases ai:leastOf (fun n=>mJ n a w) with
 | zero=>rw [ai] at I;exact absurd I (aP a w)
 | succ m=>
   rw [ai] at I
   exact round m a w I _ (fun a2 w' h'=>⟨⟨m,h'⟩,Nat.lt_succ_of_le ((leastOf_spec ⟨m,h'⟩).2 m h')⟩) eH
theorem nF {id:Nat} {l:List Oper} (aN:oE l=true) (h:wpList P l.toArray Q l a w):fW ro n P (.region id l.toArray false) Q a w:=fun eH=>wpIn_region_lit (Jp eH aN h)
theorem aef {id m:Nat} {lo:List Oper} (p:Nat) (S:World->World->Prop) (hm:P.follows .mixedOrders=true) (ap:Nat.beq lo.length m=true) (aN:oE lo=true) (h:∀ w',br [] w w'->eZ P lo.toArray Q p (S w') m [] a w'):fW ro n P (.region id lo.toArray true) Q a w:=by
 have ap:=Nat.eq_of_beq_eq_true ap
 subst ap
 intro eH
 exact wpIn_mono (Q:=NoPanic Q) (wpIn_region_any hm (Wa (Q:=NoPanic Q) (fun a w=>eH a w) aN (h _ (br.drew [] w)).wpAny)) NoPanic.imp
theorem azN {id:Nat} {l:List Oper} (h:(∀ a w,¬ Q .outgrown a w)->wpListIn (jh ro) n P l.toArray Q l a w):fW ro n P (.region id l.toArray false) Q a w:=fun eH=>wpIn_region_lit (h eH)
end
def a7.obj (g:Nat) (o:Obj):a7 where
 bA:=[g]
 ok w:=w.heap[g]? =some o
 law w w' h ai:=(h g (by simp)).trans ai
section
variable {W w:World} {M0 X:List Nat} {E:List a7} {D:List bw}
theorem aoK (w:World) (g:Nat) (o:Obj):br [g] w (w.putObj g o):=
 ⟨rfl,rfl,rfl,by simp,fun k _ aF=>World.putObj_heap_other (by simpa using aF)⟩
theorem bq.putObj {g:Nat} {o:Obj} (hm:bq W M0 X w E D) (i:Nat) (hi:E[i]? =some (a7.obj g o)) (cU:Obj):bq W M0 X (w.putObj g cU) (E.set i (a7.obj g cU)) D:=
 hm.KV i hi (aoK w g cU) (by
   have h:w.heap[g]? =some o:=hm.e i hi
   exact World.putObj_heap_same (Array.getElem?_eq_some_iff.1 h).1) (by simp [a7.obj]) (fun k ai=>.inl ai)
theorem bq.newObj (hm:bq W M0 X w E D) (o:Obj):bq W M0 X (w.alloc o) (a7.obj w.heap.size o::E) D:=
 hm.push _ (br.alloc _ _ _) (World.alloc_heap_new w o) (fun k ai=>by simp [a7.obj] at ai;subst ai;exact ⟨Nat.le_refl _,by simp⟩) (by simp [a7.obj])
end
def mark (r:Nat):Deferred:={ target:=.collected r,args:=#[] }
theorem XL {P:Program} {f:FuncId} {fn:Func} {c:Code} {vs:List Value} {w:World} {R:Ending->World->Prop} {n:Nat}
 (ag:P.funcs[f]? =some fn) (ah:fn.body=some c) (aF:fn.ntmps=n) (ap:Nat.ble vs.length n=true)
 (h:∀ a,Fr ⟨n,[]⟩ (qI 0 vs) a->c.wp P (bodyPostM Fence.wide 0 P fn R) a w):Calls P f vs.toArray w R:=by
 refine (callsIn_wide (n:=0)).1 (callsIn_of_wp_marks ag ah trivial (wpIn_wide.2 ?_))
 rw [aF]
 exact h _ (Fr.init vs n ap)
section
variable {P:Program} {a:Act} {w:World} {W:World} {M0 X:List Nat} {E:List a7} {D:List bw} {fn:Func} {R:Ending->World->Prop} {l:List (Nat × Value)} {n g t u:Nat} {v fi:Value}
theorem aaQ (i:Nat) (ag:Fr ⟨n,[mark g]⟩ l a) (hm:bq W M0 X w E D) (hi:E[i]? =some (a7.obj g (.deferred (some [])))) (h:∀ w',bq W M0 X w' (E.set i (a7.obj g (.deferred none))) D-> ∃ v,(results fn a.tmps).run P w'= .ok v w'/\R (.returned v) w') :
 bodyPostM Fence.wide 0 P fn R .ret a w:=by
 show LeavesInM Fence.wide 0 P fn a.tmps R a.defers .returning w
 rw [ag.defers]
 exact ⟨by simp,.inl ⟨g,_,rfl,run_takeDeferred (hm.e i hi),h _ (hm.putObj i hi _)⟩⟩
theorem at8 (i:Nat) (aB:fn.results= #[.tmp t]) (ag:Fr ⟨n,[mark g]⟩ l a) (hm:bq W M0 X w E D) (hi:E[i]? =some (a7.obj g (.deferred (some [])))) (ap:ez l t=some v)
 (h:∀ w',bq W M0 X w' (E.set i (a7.obj g (.deferred none))) D->R (.returned v) w'):bodyPostM Fence.wide 0 P fn R .ret a w:=
 aaQ i ag hm hi fun w' ea=>⟨_,results_tmp aB _ _ _,by rw [ag.get _ _ ap];exact h w' ea⟩
theorem at9 (i:Nat) (aB:fn.results= #[.tmp t,.tmp u]) (ag:Fr ⟨n,[mark g]⟩ l a) (hm:bq W M0 X w E D) (hi:E[i]? =some (a7.obj g (.deferred (some [])))) (ap:ez l t=some v) (m5:ez l u=some fi)
 (h:∀ w',bq W M0 X w' (E.set i (a7.obj g (.deferred none))) D->R (.returned (.tuple #[v,fi])) w'):bodyPostM Fence.wide 0 P fn R .ret a w:=
 aaQ i ag hm hi fun w' ea=>⟨_,results_tmp2 aB _ _ _,by rw [ag.get _ _ ap,ag.get _ _ m5];exact h w' ea⟩
end
theorem an4 {P:Program} {f:FuncId} {fn:Func} {c:Code} {vs:List Value} {w:World} {R:Ending->World->Prop} {n:Nat}
 (ag:P.funcs[f]? =some fn) (ah:fn.body=some c) (aF:fn.ntmps=n) (ap:Nat.ble vs.length n=true) (eV:∀ w,¬ R .outgrown w)
 (h:∀ a,Fr ⟨n,[]⟩ (qI 0 vs) a->fW none 1 P c (bodyPost P fn R) a w):CallsIn (jh none) 1 P f vs.toArray w R:=by
 refine callsIn_of_wp ag ah trivial ?_
 rw [aF]
 exact h _ (Fr.init vs n ap) (fun a w h=>eV w h)
theorem al0 {P:Program} {fn:Func} {R:Ending->World->Prop} {a:Act} {w:World} (h:bodyPost P fn R .ret a w):bodyPost P fn R .normal a w:=h
theorem ad3 {n:Nat} (h:n<=maxLen):J.aE ((n:Int) - 1)=(n:Int) - 1 :=by
 unfold J.aE
 simp only [maxLen] at h
 omega
theorem arU {iX pre rem:List Int} {x:Int} (h:iX=(x::rem).reverse++pre):J.idx iX (rem.length:Int)=some x:=by
 subst h
 unfold J.idx
 rw [if_pos (by omega)]
 simp
def VJ (P:Program) (f:FuncId):Prop:=∀ (mK:List Int->World->Prop) (iX:List Int) (A:Option Addr) (c fa L:Nat) (w0:World),
 (∀ rem w,mK rem w-> ∃ W M0 X E,bq W M0 X w E [bw.il fa [.slice A iX.length c],bw.of (b3 (eY .i64)) [.slice A iX.length c] iX]) ->
 (∀ x rem w,mK (x::rem) w->YieldAt (jh none) 0 P L #[.int .i64 (rem.length:Int),.int .i64 x] w (fun e w'=>e= .returned (.bool true)/\mK rem w')) ->
 mK iX.reverse w0->CallsIn (jh none) 1 P f #[.func (.yield L) #[] #[],.pointer (some ⟨fa,0,none⟩)] w0 (fun e w'=>(∃ v,e= .returned v)/\mK [] w')
section
variable {P:Program} {ops:Array Oper} {Q:Exit->Act->World->Prop} {a:Act} {w:World} {rest:List Oper} {o:Oper} {n:cN} {d L:Nat} {l:List (Nat × Value)}
theorem ayB {vp:Operand} {xs:List Operand} {lP:Array TypeId} {vs:List Value} (av:o.op= .call { callee:=.value vp,args:=xs.toArray,argTypes:=lP }) (Pm:a.eval vp= .func (.yield L) #[] #[]) (jm:Bp a xs vs) :
 (execOp a.eval o).run P w=(Instr.yield L vs.toArray).run P w:=by
 have I:=NC jm
 simp only [execOp,av,resolve,List.map_toArray,I,Pm]
 simp [Deferred.ofValue,invoke]
theorem aDs {vp:Operand} {xs:List Operand} {lP:Array TypeId} {vs:List Value} {R:Ending->World->Prop} (hw:Region.wanted o (yielded ops a.tmps)=true) (av:o.op= .call { callee:=.value vp,args:=xs.toArray,argTypes:=lP })
 (Pm:a.eval vp= .func (.yield L) #[] #[]) (jm:Bp a xs vs) (hy:YieldAt (jh none) 0 P L vs.toArray w R) (ag:Fr n l a) (aN:o.dst=some d) (aF:Nat.blt d n=true)
 (k:∀ e w',R e w'-> ∃ v,e= .returned v/\ ∀ a2,Fr n ((d,v)::l) a2->wpListIn (jh none) 1 P ops Q rest a2 w'):wpListIn (jh none) 1 P ops Q (o::rest) a w:=by
 refine wpListIn_step fun K cT=>?_
 rw [if_pos hw]
 refine ⟨fun _ _=>trivial,?_⟩
 obtain ⟨fn,tmps,assign,body,I,aa⟩:=hy
 rw [Oper.semAt_eq _ _ _ (by rw [av];simp),ayB av Pm jm,I]
 refine ⟨S4,RoundIn.mono aa ?_⟩
 intro e w' aB
 obtain ⟨v,rfl,ai⟩:=k e w' aB
 rw [aN]
 exact cT _ _ (ai _ (ag.put aF))
end
section
variable {P:Program} {Q:Exit->Act->World->Prop} {a:Act} {w:World} {W:World} {M0 X:List Nat} {E:List a7} {D:List bw}
theorem WD {β:Type} {BU adr gI et n fa c:Nat} {A:Option Addr} {l:List (Nat × Value)} {l1:Int->Int->List (Nat × Value)} {assign body:Code} (AJ:β->List a7) (uH:β->List bw) (rel:List Int->β->Prop) (iX:List Int) (b0:β) (bp bI:Nat)
 (aqz:VJ P BU) (XH:∀ args w,(callFunc BU args).run P w= .ok (.enter BU args) w)
 (ag:Fr ⟨n,[]⟩ l a) (ay:ez l adr=some (.func (.func BU) #[] #[.pointer (some ⟨fa,0,none⟩)])) (vF:Nat.blt gI n=true) (y1:Nat.blt et n=true)
 (hm:bq W M0 X w (AJ b0) (uH b0)) (aP:rel iX.reverse b0)
 (m7:∀ b,(uH b)[bp]? =some (bw.il fa [.slice A iX.length c])) (q4:∀ b,(uH b)[bI]? =some (bw.of (b3 (eY .i64)) [.slice A iX.length c] iX))
 (aD:∀ L i x w a2 (K:Act->World->Prop),Fr ⟨n,[]⟩ ((et,.int .i64 x)::(gI,.int .i64 i)::l) a2->(∀ yp,Fr ⟨n,[]⟩ (l1 i x) yp->K yp w)->fW (some L) 0 P assign (Exit.then K (fun _ _ _=>False)) a2 w)
 (ah:∀ L g dF bE dc b i x rem w a2 (K:Exit->Act->World->Prop),rel (x::rem) b->Fr ⟨n,[]⟩ (l1 i x) a2->bq W M0 X w (a7.obj g dF::a7.obj bE dc::AJ b) (uH b) ->
  (∀ jj yp w',rel rem jj->bq W M0 X w' (a7.obj g dF::a7.obj bE dc::AJ jj) (uH jj)->K .normal yp w')->fW (some L) 0 P body K a2 w)
 (aqb:∀ g b a2 w',rel [] b->Fr ⟨n,[mark g]⟩ l a2->bq W M0 X w' (a7.obj g (.deferred (some []))::AJ b) (uH b)->Q .normal a2 w') :
 (Code.rangeFunc (.tmp adr) #[gI,et] assign body).wp P Q a w:=by
 refine (wpIn_wide (n:=2)).1 (wpIn_rangeFunc fun fn _=>?_)
 obtain ⟨rec,vG⟩:∃ rec:LoopState->Loop,rec=fun ay0=>{ state:=ay0,pending:=none,fn,tmps:=a.tmps,params:=#[gI,et],assign,body,defers:=w.heap.size }:=⟨_,rfl⟩
 obtain ⟨hX,Zb⟩:∃ hX,(w.alloc (.deferred (some []))).alloc (.loop (rec .ready))=hX:=⟨_,rfl⟩
 have PG:bq W M0 X hX (a7.obj (w.heap.size+ 1) (.loop (rec .ready))::a7.obj w.heap.size (.deferred (some []))::AJ b0) (uH b0):=by
  have:=(hm.newObj (.deferred (some []))).newObj (.loop (rec .ready))
  rw [Zb] at this
  simpa using this
 refine ⟨w.heap.size+ 1,[mark w.heap.size],hX,{ target:=.fn (.func BU) #[.pointer (some ⟨fa,0,none⟩)],args:=#[.func (.yield (w.heap.size+ 1)) #[] #[]] },hX,BU,
  #[.func (.yield (w.heap.size+ 1)) #[] #[],.pointer (some ⟨fa,0,none⟩)],hX,?_,?_,fun _ _=>trivial,?_,fun _=>by decide,?_⟩
 · rw [<-Zb,vG];exact run_enterLoop_outer _ _ _ _ _
 · have Et:=ag.g ay
   simp only [resolve,Et]
   simp [go_sem]
 · simp [invoke,go_sem,XH]
 · refine CallsIn.mono (aqz (fun rem w'=>∃ b,rel rem b/\bq W M0 X w' (a7.obj (w.heap.size+ 1) (.loop (rec .ready))::a7.obj w.heap.size (.deferred (some []))::AJ b) (uH b)) iX A c fa (w.heap.size+ 1) hX ?_ ?_ ⟨b0,aP,PG⟩) ?_
   · rintro rem w' ⟨b,_,ea⟩
     exact ⟨_,_,_,_,ea.less fun y hy=>by
      simp only [List.mem_cons,List.not_mem_nil,or_false] at hy
      rcases hy with rfl | rfl
      · exact List.mem_of_getElem? (m7 b)
      · exact List.mem_of_getElem? (q4 b)⟩
   · rintro x rem w' ⟨b,aB,ea⟩
     have ap:w'.heap[w.heap.size+ 1]? =some (.loop (rec .ready)):=ea.e 0 rfl
     have hy:=run_yield (P:=P) (args:=#[.int .i64 (rem.length:Int),.int .i64 x]) ap (by rw [vG];rfl)
     rw [vG] at hy
     refine ⟨fn,_,assign,body,hy,roundIn_of_wpIn trivial ?_⟩
     have aqi:Fr ⟨n,[]⟩ ((et,.int .i64 x)::(gI,.int .i64 (rem.length:Int))::l) ⟨((#[gI,et]:Array Tmp).zip #[Value.int .i64 (rem.length:Int),.int .i64 x]).foldl (fun tmps (x:Tmp × Value)=>tmps.setIfInBounds x.1 x.2) a.tmps,[]⟩:=by
      have I:=(ag.put (v:=.int .i64 (rem.length:Int)) vF).put (v:=.int .i64 x) y1
      have e:((#[gI,et]:Array Tmp).zip #[Value.int .i64 (rem.length:Int),.int .i64 x]).foldl (fun tmps (x:Tmp × Value)=>tmps.setIfInBounds x.1 x.2) a.tmps=((a.put (some gI) (.int .i64 (rem.length:Int))).put (some et) (.int .i64 x)).tmps:=by simp [Act.put]
      refine ⟨?_,rfl,?_⟩
      · simp only [e];exact I.size
      · simp only [e];exact I.get
     refine aD (w.heap.size+ 1) _ _ w' _ _ aqi ?_ (fun a w h=>h)
     intro yp aqh
     have yX:=ea.putObj 0 rfl (.loop { rec .ready with state:=.busy })
     refine ⟨_,run_beginRound ap (by rw [vG]),?_⟩
     refine ah (w.heap.size+ 1) _ _ _ _ b _ x rem _ yp _ aB aqh yX ?_ (fun a w h=>h)
     intro jj er lA kx EE
     have yU:lA.heap[w.heap.size+ 1]? =some (.loop { rec .ready with state:=.busy }):=EE.e 0 rfl
     refine ⟨_,_,run_endRound none yU,rfl,jj,kx,?_⟩
     have EF:=EE.putObj 0 rfl (.loop (rec .ready))
     rw [vG] at EF ⊢
     exact EF
   · rintro e lA ⟨⟨v,rfl⟩,b,aB,EE⟩
     have yU:lA.heap[w.heap.size+ 1]? =some (.loop (rec .ready)):=EE.e 0 rfl
     have he:=run_endLoop (P:=P) yU (by rw [vG];simp)
     rw [vG] at he
     refine ⟨none,_,he,?_⟩
     have EF:=EE.putObj 0 rfl (.loop { rec .ready with state:=.exhausted })
     rw [vG] at EF
     refine aqb w.heap.size b _ _ aB ⟨ag.size,?_,ag.get⟩ (EF.drop (List.sublist_cons_self _ _))
     show [mark w.heap.size]++a.defers= [mark w.heap.size]
     rw [ag.defers];rfl
end
end ax
namespace ax
open Go Go.RowKit J
def bw.azh:bw:=⟨fun _ _=>True,fun _ _ _ _ _ _ _=>trivial⟩
def bw.aby {α:Type} (o:Option α) (f:α->bw):bw:=match o with
 | none=>bw.azh
 | some x=>f x
section
variable {P:Program} {ops:Array Oper} {Q:Exit->Act->World->Prop} {a:Act} {w:World} {rest:List Oper} {o:Oper} {n:cN} {d:Nat} {l:List (Nat × Value)}
 {W:World} {M0 X:List Nat} {E:List a7} {D:List bw}
theorem bq.none (h:bq W M0 X w E D) {α:Type} (f:α->bw):bq W M0 X w E (bw.aby (Option.none:Option α) f::D):=h.more (y:=bw.aby (Option.none:Option α) f) trivial
theorem aC4 {t e:TypeId} {sz:Nat} {x:Operand} {lo hi:Option Operand} (aM:P.underlying t=some (.slice e)) (ao:∀ w,(Go.sizeOf e).run P w= .ok sz w) (av:o.op= .slice t x lo hi none) (ad:a.eval x= .slice none 0 0)
 (m6:(lo=none/\(0 :Int)= 0)\/ ∃ z,lo=some z/\a.eval z= .int .i64 0) (jG:(hi=none/\(0 :Int)=(0 :Nat))\/ ∃ z,hi=some z/\a.eval z= .int .i64 0):bh P o a w (.slice none 0 0) w:=by
 have h:=L0 (P:=P) (w:=w) aM ao av ad m6 jG (i:=0) (j:=0) ⟨Int.le_refl _,Int.le_refl _,by omega⟩ (Nat.le_refl 0)
 simpa using h
theorem aC3 {t e:TypeId} {A:Option Addr} {m c:Nat} {x:Operand} (aM:P.underlying t=some (.slice e)) (av:o.op= .call { callee:=.builtin .cap,args:=#[x],argTypes:=#[t] }) (ad:a.eval x= .slice A m c):bh P o a w (.int .i64 c) w:=by
 simp [bh,execOp,av,resolve,invoke,builtin,Builtin.cap_,ad,run_underlying aM,goInt]
theorem aDp {t t':TypeId} {x y:Operand} {k:IntKind} {m:Int} {n:Nat} (aF:Nat.ble n 64 =true) (av:o.op= .binOp .shr t x y t') (ad:a.eval x= .int .u64 m) (hy:a.eval y= .int k (n:Int)):bh P o a w (.int .u64 (tS m n)) w:=by
 have hle:=Nat.le_of_ble_eq_true aF
 unfold tS
 simp only [bh,execOp,av,ad,hy]
 simp [go_sem,hle]
end
end ax
namespace ax
open Go Go.RowKit J
section
variable {P:Program} {W w w':World} {M0 X:List Nat} {E:List a7} {D:List bw} {n:cN} {l:List (Nat × Value)} {a:Act} {o:Oper} {ops:Array Oper} {rest:List Oper} {Q:Exit->Act->World->Prop} {d:Nat}
theorem ayx {A:Option Addr} {m c sz:Nat} {t e:TypeId} {j:Int} (aM:P.underlying t=some (.slice e)) (ao:∀ w,(Go.sizeOf e).run P w= .ok sz w) (h:0 <=j/\j<=c) :
 (Instr.slice t (.slice A m c) none (some (.int .i64 j)) (some (.int .i64 j))).run P w= .ok (.slice (if j.toNat= 0 then A else A.map (·.add (0 *sz))) j.toNat j.toNat) w:=by
 have bZ:∀ code,(Instr.sliceBound (.int .i64 j) c code).run P w= .ok j.toNat w:=fun code=>wM rfl (by omega)
 have ed:∀ code,(Instr.sliceBound (.int .i64 j) j.toNat code).run P w= .ok j.toNat w:=fun code=>wM rfl (by omega)
 have ah:(Instr.sliceBounds true m c none (some (.int .i64 j)) (some (.int .i64 j))).run P w= .ok (0,j.toNat,j.toNat) w:=by
  simp [Instr.sliceBounds,bZ,ed]
 simp [Instr.slice,run_underlying aM,ah,ao]
end
end ax
namespace Go.Value
abbrev q {α:Type} (A:Option Addr) (c:Nat) (l:List α):Value:=.slice A l.length c
end Go.Value
namespace ax
open Go Go.RowKit J
abbrev hW:=Option Addr
abbrev mL:=List Value
abbrev AL:=List Int
theorem wn {ops:Array Oper} {a:Act} {o:Oper} (ay:o.guard=none:=by rfl):Region.wanted o (yielded ops a.tmps)=true:=K2 ay
section
variable {W w:World} {M0 X:List Nat} {E kh:List a7} {D fU:List bw} {n:cN} {l l' new a_ fL:List (Nat × Value)} {a:Act}
theorem Fr.cut (ag:Fr n l a) (h:Bf l (l'.map (·.1))=some l':=by kernel_rfl):Fr n l' a:=ag.sub (MU h)
def Cy (D:List bw):List Nat->Option (List bw)
 | []=>some []
 | i::r=>match nth D i,Cy D r with
   | some y,some ys=>some (y::ys)
   | _,_=>none
theorem ac2:∀ {is:List Nat} {fU:List bw},Cy D is=some fU->J7 D fU
 | [],fU,h=>by simp only [Cy,Option.some.injEq] at h;subst h;trivial
 | i::r,fU,h=>by
   simp only [Cy] at h
   split at h
   · rename_i y ys I aa
     simp only [Option.some.injEq] at h
     subst h
     exact ⟨⟨i,by rw [<-cY];exact I⟩,ac2 aa⟩
   · cases h
theorem bq.hO (h:bq W M0 X w E D) (is:List Nat) (e:Cy D is=some fU:=by kernel_rfl):bq W M0 X w E fU:=h.pick (ac2 e)
theorem bq.rJ (h:bq W M0 X w E D) (ek is:List Nat) (ak:Fs ek=true:=by kernel_rfl) (al:Cz E ek=some kh:=by kernel_rfl) (e:Cy D is=some fU:=by kernel_rfl):bq W M0 X w kh fU:=(h.sel ek ak al).hO is e
theorem cZ {α:Type} {a b:α} (h:some a=some b):a=b:=Option.some.inj h
theorem os {α:Type} {a b:α} (h:some a=some b):b=a:=(Option.some.inj h).symm
def nZ:List (Nat × Value)->List (Nat × Value)->List (Nat × Value)
 | [],r=>r
 | x::l,r=>x::nZ l r
def sF:List (Nat × Value)->Nat->Bool
 | [],_=>false
 | p::r,j=>Nat.beq p.1 j || sF r j
def FB:List (Nat × Value)->List (Nat × Value)->List (Nat × Value)
 | _,[]=>[]
 | new,p::r=>match sF new p.1 with
   | true=>FB new r
   | false=>p::FB (p::new) r
def lV (new a_:List (Nat × Value)):List (Nat × Value):=nZ new (FB new a_)
theorem aaN {t:Nat} {r:List (Nat × Value)}:∀ {l:List (Nat × Value)},ez (nZ l r) t=cond (sF l t) (ez l t) (ez r t)
 | []=>by simp [nZ,sF]
 | p::l=>by
   simp only [nZ,ez,sF]
   cases Nat.beq p.1 t with
   | true=>simp
   | false=>simp only [Bool.false_or];exact aaN
theorem QT {t:Nat}:∀ {r new:List (Nat × Value)},sF new t=false->ez (FB new r) t=ez r t
 | [],_,_=>rfl
 | p::r,new,h=>by
   simp only [FB,ez]
   cases ah:Nat.beq p.1 t with
   | true=>
     have:p.1 =t:=Nat.eq_of_beq_eq_true ah
     rw [this,h]
     simp only [ez,this,Nat.beq_refl]
   | false=>
     cases sF new p.1 with
     | true=>simp only;exact QT h
     | false=>simp only [ez,ah];exact QT (by simp only [sF,ah,Bool.false_or];exact h)
theorem Fr.HW (ag:Fr n (lV new a_) a):Fr n (nZ new a_) a:=⟨ag.size,ag.defers,fun t v aM=>ag.get t v (by
 unfold lV
 rw [aaN] at aM ⊢
 cases bz:sF new t with
 | true=>rw [bz] at aM;exact aM
 | false=>rw [bz] at aM;rw [QT bz];exact aM)⟩
def Ib (G:kR) (ops:Array Oper) (n:Nat) (M:List (Nat × Nat × List Value)) (is ao:List Nat) (a_:List (Nat × Value)) (fg:List Nat):Option (List (Nat × Value) × List (Nat × Nat)):=
 match zL ops.toList is with
 | some os=>k4 G ops n M os ao a_ fg
 | none=>none
theorem aoL {G:kR} {ops:Array Oper} {n:Nat} {M:List (Nat × Nat × List Value)} {is ao:List Nat} {a_:List (Nat × Value)} {fg:List Nat} {r:List (Nat × Value) × List (Nat × Nat)} (h:Ib G ops n M is ao a_ fg=some r):∃ os,zL ops.toList is=some os/\k4 G ops n M os ao a_ fg=some r:=by
 unfold Ib at h
 split at h
 · rename_i os I;exact ⟨os,I,h⟩
 · cases h
end
end ax
namespace J
structure Kind where
 Kind:Int
 aq:List UInt8
 deriving DecidableEq
structure Handler where
 From:Int
 To:Int
 hU:Int
 aq:List UInt8
 deriving DecidableEq
structure Method where
 Name:List UInt8
 Static:Bool
 cy:List Kind
 Returns:Kind
 g4:Int
 g2:Int
 Code:List UInt8
 cC:List Handler
structure Field where
 Name:List UInt8
 Kind:Kind
 deriving DecidableEq
structure aq where
 Name:List UInt8
 cS:List UInt8
 Fields:List Field
 bd:List Method
structure Target where
 aq:Int
 Method:Int
 deriving DecidableEq
structure aQ where
 bc:List aq
 a8:List Int
 Fields:List (List Field)
 Names:List (List (List UInt8))
 a9:List (List Target)
structure bn where
 l:List aq
 b1:List ((List UInt8) × Int)
 dl:List Int
structure aW where
 Words:List Int
 ar:Int
 aV:Int
 a3:Int
 a1:Int
 aY:List Int
 Next:Int
structure ch where
 K:aQ
structure bf where
 H:aW
 S:ch
 ar:List Int
 aV:List Int
 dS:List (Int × Bool)
end J
namespace J
open Go
def zX:ax.dh Kind where
 size:=2
 rd _ _ cs d:=cs= [.int .i64 d.Kind,ax.cm d.aq]
 len h:=by subst h;rfl
 one h v af:=by subst h;simp only [List.mem_cons,List.not_mem_nil,or_false] at af;rcases af with rfl | rfl <;> rfl
 law _ h:=h
def zW:ax.dh Handler where
 size:=4
 rd _ _ cs d:=cs= [.int .i64 d.From,.int .i64 d.To,.int .i64 d.hU,ax.cm d.aq]
 len h:=by subst h;rfl
 one h v af:=by subst h;simp only [List.mem_cons,List.not_mem_nil,or_false] at af;rcases af with rfl | rfl | rfl | rfl <;> rfl
 law _ h:=h
def oR:ax.dh Method where
 size:=9
 rd F w cs d:=∃ ec c1 c8 c2,cs= [ax.cm d.Name,.bool d.Static,.slice ec d.cy.length c1,.int .i64 d.Returns.Kind,ax.cm d.Returns.aq,.int .i64 d.g4,.int .i64 d.g2,ax.cm d.Code,.slice c8 d.cC.length c2]/\(ax.b3 J.zX).rd F w [.slice ec d.cy.length c1] d.cy/\(ax.b3 J.zW).rd F w [.slice c8 d.cC.length c2] d.cC
 len h:=by obtain ⟨ec,c1,c8,c2,aP,_⟩:=h;subst aP;rfl
 one h v af:=by obtain ⟨ec,c1,c8,c2,aP,_⟩:=h;subst aP;simp only [List.mem_cons,List.not_mem_nil,or_false] at af;rcases af with rfl | rfl | rfl | rfl | rfl | rfl | rfl | rfl | rfl <;> rfl
 law aI h:=by obtain ⟨ec,c1,c8,c2,aP,I,aa⟩:=h;exact ⟨ec,c1,c8,c2,aP,(ax.b3 J.zX).law aI I,(ax.b3 J.zW).law aI aa⟩
def iD:ax.dh Field where
 size:=3
 rd _ _ cs d:=cs= [ax.cm d.Name,.int .i64 d.Kind.Kind,ax.cm d.Kind.aq]
 len h:=by subst h;rfl
 one h v af:=by subst h;simp only [List.mem_cons,List.not_mem_nil,or_false] at af;rcases af with rfl | rfl | rfl <;> rfl
 law _ h:=h
def jv:ax.dh aq where
 size:=4
 rd F w cs d:=∃ ec c1 c8 c2,cs= [ax.cm d.Name,ax.cm d.cS,.slice ec d.Fields.length c1,.slice c8 d.bd.length c2]/\(ax.b3 J.iD).rd F w [.slice ec d.Fields.length c1] d.Fields/\(ax.b3 J.oR).rd F w [.slice c8 d.bd.length c2] d.bd
 len h:=by obtain ⟨ec,c1,c8,c2,aP,_⟩:=h;subst aP;rfl
 one h v af:=by obtain ⟨ec,c1,c8,c2,aP,_⟩:=h;subst aP;simp only [List.mem_cons,List.not_mem_nil,or_false] at af;rcases af with rfl | rfl | rfl | rfl <;> rfl
 law aI h:=by obtain ⟨ec,c1,c8,c2,aP,I,aa⟩:=h;exact ⟨ec,c1,c8,c2,aP,(ax.b3 J.iD).law aI I,(ax.b3 J.oR).law aI aa⟩
def jw:ax.dh Target where
 size:=2
 rd _ _ cs d:=cs= [.int .i64 d.aq,.int .i64 d.Method]
 len h:=by subst h;rfl
 one h v af:=by subst h;simp only [List.mem_cons,List.not_mem_nil,or_false] at af;rcases af with rfl | rfl <;> rfl
 law _ h:=h
def azp:ax.dh aQ where
 size:=5
 rd F w cs d:=∃ ec c1 c8 c2 qm c3 uA c4 uB c5,cs= [.slice ec d.bc.length c1,.slice c8 d.a8.length c2,.slice qm d.Fields.length c3,.slice uA d.Names.length c4,.slice uB d.a9.length c5]/\(ax.b3 J.jv).rd F w [.slice ec d.bc.length c1] d.bc/\(ax.b3 (ax.eY .i64)).rd F w [.slice c8 d.a8.length c2] d.a8/\(ax.b3 (ax.b3 J.iD)).rd F w [.slice qm d.Fields.length c3] d.Fields/\(ax.b3 (ax.b3 ax.iC)).rd F w [.slice uA d.Names.length c4] d.Names/\(ax.b3 (ax.b3 J.jw)).rd F w [.slice uB d.a9.length c5] d.a9
 len h:=by obtain ⟨ec,c1,c8,c2,qm,c3,uA,c4,uB,c5,aP,_⟩:=h;subst aP;rfl
 one h v af:=by obtain ⟨ec,c1,c8,c2,qm,c3,uA,c4,uB,c5,aP,_⟩:=h;subst aP;simp only [List.mem_cons,List.not_mem_nil,or_false] at af;rcases af with rfl | rfl | rfl | rfl | rfl <;> rfl
 law aI h:=by obtain ⟨ec,c1,c8,c2,qm,c3,uA,c4,uB,c5,aP,I,aa,au,bb,c0⟩:=h;exact ⟨ec,c1,c8,c2,qm,c3,uA,c4,uB,c5,aP,(ax.b3 J.jv).law aI I,(ax.b3 (ax.eY .i64)).law aI aa,(ax.b3 (ax.b3 J.iD)).law aI au,(ax.b3 (ax.b3 ax.iC)).law aI bb,(ax.b3 (ax.b3 J.jw)).law aI c0⟩
def azo:ax.dh aW where
 size:=7
 rd F w cs d:=∃ ec c1 c8 c2,cs= [.slice ec d.Words.length c1,.int .i64 d.ar,.int .i64 d.aV,.int .i64 d.a3,.int .i64 d.a1,.slice c8 d.aY.length c2,.int .i64 d.Next]/\(ax.b3 (ax.eY .i64)).rd F w [.slice ec d.Words.length c1] d.Words/\(ax.b3 (ax.eY .i64)).rd F w [.slice c8 d.aY.length c2] d.aY
 len h:=by obtain ⟨ec,c1,c8,c2,aP,_⟩:=h;subst aP;rfl
 one h v af:=by obtain ⟨ec,c1,c8,c2,aP,_⟩:=h;subst aP;simp only [List.mem_cons,List.not_mem_nil,or_false] at af;rcases af with rfl | rfl | rfl | rfl | rfl | rfl | rfl <;> rfl
 law aI h:=by obtain ⟨ec,c1,c8,c2,aP,I,aa⟩:=h;exact ⟨ec,c1,c8,c2,aP,(ax.b3 (ax.eY .i64)).law aI I,(ax.b3 (ax.eY .i64)).law aI aa⟩
end J
namespace Go.Value
abbrev c6 (g:Nat):Value:=.pointer (some ⟨g,0,none⟩)
abbrev i (n:Int):Value:=.int .i64 n
end Go.Value
namespace Go.Proofs.YteeliipnilghaaaGreat
open Go Go.RowKit
abbrev cl {α:Type} (T:ax.dh α) (A:Option Addr) (c:Nat) (l:List α):ax.bw:=ax.bw.of (ax.b3 T) [.slice A l.length c] l
def pu:ax.kR:=⟨[(3,.i .i64),(4,.b),(5,.i .u8),(9,.s),(22,.cl),(25,.cl),(26,.cl),(27,.cl),(28,.cl),(31,.i .i64),(73,.cl),(119,.cl),(120,.cl),(121,.cl),(124,.cl),(126,.cl),(129,.cl),(132,.cl),(202,.cl),(204,.cl)],[(24,0,0),(24,1,1),(24,2,2),(24,3,3),(24,4,4),(24,5,5),(24,6,6),(30,0,0),(30,1,1),(30,2,2),(30,3,3),(30,4,4),(69,0,0),(72,0,0),(72,1,7),(72,2,12),(72,3,13),(72,4,14),(117,0,0),(117,1,1),(117,2,2),(128,0,0),(128,1,1),(131,0,0),(131,1,1),(131,2,2),(131,3,3),(131,4,5),(131,5,6),(131,6,7),(131,7,8),(134,0,0),(134,1,1),(134,2,2),(134,3,3),(136,0,0),(136,1,1),(157,0,0),(157,1,1),(157,2,2),(157,3,3)],[(3,none),(4,none),(5,none),(9,none),(22,none),(24,some 7),(25,none),(26,none),(27,none),(28,none),(30,some 5),(60,none),(69,some 5),(70,none),(113,none),(115,none),(118,none),(120,none),(121,none),(124,none),(126,none),(128,some 2),(129,none),(131,some 9),(132,none),(134,some 4),(136,some 3),(157,some 4),(166,some 2)]⟩
theorem pv:ax.qp Tryz.prog pu:=⟨⟨Tryz.underlying3,Tryz.underlying4,Tryz.underlying5,Tryz.underlying9,⟨_,Tryz.underlying22⟩,⟨_,Tryz.underlying25⟩,⟨_,Tryz.underlying26⟩,⟨_,Tryz.underlying27⟩,⟨_,Tryz.underlying28⟩,Tryz.underlying31,⟨_,Tryz.underlying73⟩,⟨_,Tryz.underlying119⟩,⟨_,Tryz.underlying120⟩,⟨_,Tryz.underlying121⟩,⟨_,Tryz.underlying124⟩,⟨_,Tryz.underlying126⟩,⟨_,Tryz.underlying129⟩,⟨_,Tryz.underlying132⟩,⟨_,Tryz.underlying202⟩,⟨_,Tryz.underlying204⟩,trivial⟩,⟨ax.eG Tryz.underlying24 rfl rfl Tryz.sizeOf22 rfl,ax.eG Tryz.underlying24 rfl rfl Tryz.sizeOf3 rfl,ax.eG Tryz.underlying24 rfl rfl Tryz.sizeOf3 rfl,ax.eG Tryz.underlying24 rfl rfl Tryz.sizeOf3 rfl,ax.eG Tryz.underlying24 rfl rfl Tryz.sizeOf3 rfl,ax.eG Tryz.underlying24 rfl rfl Tryz.sizeOf22 rfl,ax.eG Tryz.underlying24 rfl rfl Tryz.sizeOf3 rfl,ax.eG Tryz.underlying30 rfl rfl Tryz.sizeOf25 rfl,ax.eG Tryz.underlying30 rfl rfl Tryz.sizeOf22 rfl,ax.eG Tryz.underlying30 rfl rfl Tryz.sizeOf26 rfl,ax.eG Tryz.underlying30 rfl rfl Tryz.sizeOf27 rfl,ax.eG Tryz.underlying30 rfl rfl Tryz.sizeOf28 rfl,ax.eG Tryz.underlying69 rfl rfl Tryz.sizeOf30 rfl,ax.eG Tryz.underlying72 rfl rfl Tryz.sizeOf24 rfl,ax.eG Tryz.underlying72 rfl rfl Tryz.sizeOf69 rfl,ax.eG Tryz.underlying72 rfl rfl Tryz.sizeOf22 rfl,ax.eG Tryz.underlying72 rfl rfl Tryz.sizeOf22 rfl,ax.eG Tryz.underlying72 rfl rfl Tryz.sizeOf70 rfl,ax.eG Tryz.underlying117 rfl rfl Tryz.sizeOf25 rfl,ax.eG Tryz.underlying117 rfl rfl Tryz.sizeOf115 rfl,ax.eG Tryz.underlying117 rfl rfl Tryz.sizeOf22 rfl,ax.eG Tryz.underlying128 rfl rfl Tryz.sizeOf3 rfl,ax.eG Tryz.underlying128 rfl rfl Tryz.sizeOf9 rfl,ax.eG Tryz.underlying131 rfl rfl Tryz.sizeOf9 rfl,ax.eG Tryz.underlying131 rfl rfl Tryz.sizeOf4 rfl,ax.eG Tryz.underlying131 rfl rfl Tryz.sizeOf126 rfl,ax.eG Tryz.underlying131 rfl rfl Tryz.sizeOf128 rfl,ax.eG Tryz.underlying131 rfl rfl Tryz.sizeOf3 rfl,ax.eG Tryz.underlying131 rfl rfl Tryz.sizeOf3 rfl,ax.eG Tryz.underlying131 rfl rfl Tryz.sizeOf9 rfl,ax.eG Tryz.underlying131 rfl rfl Tryz.sizeOf129 rfl,ax.eG Tryz.underlying134 rfl rfl Tryz.sizeOf9 rfl,ax.eG Tryz.underlying134 rfl rfl Tryz.sizeOf9 rfl,ax.eG Tryz.underlying134 rfl rfl Tryz.sizeOf124 rfl,ax.eG Tryz.underlying134 rfl rfl Tryz.sizeOf132 rfl,ax.eG Tryz.underlying136 rfl rfl Tryz.sizeOf9 rfl,ax.eG Tryz.underlying136 rfl rfl Tryz.sizeOf128 rfl,ax.eG Tryz.underlying157 rfl rfl Tryz.sizeOf3 rfl,ax.eG Tryz.underlying157 rfl rfl Tryz.sizeOf3 rfl,ax.eG Tryz.underlying157 rfl rfl Tryz.sizeOf3 rfl,ax.eG Tryz.underlying157 rfl rfl Tryz.sizeOf9 rfl,trivial⟩,⟨Tryz.isAgg3,Tryz.isAgg4,Tryz.isAgg5,Tryz.isAgg9,Tryz.isAgg22,⟨Tryz.isAgg24,Tryz.sizeOf24⟩,Tryz.isAgg25,Tryz.isAgg26,Tryz.isAgg27,Tryz.isAgg28,⟨Tryz.isAgg30,Tryz.sizeOf30⟩,Tryz.isAgg60,⟨Tryz.isAgg69,Tryz.sizeOf69⟩,Tryz.isAgg70,Tryz.isAgg113,Tryz.isAgg115,Tryz.isAgg118,Tryz.isAgg120,Tryz.isAgg121,Tryz.isAgg124,Tryz.isAgg126,⟨Tryz.isAgg128,Tryz.sizeOf128⟩,Tryz.isAgg129,⟨Tryz.isAgg131,Tryz.sizeOf131⟩,Tryz.isAgg132,⟨Tryz.isAgg134,Tryz.sizeOf134⟩,⟨Tryz.isAgg136,Tryz.sizeOf136⟩,⟨Tryz.isAgg157,Tryz.sizeOf157⟩,⟨Tryz.isAgg166,Tryz.sizeOf166⟩,trivial⟩⟩
theorem ar3:(Tryz.prog.info? 3).map (fun i=>(i.zero,i.size,i.bytes))=some (some (.int .i64 0),1,8):=by kernel_rfl
theorem Qg:(Tryz.prog.info? 9).map (fun i=>(i.zero,i.size,i.bytes))=some (some (ax.cm []),1,16):=by kernel_rfl
theorem ar2:(Tryz.prog.info? 136).map (fun i=>(i.zero,i.size,i.bytes))=some (some (.agg #[ax.cm [],.int .i64 0,ax.cm []]),3,40):=by kernel_rfl
theorem Qf:(Tryz.prog.info? 166).map (fun i=>(i.zero,i.size,i.bytes))=some (some (.agg #[.int .i64 0,.int .i64 0]),2,16):=by kernel_rfl
theorem avy:∀ w,(ax.placesOf Tryz.prog 166).run Tryz.prog w= .ok #[(0,1),(1,1)] w:=fun w=>by kernel_rfl
theorem aoe {o:Oper} {a:Act} {w:World} {t':TypeId} {x y:Operand} {X Y:J.Kind} (av:o.op= .binOp .eql 128 x y t') (ad:a.eval x= .agg #[.int .i64 X.Kind,ax.cm X.aq]) (hy:a.eval y= .agg #[.int .i64 Y.Kind,ax.cm Y.aq]):ax.bh Tryz.prog o a w (.bool (decide (X=Y))) w:=by
 have aN:decide (X=Y)=decide (X.Kind=Y.Kind/\X.aq=Y.aq/\True):=by rcases X with ⟨_,_⟩;rcases Y with ⟨_,_⟩;simp
 rw [aN]
 exact ax.L1 Tryz.underlying128 (by kernel_rfl) (by kernel_rfl) (ax.lX rfl Tryz.underlying3 Tryz.isAgg3 rfl rfl (ax.vl rfl Tryz.underlying9 Tryz.isAgg9 rfl rfl (by simp [ax.qJ]))) av ad hy
theorem aoi {o:Oper} {a:Act} {w:World} {t':TypeId} {x y:Operand} {X Y:J.Kind} (av:o.op= .binOp .neq 128 x y t') (ad:a.eval x= .agg #[.int .i64 X.Kind,ax.cm X.aq]) (hy:a.eval y= .agg #[.int .i64 Y.Kind,ax.cm Y.aq]):ax.bh Tryz.prog o a w (.bool (!decide (X=Y))) w:=by
 have aN:decide (X=Y)=decide (X.Kind=Y.Kind/\X.aq=Y.aq/\True):=by rcases X with ⟨_,_⟩;rcases Y with ⟨_,_⟩;simp
 rw [aN]
 exact ax.L2 Tryz.underlying128 (by kernel_rfl) (by kernel_rfl) (ax.lX rfl Tryz.underlying3 Tryz.isAgg3 rfl rfl (ax.vl rfl Tryz.underlying9 Tryz.isAgg9 rfl rfl (by simp [ax.qJ]))) av ad hy
theorem aoc {o:Oper} {a:Act} {w:World} {t':TypeId} {x y:Operand} {X Y:J.Field} (av:o.op= .binOp .eql 136 x y t') (ad:a.eval x= .agg #[ax.cm X.Name,.int .i64 X.Kind.Kind,ax.cm X.Kind.aq]) (hy:a.eval y= .agg #[ax.cm Y.Name,.int .i64 Y.Kind.Kind,ax.cm Y.Kind.aq]):ax.bh Tryz.prog o a w (.bool (decide (X=Y))) w:=by
 have aN:decide (X=Y)=decide (X.Name=Y.Name/\(X.Kind.Kind=Y.Kind.Kind/\X.Kind.aq=Y.Kind.aq/\True)/\True):=by rcases X with ⟨_,⟨_,_⟩⟩;rcases Y with ⟨_,⟨_,_⟩⟩;simp
 rw [aN]
 exact ax.L1 Tryz.underlying136 (by kernel_rfl) (by kernel_rfl) (ax.vl rfl Tryz.underlying9 Tryz.isAgg9 rfl rfl (ax.XQ (us:=[.int .i64 X.Kind.Kind,ax.cm X.Kind.aq]) (vs:=[.int .i64 Y.Kind.Kind,ax.cm Y.Kind.aq]) (q:=X.Kind.Kind=Y.Kind.Kind/\X.Kind.aq=Y.Kind.aq/\True) rfl Tryz.isAgg128 Tryz.sizeOf128 rfl rfl (ax.XR Tryz.underlying128 (by kernel_rfl) (ax.lX rfl Tryz.underlying3 Tryz.isAgg3 rfl rfl (ax.vl rfl Tryz.underlying9 Tryz.isAgg9 rfl rfl (by simp [ax.qJ])))) (by simp [ax.qJ]))) av ad hy
theorem aog {o:Oper} {a:Act} {w:World} {t':TypeId} {x y:Operand} {X Y:J.Field} (av:o.op= .binOp .neq 136 x y t') (ad:a.eval x= .agg #[ax.cm X.Name,.int .i64 X.Kind.Kind,ax.cm X.Kind.aq]) (hy:a.eval y= .agg #[ax.cm Y.Name,.int .i64 Y.Kind.Kind,ax.cm Y.Kind.aq]):ax.bh Tryz.prog o a w (.bool (!decide (X=Y))) w:=by
 have aN:decide (X=Y)=decide (X.Name=Y.Name/\(X.Kind.Kind=Y.Kind.Kind/\X.Kind.aq=Y.Kind.aq/\True)/\True):=by rcases X with ⟨_,⟨_,_⟩⟩;rcases Y with ⟨_,⟨_,_⟩⟩;simp
 rw [aN]
 exact ax.L2 Tryz.underlying136 (by kernel_rfl) (by kernel_rfl) (ax.vl rfl Tryz.underlying9 Tryz.isAgg9 rfl rfl (ax.XQ (us:=[.int .i64 X.Kind.Kind,ax.cm X.Kind.aq]) (vs:=[.int .i64 Y.Kind.Kind,ax.cm Y.Kind.aq]) (q:=X.Kind.Kind=Y.Kind.Kind/\X.Kind.aq=Y.Kind.aq/\True) rfl Tryz.isAgg128 Tryz.sizeOf128 rfl rfl (ax.XR Tryz.underlying128 (by kernel_rfl) (ax.lX rfl Tryz.underlying3 Tryz.isAgg3 rfl rfl (ax.vl rfl Tryz.underlying9 Tryz.isAgg9 rfl rfl (by simp [ax.qJ])))) (by simp [ax.qJ]))) av ad hy
theorem aod {o:Oper} {a:Act} {w:World} {t':TypeId} {x y:Operand} {X Y:J.Handler} (av:o.op= .binOp .eql 157 x y t') (ad:a.eval x= .agg #[.int .i64 X.From,.int .i64 X.To,.int .i64 X.hU,ax.cm X.aq]) (hy:a.eval y= .agg #[.int .i64 Y.From,.int .i64 Y.To,.int .i64 Y.hU,ax.cm Y.aq]):ax.bh Tryz.prog o a w (.bool (decide (X=Y))) w:=by
 have aN:decide (X=Y)=decide (X.From=Y.From/\X.To=Y.To/\X.hU=Y.hU/\X.aq=Y.aq/\True):=by rcases X with ⟨_,_,_,_⟩;rcases Y with ⟨_,_,_,_⟩;simp
 rw [aN]
 exact ax.L1 Tryz.underlying157 (by kernel_rfl) (by kernel_rfl) (ax.lX rfl Tryz.underlying3 Tryz.isAgg3 rfl rfl (ax.lX rfl Tryz.underlying3 Tryz.isAgg3 rfl rfl (ax.lX rfl Tryz.underlying3 Tryz.isAgg3 rfl rfl (ax.vl rfl Tryz.underlying9 Tryz.isAgg9 rfl rfl (by simp [ax.qJ]))))) av ad hy
theorem aoh {o:Oper} {a:Act} {w:World} {t':TypeId} {x y:Operand} {X Y:J.Handler} (av:o.op= .binOp .neq 157 x y t') (ad:a.eval x= .agg #[.int .i64 X.From,.int .i64 X.To,.int .i64 X.hU,ax.cm X.aq]) (hy:a.eval y= .agg #[.int .i64 Y.From,.int .i64 Y.To,.int .i64 Y.hU,ax.cm Y.aq]):ax.bh Tryz.prog o a w (.bool (!decide (X=Y))) w:=by
 have aN:decide (X=Y)=decide (X.From=Y.From/\X.To=Y.To/\X.hU=Y.hU/\X.aq=Y.aq/\True):=by rcases X with ⟨_,_,_,_⟩;rcases Y with ⟨_,_,_,_⟩;simp
 rw [aN]
 exact ax.L2 Tryz.underlying157 (by kernel_rfl) (by kernel_rfl) (ax.lX rfl Tryz.underlying3 Tryz.isAgg3 rfl rfl (ax.lX rfl Tryz.underlying3 Tryz.isAgg3 rfl rfl (ax.lX rfl Tryz.underlying3 Tryz.isAgg3 rfl rfl (ax.vl rfl Tryz.underlying9 Tryz.isAgg9 rfl rfl (by simp [ax.qJ]))))) av ad hy
theorem aof {o:Oper} {a:Act} {w:World} {t':TypeId} {x y:Operand} {X Y:J.Target} (av:o.op= .binOp .eql 166 x y t') (ad:a.eval x= .agg #[.int .i64 X.aq,.int .i64 X.Method]) (hy:a.eval y= .agg #[.int .i64 Y.aq,.int .i64 Y.Method]):ax.bh Tryz.prog o a w (.bool (decide (X=Y))) w:=by
 have aN:decide (X=Y)=decide (X.aq=Y.aq/\X.Method=Y.Method/\True):=by rcases X with ⟨_,_⟩;rcases Y with ⟨_,_⟩;simp
 rw [aN]
 exact ax.L1 Tryz.underlying166 (by kernel_rfl) (by kernel_rfl) (ax.lX rfl Tryz.underlying3 Tryz.isAgg3 rfl rfl (ax.lX rfl Tryz.underlying3 Tryz.isAgg3 rfl rfl (by simp [ax.qJ]))) av ad hy
theorem aoj {o:Oper} {a:Act} {w:World} {t':TypeId} {x y:Operand} {X Y:J.Target} (av:o.op= .binOp .neq 166 x y t') (ad:a.eval x= .agg #[.int .i64 X.aq,.int .i64 X.Method]) (hy:a.eval y= .agg #[.int .i64 Y.aq,.int .i64 Y.Method]):ax.bh Tryz.prog o a w (.bool (!decide (X=Y))) w:=by
 have aN:decide (X=Y)=decide (X.aq=Y.aq/\X.Method=Y.Method/\True):=by rcases X with ⟨_,_⟩;rcases Y with ⟨_,_⟩;simp
 rw [aN]
 exact ax.L2 Tryz.underlying166 (by kernel_rfl) (by kernel_rfl) (ax.lX rfl Tryz.underlying3 Tryz.isAgg3 rfl rfl (ax.lX rfl Tryz.underlying3 Tryz.isAgg3 rfl rfl (by simp [ax.qJ]))) av ad hy
section
open ax
variable {n:cN} {a_:List (Nat × Value)} {w:World} {a:Act}
theorem av8 (k:Nat) (ao:List Nat) {ops:Array Oper} {C:World->Prop} {o3:Act->Prop} {rest:List Oper} {M:List (Nat × Nat × List Value)} (fr':List (Nat × Value)) (L:List Nat) (eB:∀ w,C w->iY w M) (ag:Fr n a_ a)
 (next:∀ a2,Fr n fr' a2->wpQuiet Tryz.prog ops C o3 (rest.drop k) a2) (he:k4 pu ops n M (rest.take k) ao a_ (fr'.map (·.1))=some (fr',dup L):=by kernel_rfl):wpQuiet Tryz.prog ops C o3 rest a:=av7 k _ ao pv eB ag he next
theorem rg (ao:List Nat) {id:Nat} {lo:List Oper} {Q:Exit->Act->World->Prop} {M:List (Nat × Nat × List Value)} (fr':List (Nat × Value)) (L:List Nat) (eB:iY w M) (ag:Fr n a_ a)
 (next:∀ a2,Fr n fr' a2->Q .normal a2 w) (he:k4 pu lo.toArray n M lo ao a_ (fr'.map (·.1))=some (fr',dup L):=by kernel_rfl):(Code.region id lo.toArray false).wp Tryz.prog Q a w:=by
 refine mQ (gZ lo.length _ ao pv eB ag (by rw [List.take_length];exact he) fun a2 dR=>?_)
 rw [List.drop_length]
 exact next a2 dR
theorem Gl (ao:List Nat) {id:Nat} {lo:List Oper} {c:Code} {Q:Exit->Act->World->Prop} (fr':List (Nat × Value)) (ag:Fr n a_ a)
 (next:∀ a2,Fr n fr' a2->c.wp Tryz.prog Q a2 w) (he:k4 pu lo.toArray n [] lo ao a_ (fr'.map (·.1))=some (fr',dup []):=by kernel_rfl):(Code.seq (.region id lo.toArray false) c).wp Tryz.prog Q a w:=wp_seq_k fun _ cT=>rg ao fr' [] hb ag (fun a2 dR=>cT _ _ (next a2 dR)) he
theorem jT (k:Nat) (ao:List Nat) {ops:Array Oper} {Q:Exit->Act->World->Prop} {rest:List Oper} (hf:List (Nat × Value)) (ag:Fr n a_ a)
 (next:∀ a2,Fr n (nZ hf a_) a2->wpList Tryz.prog ops Q (rest.drop k) a2 w) (he:k4 pu ops n [] (rest.take k) ao a_ ((lV hf a_).map (·.1))=some (lV hf a_,dup []):=by kernel_rfl):wpList Tryz.prog ops Q rest a w:=gZ k _ ao pv hb ag he fun a2 h=>next a2 h.HW
theorem qG (k:Nat) (ao:List Nat) {ops:Array Oper} {Q:Exit->Act->World->Prop} {rest:List Oper} {M:List (Nat × Nat × List Value)} (hf:List (Nat × Value)) (L:List Nat) (eB:iY w M) (ag:Fr n a_ a)
 (next:∀ a2,Fr n (nZ hf a_) a2->wpList Tryz.prog ops Q (rest.drop k) a2 w) (he:k4 pu ops n M (rest.take k) ao a_ ((lV hf a_).map (·.1))=some (lV hf a_,dup L):=by kernel_rfl):wpList Tryz.prog ops Q rest a w:=gZ k _ ao pv eB ag he fun a2 h=>next a2 h.HW
theorem W_ (ao:List Nat) {id:Nat} {lo:List Oper} {Q:Exit->Act->World->Prop} {M:List (Nat × Nat × List Value)} (hf:List (Nat × Value)) (L:List Nat) (eB:iY w M) (ag:Fr n a_ a)
 (next:∀ a2,Fr n (nZ hf a_) a2->Q .normal a2 w) (he:k4 pu lo.toArray n M lo ao a_ ((lV hf a_).map (·.1))=some (lV hf a_,dup L):=by kernel_rfl):(Code.region id lo.toArray false).wp Tryz.prog Q a w:=rg ao _ L eB ag (fun a2 h=>next a2 h.HW) he
theorem W' (ao:List Nat) {id:Nat} {lo:List Oper} {Q:Exit->Act->World->Prop} (hf:List (Nat × Value)) (ag:Fr n a_ a)
 (next:∀ a2,Fr n (nZ hf a_) a2->Q .normal a2 w) (he:k4 pu lo.toArray n [] lo ao a_ ((lV hf a_).map (·.1))=some (lV hf a_,dup []):=by kernel_rfl):(Code.region id lo.toArray false).wp Tryz.prog Q a w:=W_ ao hf [] hb ag next he
theorem n6 (ao:List Nat) {id:Nat} {lo:List Oper} {c:Code} {Q:Exit->Act->World->Prop} (hf:List (Nat × Value)) (ag:Fr n a_ a)
 (next:∀ a2,Fr n (nZ hf a_) a2->c.wp Tryz.prog Q a2 w) (he:k4 pu lo.toArray n [] lo ao a_ ((lV hf a_).map (·.1))=some (lV hf a_,dup []):=by kernel_rfl):(Code.seq (.region id lo.toArray false) c).wp Tryz.prog Q a w:=wp_seq_k fun _ cT=>W_ ao hf [] hb ag (fun a2 dR=>cT _ _ (next a2 dR)) he
variable {ops:Array Oper} {Q:Exit->Act->World->Prop} {S:World->Prop} {f p:Nat} {ds:List Nat} {M:List (Nat × Nat × List Value)}
theorem dA (is:List Nat) (k:Nat) (ao:List Nat) (fr':List (Nat × Value)) (L:List Nat) (eB:∀ w,S w->iY w M) (ag:Fr n a_ a) (mY:S w) (next:∀ a2,Fr n fr' a2->eZ Tryz.prog ops Q p S f (F1 is ds) a2 w)
 (ai:Nat.beq is.length k=true:=by kernel_rfl) (ma:(dJ ops.size ds).getD p false=false:=by kernel_rfl) (aM:CF ops p ds is=true:=by kernel_rfl) (he:Ib pu ops n M is ao a_ (fr'.map (·.1))=some (fr',dup L):=by kernel_rfl):eZ Tryz.prog ops Q p S (f+k) ds a w:=by
 obtain ⟨os,I,aa⟩:=aoL he
 exact alW is k _ ao pv eB ag ai ma I aM aa mY next
theorem ej (is:List Nat) (k:Nat) (ao:List Nat) (hf:List (Nat × Value)) (L:List Nat) (eB:∀ w,S w->iY w M) (ag:Fr n a_ a) (mY:S w) (next:∀ a2,Fr n (nZ hf a_) a2->eZ Tryz.prog ops Q p S f (F1 is ds) a2 w)
 (ai:Nat.beq is.length k=true:=by kernel_rfl) (ma:(dJ ops.size ds).getD p false=false:=by kernel_rfl) (aM:CF ops p ds is=true:=by kernel_rfl) (he:Ib pu ops n M is ao a_ ((lV hf a_).map (·.1))=some (lV hf a_,dup L):=by kernel_rfl):eZ Tryz.prog ops Q p S (f+k) ds a w:=
 dA is k ao _ L eB ag mY (fun a2 h=>next a2 h.HW) ai ma aM he
end
end Go.Proofs.YteeliipnilghaaaGreat
namespace Go.Proofs.YteeliipnilghaaaGreat
open Go Go.RowKit
theorem lR:Tryz.prog.cellsOf 3 = 1 :=by kernel_rfl
theorem amX:Tryz.prog.cellsOf 4 = 1 :=by kernel_rfl
theorem vg:Tryz.prog.cellsOf 9 = 1 :=by kernel_rfl
theorem MT:Tryz.prog.cellsOf 22 = 1 :=by kernel_rfl
theorem amR:Tryz.prog.cellsOf 24 = 7 :=by kernel_rfl
theorem amS:Tryz.prog.cellsOf 25 = 1 :=by kernel_rfl
theorem amT:Tryz.prog.cellsOf 26 = 1 :=by kernel_rfl
theorem amU:Tryz.prog.cellsOf 27 = 1 :=by kernel_rfl
theorem amV:Tryz.prog.cellsOf 28 = 1 :=by kernel_rfl
theorem amW:Tryz.prog.cellsOf 30 = 5 :=by kernel_rfl
theorem amM:Tryz.prog.cellsOf 120 = 1 :=by kernel_rfl
theorem amN:Tryz.prog.cellsOf 121 = 1 :=by kernel_rfl
theorem WV:Tryz.prog.cellsOf 124 = 1 :=by kernel_rfl
theorem amO:Tryz.prog.cellsOf 126 = 1 :=by kernel_rfl
theorem HS:Tryz.prog.cellsOf 128 = 2 :=by kernel_rfl
theorem amP:Tryz.prog.cellsOf 129 = 1 :=by kernel_rfl
theorem WW:Tryz.prog.cellsOf 131 = 9 :=by kernel_rfl
theorem amQ:Tryz.prog.cellsOf 132 = 1 :=by kernel_rfl
theorem WX:Tryz.prog.cellsOf 134 = 4 :=by kernel_rfl
theorem WY:Tryz.prog.cellsOf 136 = 3 :=by kernel_rfl
theorem WZ:Tryz.prog.cellsOf 157 = 4 :=by kernel_rfl
theorem W0:Tryz.prog.cellsOf 166 = 2 :=by kernel_rfl
theorem amg:Tryz.prog.bytesOf 3 = 8 :=by kernel_rfl
theorem amh:Tryz.prog.bytesOf 9 = 16 :=by kernel_rfl
theorem al9:Tryz.prog.bytesOf 120 = 24 :=by kernel_rfl
theorem al_:Tryz.prog.bytesOf 121 = 24 :=by kernel_rfl
theorem al':Tryz.prog.bytesOf 124 = 24 :=by kernel_rfl
theorem ama:Tryz.prog.bytesOf 128 = 24 :=by kernel_rfl
theorem amb:Tryz.prog.bytesOf 131 = 128 :=by kernel_rfl
theorem amc:Tryz.prog.bytesOf 134 = 80 :=by kernel_rfl
theorem amd:Tryz.prog.bytesOf 136 = 40 :=by kernel_rfl
theorem ame:Tryz.prog.bytesOf 157 = 40 :=by kernel_rfl
theorem amf:Tryz.prog.bytesOf 166 = 16 :=by kernel_rfl
theorem aaI {l:List Value} (h:l.length= 2):∃ dA cO,l= [dA,cO]:=match l,h with | [dA,cO],_=>⟨dA,cO,rfl⟩
theorem atN {l:List Value} (h:l.length= 3):∃ dA cO dv,l= [dA,cO,dv]:=match l,h with | [dA,cO,dv],_=>⟨dA,cO,dv,rfl⟩
theorem aaJ {l:List Value} (h:l.length= 4):∃ dA cO dv er,l= [dA,cO,dv,er]:=match l,h with | [dA,cO,dv,er],_=>⟨dA,cO,dv,er,rfl⟩
theorem atO {l:List Value} (h:l.length= 5):∃ dA cO dv er e2,l= [dA,cO,dv,er,e2]:=match l,h with | [dA,cO,dv,er,e2],_=>⟨dA,cO,dv,er,e2,rfl⟩
theorem atP {l:List Value} (h:l.length= 7):∃ dA cO dv er e2 lO k0,l= [dA,cO,dv,er,e2,lO,k0]:=match l,h with | [dA,cO,dv,er,e2,lO,k0],_=>⟨dA,cO,dv,er,e2,lO,k0,rfl⟩
theorem atQ {l:List Value} (h:l.length= 9):∃ dA cO dv er e2 lO k0 yq A4,l= [dA,cO,dv,er,e2,lO,k0,yq,A4]:=match l,h with | [dA,cO,dv,er,e2,lO,k0,yq,A4],_=>⟨dA,cO,dv,er,e2,lO,k0,yq,A4,rfl⟩
section
variable {H:Type} {enc:TypeId × Value->H} {N:Nat}
theorem Kp:ax.g3 Tryz.prog enc N 22 (ax.b3 (ax.eY .i64)) (fun l=>l.length* 8 <=N/\ ∀ cI ∈ l,ax.iL cI):=by
 have h:=ax.p3 (enc:=enc) (N:=N) Tryz.underlying22 lR (by decide) (ax.mv Tryz.underlying3)
 rw [amg] at h
 exact h
def VQ (N:Nat) (d:J.aW):Prop:=(d.Words.length* 8 <=N/\ ∀ cI ∈ d.Words,ax.iL cI)/\ax.iL d.ar/\ax.iL d.aV/\ax.iL d.a3/\ax.iL d.a1/\(d.aY.length* 8 <=N/\ ∀ cI ∈ d.aY,ax.iL cI)/\ax.iL d.Next
theorem axR:ax.g3 Tryz.prog enc N 24 J.azo (VQ N):=by
 intro W n cs x h aH hw
 obtain ⟨fG,ap,ag⟩:=ax.mU Tryz.underlying24 h aH hw
 replace ap:=ap.trans amR
 obtain ⟨dA,cO,dv,er,e2,lO,k0,rfl⟩:=atP ap
 obtain ⟨Ax,aP,gI,w0⟩:=ax.e8 ag 0 rfl rfl rfl MT (r:=[dA]) rfl
 obtain ⟨d0,fR,hM⟩:=(Kp) W _ _ _ aP gI w0
 obtain ⟨oZ,gu,cF⟩:=ax.ly fR
 obtain rfl:dA=_:=(List.cons.inj cF).1
 obtain ⟨dq,I,et,g1⟩:=ax.e8 ag 1 rfl rfl rfl lR (r:=[cO]) rfl
 obtain ⟨d1,cd,bj⟩:=(ax.mv Tryz.underlying3) W _ _ _ I et g1
 have ak:[cO]=_:=cd
 obtain rfl:cO=_:=(List.cons.inj ak).1
 obtain ⟨jx,aa,hN,ew⟩:=ax.e8 ag 2 rfl rfl rfl lR (r:=[dv]) rfl
 obtain ⟨d2,c7,bk⟩:=(ax.mv Tryz.underlying3) W _ _ _ aa hN ew
 have al:[dv]=_:=c7
 obtain rfl:dv=_:=(List.cons.inj al).1
 obtain ⟨qj,au,lr,lA⟩:=ax.e8 ag 3 rfl rfl rfl lR (r:=[er]) rfl
 obtain ⟨d3,hk,cg⟩:=(ax.mv Tryz.underlying3) W _ _ _ au lr lA
 have aT:[er]=_:=hk
 obtain rfl:er=_:=(List.cons.inj aT).1
 obtain ⟨Db,bb,mq,Gt⟩:=ax.e8 ag 4 rfl rfl rfl lR (r:=[e2]) rfl
 obtain ⟨d4,rD,c'⟩:=(ax.mv Tryz.underlying3) W _ _ _ bb mq Gt
 have bU:[e2]=_:=rD
 obtain rfl:e2=_:=(List.cons.inj bU).1
 obtain ⟨aCT,c0,Cg,TQ⟩:=ax.e8 ag 5 rfl rfl rfl MT (r:=[lO]) rfl
 obtain ⟨d5,Cq,nc⟩:=(Kp) W _ _ _ c0 Cg TQ
 obtain ⟨uB,c5,dn⟩:=ax.ly Cq
 obtain rfl:lO=_:=(List.cons.inj dn).1
 obtain ⟨aCU,g8,RE,TR⟩:=ax.e8 ag 6 rfl rfl rfl lR (r:=[k0]) rfl
 obtain ⟨d6,SZ,vP⟩:=(ax.mv Tryz.underlying3) W _ _ _ g8 RE TR
 have gM:[k0]=_:=SZ
 obtain rfl:k0=_:=(List.cons.inj gM).1
 exact ⟨⟨d0,d1,d2,d3,d4,d5,d6⟩,⟨oZ,gu,uB,c5,rfl,fR,Cq⟩,⟨hM,bj,bk,cg,c',nc,vP⟩⟩
def Dr (N:Nat) (d:J.Kind):Prop:=ax.iL d.Kind/\d.aq.length<=N
theorem S6:ax.g3 Tryz.prog enc N 128 J.zX (Dr N):=by
 intro W n cs x h aH hw
 obtain ⟨fG,ap,ag⟩:=ax.mU Tryz.underlying128 h aH hw
 replace ap:=ap.trans HS
 obtain ⟨dA,cO,rfl⟩:=aaI ap
 obtain ⟨Ax,aP,gI,w0⟩:=ax.e8 ag 0 rfl rfl rfl lR (r:=[dA]) rfl
 obtain ⟨d0,fR,hM⟩:=(ax.mv Tryz.underlying3) W _ _ _ aP gI w0
 have cF:[dA]=_:=fR
 obtain rfl:dA=_:=(List.cons.inj cF).1
 obtain ⟨dq,I,et,g1⟩:=ax.e8 ag 1 rfl rfl rfl vg (r:=[cO]) rfl
 obtain ⟨d1,cd,bj⟩:=(ax.wK Tryz.underlying9) W _ _ _ I et g1
 have ak:[cO]=_:=cd
 obtain rfl:cO=_:=(List.cons.inj ak).1
 exact ⟨⟨d0,d1⟩,rfl,⟨hM,bj⟩⟩
def Dq (N:Nat) (d:J.Field):Prop:=d.Name.length<=N/\Dr N d.Kind
theorem axP:ax.g3 Tryz.prog enc N 136 J.iD (Dq N):=by
 intro W n cs x h aH hw
 obtain ⟨fG,ap,ag⟩:=ax.mU Tryz.underlying136 h aH hw
 replace ap:=ap.trans WY
 obtain ⟨dA,cO,dv,rfl⟩:=atN ap
 obtain ⟨Ax,aP,gI,w0⟩:=ax.e8 ag 0 rfl rfl rfl vg (r:=[dA]) rfl
 obtain ⟨d0,fR,hM⟩:=(ax.wK Tryz.underlying9) W _ _ _ aP gI w0
 have cF:[dA]=_:=fR
 obtain rfl:dA=_:=(List.cons.inj cF).1
 obtain ⟨dq,I,et,g1⟩:=ax.e8 ag 1 rfl rfl rfl HS (r:=[cO,dv]) rfl
 obtain ⟨d1,cd,bj⟩:=S6 W _ _ _ I et g1
 have ak:[cO,dv]=_:=cd
 simp only [List.cons.injEq,and_true] at ak
 obtain ⟨rfl,rfl⟩:=ak
 exact ⟨⟨d0,d1⟩,rfl,⟨hM,bj⟩⟩
theorem acG:ax.g3 Tryz.prog enc N 124 (ax.b3 J.iD) (fun l=>l.length* 40 <=N/\ ∀ cI ∈ l,Dq N cI):=by
 have h:=ax.p3 (enc:=enc) (N:=N) Tryz.underlying124 WY (by decide) axP
 rw [amd] at h
 exact h
theorem axY:ax.g3 Tryz.prog enc N 126 (ax.b3 J.zX) (fun l=>l.length* 24 <=N/\ ∀ cI ∈ l,Dr N cI):=by
 have h:=ax.p3 (enc:=enc) (N:=N) Tryz.underlying126 HS (by decide) S6
 rw [ama] at h
 exact h
def Mm (N:Nat) (d:J.Handler):Prop:=ax.iL d.From/\ax.iL d.To/\ax.iL d.hU/\d.aq.length<=N
theorem axQ:ax.g3 Tryz.prog enc N 157 J.zW (Mm N):=by
 intro W n cs x h aH hw
 obtain ⟨fG,ap,ag⟩:=ax.mU Tryz.underlying157 h aH hw
 replace ap:=ap.trans WZ
 obtain ⟨dA,cO,dv,er,rfl⟩:=aaJ ap
 obtain ⟨Ax,aP,gI,w0⟩:=ax.e8 ag 0 rfl rfl rfl lR (r:=[dA]) rfl
 obtain ⟨d0,fR,hM⟩:=(ax.mv Tryz.underlying3) W _ _ _ aP gI w0
 have cF:[dA]=_:=fR
 obtain rfl:dA=_:=(List.cons.inj cF).1
 obtain ⟨dq,I,et,g1⟩:=ax.e8 ag 1 rfl rfl rfl lR (r:=[cO]) rfl
 obtain ⟨d1,cd,bj⟩:=(ax.mv Tryz.underlying3) W _ _ _ I et g1
 have ak:[cO]=_:=cd
 obtain rfl:cO=_:=(List.cons.inj ak).1
 obtain ⟨jx,aa,hN,ew⟩:=ax.e8 ag 2 rfl rfl rfl lR (r:=[dv]) rfl
 obtain ⟨d2,c7,bk⟩:=(ax.mv Tryz.underlying3) W _ _ _ aa hN ew
 have al:[dv]=_:=c7
 obtain rfl:dv=_:=(List.cons.inj al).1
 obtain ⟨qj,au,lr,lA⟩:=ax.e8 ag 3 rfl rfl rfl vg (r:=[er]) rfl
 obtain ⟨d3,hk,cg⟩:=(ax.wK Tryz.underlying9) W _ _ _ au lr lA
 have aT:[er]=_:=hk
 obtain rfl:er=_:=(List.cons.inj aT).1
 exact ⟨⟨d0,d1,d2,d3⟩,rfl,⟨hM,bj,bk,cg⟩⟩
theorem axZ:ax.g3 Tryz.prog enc N 129 (ax.b3 J.zW) (fun l=>l.length* 40 <=N/\ ∀ cI ∈ l,Mm N cI):=by
 have h:=ax.p3 (enc:=enc) (N:=N) Tryz.underlying129 WZ (by decide) axQ
 rw [ame] at h
 exact h
def Hs (N:Nat) (d:J.Method):Prop:=d.Name.length<=N/\True/\(d.cy.length* 24 <=N/\ ∀ cI ∈ d.cy,Dr N cI)/\Dr N d.Returns/\ax.iL d.g4/\ax.iL d.g2/\d.Code.length<=N/\(d.cC.length* 40 <=N/\ ∀ cI ∈ d.cC,Mm N cI)
theorem axT:ax.g3 Tryz.prog enc N 131 J.oR (Hs N):=by
 intro W n cs x h aH hw
 obtain ⟨fG,ap,ag⟩:=ax.mU Tryz.underlying131 h aH hw
 replace ap:=ap.trans WW
 obtain ⟨dA,cO,dv,er,e2,lO,k0,yq,A4,rfl⟩:=atQ ap
 obtain ⟨Ax,aP,gI,w0⟩:=ax.e8 ag 0 rfl rfl rfl vg (r:=[dA]) rfl
 obtain ⟨d0,fR,hM⟩:=(ax.wK Tryz.underlying9) W _ _ _ aP gI w0
 have cF:[dA]=_:=fR
 obtain rfl:dA=_:=(List.cons.inj cF).1
 obtain ⟨dq,I,et,g1⟩:=ax.e8 ag 1 rfl rfl rfl amX (r:=[cO]) rfl
 obtain ⟨d1,cd,bj⟩:=(ax.axV Tryz.underlying4) W _ _ _ I et g1
 have ak:[cO]=_:=cd
 obtain rfl:cO=_:=(List.cons.inj ak).1
 obtain ⟨jx,aa,hN,ew⟩:=ax.e8 ag 2 rfl rfl rfl amO (r:=[dv]) rfl
 obtain ⟨d2,c7,bk⟩:=(axY) W _ _ _ aa hN ew
 obtain ⟨c8,c2,al⟩:=ax.ly c7
 obtain rfl:dv=_:=(List.cons.inj al).1
 obtain ⟨qj,au,lr,lA⟩:=ax.e8 ag 3 rfl rfl rfl HS (r:=[er,e2]) rfl
 obtain ⟨d3,hk,cg⟩:=S6 W _ _ _ au lr lA
 have aT:[er,e2]=_:=hk
 simp only [List.cons.injEq,and_true] at aT
 obtain ⟨rfl,rfl⟩:=aT
 obtain ⟨Db,bb,mq,Gt⟩:=ax.e8 ag 4 rfl rfl rfl lR (r:=[lO]) rfl
 obtain ⟨d4,rD,c'⟩:=(ax.mv Tryz.underlying3) W _ _ _ bb mq Gt
 have bU:[lO]=_:=rD
 obtain rfl:lO=_:=(List.cons.inj bU).1
 obtain ⟨aCT,c0,Cg,TQ⟩:=ax.e8 ag 5 rfl rfl rfl lR (r:=[k0]) rfl
 obtain ⟨d5,Cq,nc⟩:=(ax.mv Tryz.underlying3) W _ _ _ c0 Cg TQ
 have dn:[k0]=_:=Cq
 obtain rfl:k0=_:=(List.cons.inj dn).1
 obtain ⟨aCU,g8,RE,TR⟩:=ax.e8 ag 6 rfl rfl rfl vg (r:=[yq]) rfl
 obtain ⟨d6,SZ,vP⟩:=(ax.wK Tryz.underlying9) W _ _ _ g8 RE TR
 have gM:[yq]=_:=SZ
 obtain rfl:yq=_:=(List.cons.inj gM).1
 obtain ⟨aET,h0,avr,azy⟩:=ax.e8 ag 7 rfl rfl rfl amP (r:=[A4]) rfl
 obtain ⟨d7,acp,asj⟩:=(axZ) W _ _ _ h0 avr azy
 obtain ⟨ah8,aml,kp⟩:=ax.ly acp
 obtain rfl:A4=_:=(List.cons.inj kp).1
 exact ⟨⟨d0,d1,d2,d3,d4,d5,d6,d7⟩,⟨c8,c2,ah8,aml,rfl,c7,acp⟩,⟨hM,bj,bk,cg,c',nc,vP,asj⟩⟩
theorem ax0:ax.g3 Tryz.prog enc N 132 (ax.b3 J.oR) (fun l=>l.length* 128 <=N/\ ∀ cI ∈ l,Hs N cI):=by
 have h:=ax.p3 (enc:=enc) (N:=N) Tryz.underlying132 WW (by decide) axT
 rw [amb] at h
 exact h
def Dp (N:Nat) (d:J.aq):Prop:=d.Name.length<=N/\d.cS.length<=N/\(d.Fields.length* 40 <=N/\ ∀ cI ∈ d.Fields,Dq N cI)/\(d.bd.length* 128 <=N/\ ∀ cI ∈ d.bd,Hs N cI)
theorem axO:ax.g3 Tryz.prog enc N 134 J.jv (Dp N):=by
 intro W n cs x h aH hw
 obtain ⟨fG,ap,ag⟩:=ax.mU Tryz.underlying134 h aH hw
 replace ap:=ap.trans WX
 obtain ⟨dA,cO,dv,er,rfl⟩:=aaJ ap
 obtain ⟨Ax,aP,gI,w0⟩:=ax.e8 ag 0 rfl rfl rfl vg (r:=[dA]) rfl
 obtain ⟨d0,fR,hM⟩:=(ax.wK Tryz.underlying9) W _ _ _ aP gI w0
 have cF:[dA]=_:=fR
 obtain rfl:dA=_:=(List.cons.inj cF).1
 obtain ⟨dq,I,et,g1⟩:=ax.e8 ag 1 rfl rfl rfl vg (r:=[cO]) rfl
 obtain ⟨d1,cd,bj⟩:=(ax.wK Tryz.underlying9) W _ _ _ I et g1
 have ak:[cO]=_:=cd
 obtain rfl:cO=_:=(List.cons.inj ak).1
 obtain ⟨jx,aa,hN,ew⟩:=ax.e8 ag 2 rfl rfl rfl WV (r:=[dv]) rfl
 obtain ⟨d2,c7,bk⟩:=(acG) W _ _ _ aa hN ew
 obtain ⟨c8,c2,al⟩:=ax.ly c7
 obtain rfl:dv=_:=(List.cons.inj al).1
 obtain ⟨qj,au,lr,lA⟩:=ax.e8 ag 3 rfl rfl rfl amQ (r:=[er]) rfl
 obtain ⟨d3,hk,cg⟩:=(ax0) W _ _ _ au lr lA
 obtain ⟨qm,c3,aT⟩:=ax.ly hk
 obtain rfl:er=_:=(List.cons.inj aT).1
 exact ⟨⟨d0,d1,d2,d3⟩,⟨c8,c2,qm,c3,rfl,c7,hk⟩,⟨hM,bj,bk,cg⟩⟩
theorem ax1:ax.g3 Tryz.prog enc N 25 (ax.b3 J.jv) (fun l=>l.length* 80 <=N/\ ∀ cI ∈ l,Dp N cI):=by
 have h:=ax.p3 (enc:=enc) (N:=N) Tryz.underlying25 WX (by decide) axO
 rw [amc] at h
 exact h
theorem ax2:ax.g3 Tryz.prog enc N 26 (ax.b3 (ax.b3 J.iD)) (fun l=>l.length* 24 <=N/\ ∀ cI ∈ l,(cI.length* 40 <=N/\ ∀ ft ∈ cI,Dq N ft)):=by
 have h:=ax.p3 (enc:=enc) (N:=N) Tryz.underlying26 WV (by decide) (acG)
 rw [al'] at h
 exact h
theorem axW:ax.g3 Tryz.prog enc N 120 (ax.b3 ax.iC) (fun l=>l.length* 16 <=N/\ ∀ cI ∈ l,cI.length<=N):=by
 have h:=ax.p3 (enc:=enc) (N:=N) Tryz.underlying120 vg (by decide) (ax.wK Tryz.underlying9)
 rw [amh] at h
 exact h
theorem ax3:ax.g3 Tryz.prog enc N 27 (ax.b3 (ax.b3 ax.iC)) (fun l=>l.length* 24 <=N/\ ∀ cI ∈ l,(cI.length* 16 <=N/\ ∀ ft ∈ cI,ft.length<=N)):=by
 have h:=ax.p3 (enc:=enc) (N:=N) Tryz.underlying27 amM (by decide) (axW)
 rw [al9] at h
 exact h
def Ht (N:Nat) (d:J.Target):Prop:=ax.iL d.aq/\ax.iL d.Method
theorem axU:ax.g3 Tryz.prog enc N 166 J.jw (Ht N):=by
 intro W n cs x h aH hw
 obtain ⟨fG,ap,ag⟩:=ax.mU Tryz.underlying166 h aH hw
 replace ap:=ap.trans W0
 obtain ⟨dA,cO,rfl⟩:=aaI ap
 obtain ⟨Ax,aP,gI,w0⟩:=ax.e8 ag 0 rfl rfl rfl lR (r:=[dA]) rfl
 obtain ⟨d0,fR,hM⟩:=(ax.mv Tryz.underlying3) W _ _ _ aP gI w0
 have cF:[dA]=_:=fR
 obtain rfl:dA=_:=(List.cons.inj cF).1
 obtain ⟨dq,I,et,g1⟩:=ax.e8 ag 1 rfl rfl rfl lR (r:=[cO]) rfl
 obtain ⟨d1,cd,bj⟩:=(ax.mv Tryz.underlying3) W _ _ _ I et g1
 have ak:[cO]=_:=cd
 obtain rfl:cO=_:=(List.cons.inj ak).1
 exact ⟨⟨d0,d1⟩,rfl,⟨hM,bj⟩⟩
theorem axX:ax.g3 Tryz.prog enc N 121 (ax.b3 J.jw) (fun l=>l.length* 16 <=N/\ ∀ cI ∈ l,Ht N cI):=by
 have h:=ax.p3 (enc:=enc) (N:=N) Tryz.underlying121 W0 (by decide) axU
 rw [amf] at h
 exact h
theorem ax4:ax.g3 Tryz.prog enc N 28 (ax.b3 (ax.b3 J.jw)) (fun l=>l.length* 24 <=N/\ ∀ cI ∈ l,(cI.length* 16 <=N/\ ∀ ft ∈ cI,Ht N ft)):=by
 have h:=ax.p3 (enc:=enc) (N:=N) Tryz.underlying28 amN (by decide) (axX)
 rw [al_] at h
 exact h
def Hr (N:Nat) (d:J.aQ):Prop:=(d.bc.length* 80 <=N/\ ∀ cI ∈ d.bc,Dp N cI)/\(d.a8.length* 8 <=N/\ ∀ cI ∈ d.a8,ax.iL cI)/\(d.Fields.length* 24 <=N/\ ∀ cI ∈ d.Fields,(cI.length* 40 <=N/\ ∀ ft ∈ cI,Dq N ft))/\(d.Names.length* 24 <=N/\ ∀ cI ∈ d.Names,(cI.length* 16 <=N/\ ∀ ft ∈ cI,ft.length<=N))/\(d.a9.length* 24 <=N/\ ∀ cI ∈ d.a9,(cI.length* 16 <=N/\ ∀ ft ∈ cI,Ht N ft))
theorem axS:ax.g3 Tryz.prog enc N 30 J.azp (Hr N):=by
 intro W n cs x h aH hw
 obtain ⟨fG,ap,ag⟩:=ax.mU Tryz.underlying30 h aH hw
 replace ap:=ap.trans amW
 obtain ⟨dA,cO,dv,er,e2,rfl⟩:=atO ap
 obtain ⟨Ax,aP,gI,w0⟩:=ax.e8 ag 0 rfl rfl rfl amS (r:=[dA]) rfl
 obtain ⟨d0,fR,hM⟩:=(ax1) W _ _ _ aP gI w0
 obtain ⟨oZ,gu,cF⟩:=ax.ly fR
 obtain rfl:dA=_:=(List.cons.inj cF).1
 obtain ⟨dq,I,et,g1⟩:=ax.e8 ag 1 rfl rfl rfl MT (r:=[cO]) rfl
 obtain ⟨d1,cd,bj⟩:=(Kp) W _ _ _ I et g1
 obtain ⟨ec,c1,ak⟩:=ax.ly cd
 obtain rfl:cO=_:=(List.cons.inj ak).1
 obtain ⟨jx,aa,hN,ew⟩:=ax.e8 ag 2 rfl rfl rfl amT (r:=[dv]) rfl
 obtain ⟨d2,c7,bk⟩:=(ax2) W _ _ _ aa hN ew
 obtain ⟨c8,c2,al⟩:=ax.ly c7
 obtain rfl:dv=_:=(List.cons.inj al).1
 obtain ⟨qj,au,lr,lA⟩:=ax.e8 ag 3 rfl rfl rfl amU (r:=[er]) rfl
 obtain ⟨d3,hk,cg⟩:=(ax3) W _ _ _ au lr lA
 obtain ⟨qm,c3,aT⟩:=ax.ly hk
 obtain rfl:er=_:=(List.cons.inj aT).1
 obtain ⟨Db,bb,mq,Gt⟩:=ax.e8 ag 4 rfl rfl rfl amV (r:=[e2]) rfl
 obtain ⟨d4,rD,c'⟩:=(ax4) W _ _ _ bb mq Gt
 obtain ⟨uA,c4,bU⟩:=ax.ly rD
 obtain rfl:e2=_:=(List.cons.inj bU).1
 exact ⟨⟨d0,d1,d2,d3,d4⟩,⟨oZ,gu,ec,c1,c8,c2,qm,c3,uA,c4,rfl,fR,cd,c7,hk,rD⟩,⟨hM,bj,bk,cg,c'⟩⟩
end
end Go.Proofs.YteeliipnilghaaaGreat
namespace bB
open Go Go.RowKit ax J
inductive aL (El:Nat->Type):Type
 | p (v:Value)
 | b (i o:Nat)
 | x (t:Nat) (d:El t) (o:Nat)
 | s (t:Nat) (l:List (El t))
 | q (t:Nat) (l:List (El t))
 | r (i g:Nat)
 | v (i g:Nat) (lo hi:Int)
 | e (i g k t:Nat) (j:Int) (d:El t) (o:Nat)
 | w (i g o:Nat)
 | m (i:Nat)
 | n (bT vt:Nat) (d:List (El bT × El vt))
 | f (fn:Fn) (cs:List (aL El))
 | h (fn:Fn) (us:List (aL El))
 | a (l:List (aL El))
 | u (l:List (aL El))
 | i (t:Nat) (y:aL El)
 | pp (i g sz:Nat) (ek:List Int)
 | wJ (i g sz:Nat) (q:Int)
inductive aJ (El:Nat->Type):Type
 | c (ty:Nat) (cs:List (aL El))
 | r (t g k:Nat) (l:List (El t))
 | k (t sz g:Nat) (cs:List (aL El))
 | z (t g k:Nat) (l:List (El t))
 | m (bT vt:Nat) (d:List (El bT × El vt))
 | o (Rt:Obj)
 | no (g:Nat)
structure iM (cJ:Type) where
 dec:DecidableEq cJ
 pH: @ki cJ dec
structure b9 (El:Nat->Type) (t:Nat) where
 ty:dh (El t)
 agg:Bool
 cs:El t->List (aL El)
 gQ:List (aL El)->Option (El t)
 eq:Option (El t->El t->Bool)
 key:Option (iM (El t))
structure b6 where
 El:Nat->Type
 es:List (Σ t,b9 El t)
def azn {α:Type}:dh α where
 size:=0
 rd _ _ _ _:=False
 len h:=h.elim
 one h:=h.elim
 law _ h:=h
def b9.no {El:Nat->Type} {t:Nat}:b9 El t:=⟨azn,true,fun _=>[],fun _=>none,none,none⟩
def fK {El:Nat->Type}:List (Σ t,b9 El t)->(t:Nat)->b9 El t
 | [],_=>b9.no
 | e::r,t=>match Nat.decEq e.1 t with
   | isTrue h=>h ▸ e.2
   | isFalse _=>fK r t
def b6.e (T:b6) (t:Nat):b9 T.El t:=fK T.es t
def b6.ty (T:b6) (t:Nat):dh (T.El t):=(T.e t).ty
def b4 {El:Nat->Type}:Option (aJ El)->Nat
 | some (.r _ g _ _)=>g
 | some (.k _ _ g _)=>g
 | some (.z _ g _ _)=>g
 | some (.no g)=>g
 | _=>0
def gA {El:Nat->Type}:Option (aJ El)->Nat
 | some (.r _ _ k _)=>k
 | some (.z _ _ k _)=>k
 | _=>0
def p6 {El:Nat->Type}:Option (aJ El)->Option (Σ t,List (El t))
 | some (.r t _ _ l)=>some ⟨t,l⟩
 | some (.z t _ _ l)=>some ⟨t,l⟩
 | _=>none
def ix (T:b6):Option (aJ T.El)->Nat
 | some (.r t _ _ _)=>(T.ty t).size
 | some (.k _ sz _ _)=>sz
 | some (.z t _ _ _)=>(T.ty t).size
 | _=>0
def mg:Value->Prop
 | .slice _ _ _=>True
 | _=>False
def s5:Value->Prop
 | .pointer (some _)=>True
 | _=>False
def wC (agg:Bool) (xs:List Value):Value:=match agg with
 | true=>.agg ⟨xs⟩
 | false=>xs.headD undef
section
variable (T:b6) (F:Nat->Prop) (w:World)
def yo (t:Nat) (d:T.El t) (v:Value):Prop:=∃ xs,(T.ty t).rd F w xs d/\v=wC (T.e t).agg xs
def jz {bT vt:Nat} (K:iM (T.El bT)):List MapEntry->List (T.El bT × T.El vt)->Prop
 | [],[]=>True
 | e::es,p::d=>e.key= @ki.enc _ K.dec K.pH p.1 /\yo T F w vt p.2 e.val/\jz K es d
 | _,_=>False
def uN (bT vt r:Nat) (d:List (T.El bT × T.El vt)):Prop:=∃ K,(T.e bT).key=some K/\ ∃ es clock,w.heap[r]? =some (.map es clock)/\jz T F w K es.toList d/\(es.toList.map (·.born)).Pairwise (· < ·)/\ ∀ e ∈ es.toList,e.born <clock
end
section
variable {T:b6} {F F':Nat->Prop} {w w':World}
theorem jz.law (aI:∀ k,F k->F' k/\w'.heap[k]? =w.heap[k]?) {bT vt:Nat} {K:iM (T.El bT)}:∀ {es:List MapEntry} {d:List (T.El bT × T.El vt)},jz T F w K es d->jz T F' w' K es d
 | [],[],_=>trivial
 | [],_::_,h=>h.elim
 | _::_,[],h=>h.elim
 | e::es,p::d,h=>by
   obtain ⟨I,⟨xs,aa,au⟩,bb⟩:=h
   exact ⟨I,⟨xs,(T.ty vt).law aI aa,au⟩,jz.law aI bb⟩
theorem uN.law (aI:∀ k,F k->F' k/\w'.heap[k]? =w.heap[k]?) {bT vt r:Nat} {d:List (T.El bT × T.El vt)} (ao:w'.heap[r]? =w.heap[r]?) (h:uN T F w bT vt r d):uN T F' w' bT vt r d:=by
 obtain ⟨K,I,es,fJ,aa,au,bb⟩:=h
 exact ⟨K,I,es,fJ,ao.trans aa,au.law aI,bb⟩
end
def r7 {El:Nat->Type} (ρ:List Value) (bl:List (aJ El)) (i g sz:Nat) (q:Int) (v:Value):Prop:=s5 v/\ ∃ h,ρ[i]? =some h/\g<=b4 bl[i]? /\(g=b4 bl[i]? -> ∃ A n c,h= .slice A n c/\ 0 <=q/\q <n/\v= .pointer (some ⟨dm A,q.toNat*sz,none⟩))
def qv {El:Nat->Type} (ρ:List Value) (bl:List (aJ El)) (i g sz:Nat):List Int->List Value->Prop
 | [],vs=>vs= []
 | q::r,vs=>∃ u us,vs=u::us/\r7 ρ bl i g sz q u/\qv ρ bl i g sz r us
section
variable (T:b6) (F:Nat->Prop) (w:World) (ρ:List Value) (bl:List (aJ T.El))
mutual
def aw:aL T.El->Value->Prop
 | .p u,v=>v=u
 | .b i o,v=>∃ g,ρ[i]? =some (.pointer (some ⟨g,0,none⟩))/\v= .pointer (some ⟨g,o,none⟩)
 | .x t d o,v=>∃ a q cs,v= .pointer (some ⟨a,q+o,none⟩)/\F a/\(T.ty t).rd F w cs d/\e0 w ⟨a,q,none⟩ cs
 | .s t l,v=>(b3 (T.ty t)).rd F w [v] l
 | .q t l,v=>(b3 (T.ty t)).rd F w [v] l/\ ∃ A,v= .slice A l.length l.length
 | .r i g,v=>mg v/\ ∃ h,ρ[i]? =some h/\g<=b4 bl[i]? /\(g=b4 bl[i]? ->v=h)
 | .v i g lo hi,v=>mg v/\ ∃ h,ρ[i]? =some h/\g<=b4 bl[i]? /\(g=b4 bl[i]? -> ∃ A n c B,h= .slice A n c/\ 0 <=lo/\lo<=hi/\hi<=n/\v= .slice B (hi.toNat - lo.toNat) (c - lo.toNat)/\(lo= 0 ->B=A)/\(lo <hi->B=A.map (·.add (lo.toNat*ix T bl[i]?))))
 | .e i g k t j d o,v=>s5 v/\ ∃ h,ρ[i]? =some h/\g<=b4 bl[i]? /\(g=b4 bl[i]? ->(∃ A n c,h= .slice A n c/\ 0 <=j/\j <n/\v= .pointer (some ⟨dm A,j.toNat*ix T bl[i]? +o,none⟩))/\k<=gA bl[i]? /\(k=gA bl[i]? -> ∃ l,p6 bl[i]? =some ⟨t,l⟩/\idx l j=some d))
 | .w i g o,v=>s5 v/\ ∃ h,ρ[i]? =some h/\g<=b4 bl[i]? /\(g=b4 bl[i]? -> ∃ A n c,h= .slice A n c/\ 0 <n/\v= .pointer (some ⟨dm A,o,none⟩))
 | .m i,v=>∃ r,ρ[i]? =some (.map (some r))/\v= .map (some r)
 | .n bT vt d,v=>∃ r,v= .map (some r)/\F r/\uN T F w bT vt r d
 | .f fn cs,v=>∃ vs,v= .func fn #[] ⟨vs⟩/\a4 cs vs
 | .h fn us,v=>∃ vs,v= .func fn ⟨vs⟩ #[]/\a4 us vs
 | .a l,v=>∃ vs,v= .agg ⟨vs⟩/\a4 l vs
 | .u l,v=>∃ vs,v= .tuple ⟨vs⟩/\a4 l vs
 | .i t y,v=>∃ u,v= .iface t u/\aw y u
 | .pp i g sz ek,v=>∃ A c,v= .slice A ek.length c/\ek.length<=c/\(A=none->c= 0)/\(ek≠ []->A=some ⟨dm A,gg A,none⟩/\F (dm A)/\ ∃ xs,qv ρ bl i g sz ek xs/\e0 w ⟨dm A,gg A,none⟩ xs)
 | .wJ i g sz q,v=>∃ a o u,v= .pointer (some ⟨a,o,none⟩)/\F a/\r7 ρ bl i g sz q u/\e0 w ⟨a,o,none⟩ [u]
def a4:List (aL T.El)->List Value->Prop
 | [],vs=>vs= []
 | y::r,vs=>∃ u us,vs=u::us/\aw y u/\a4 r us
end
end
structure lN (T:b6) (ρ ρ':List Value) (bl bl':List (aJ T.El)):Prop where
 at_:∀ (i:Nat) (h:Value),ρ[i]? =some h-> ∃ h',ρ'[i]? =some h'/\(¬ mg h->h'=h)/\b4 bl[i]? <=b4 bl'[i]? /\(b4 bl'[i]? =b4 bl[i]? ->h'=h/\ix T bl'[i]? =ix T bl[i]? /\gA bl[i]? <=gA bl'[i]? /\(gA bl'[i]? =gA bl[i]? ->p6 bl'[i]? =p6 bl[i]?))
theorem lN.refl {T:b6} {ρ:List Value} {bl:List (aJ T.El)}:lN T ρ ρ bl bl:=⟨fun i h hi=>⟨h,hi,fun _=>rfl,Nat.le_refl _,fun _=>⟨rfl,rfl,Nat.le_refl _,fun _=>rfl⟩⟩⟩
theorem lN.trans {T:b6} {ρ ρ' Dh:List Value} {bl bl' sn:List (aJ T.El)} (h:lN T ρ ρ' bl bl') (k:lN T ρ' Dh bl' sn):lN T ρ Dh bl sn:=⟨fun i v hi=>by
 obtain ⟨fi,I,aa,au,bb⟩:=h.at_ i v hi
 obtain ⟨azu,bj,bk,cg,c'⟩:=k.at_ i fi I
 refine ⟨azu,bj,fun ao=>?_,Nat.le_trans au cg,fun e=>?_⟩
 · have ak:=aa ao
   rw [bk (by rw [ak];exact ao),ak]
 · have ak:b4 bl'[i]? =b4 bl[i]? :=by omega
   have al:b4 sn[i]? =b4 bl'[i]? :=by omega
   refine ⟨(c' al).1.trans (bb ak).1,(c' al).2.1.trans (bb ak).2.1,Nat.le_trans (bb ak).2.2.1 (c' al).2.2.1,fun aT=>?_⟩
   have cO:=(bb ak).2.2.1
   have dv:=(c' al).2.2.1
   exact ((c' al).2.2.2 (by omega)).trans ((bb ak).2.2.2 (by omega))⟩
section
variable {T:b6} {F F':Nat->Prop} {w w':World} {ρ ρ':List Value} {bl bl':List (aJ T.El)}
theorem r7.later {i g sz:Nat} {q:Int} {v:Value} (ap:lN T ρ ρ' bl bl') (h:r7 ρ bl i g sz q v):r7 ρ' bl' i g sz q v:=by
 obtain ⟨aP,u,I,aa,au⟩:=h
 obtain ⟨nB,bj,_,cg,c'⟩:=ap.at_ i _ I
 refine ⟨aP,nB,bj,Nat.le_trans aa cg,fun e=>?_⟩
 have ak:b4 bl'[i]? =b4 bl[i]? :=by omega
 rw [(c' ak).1];exact au (by omega)
theorem qv.imp {El alI:Nat->Type} {bl:List (aJ El)} {bl':List (aJ alI)} {i g i' g' sz:Nat} (hi:∀ q v,r7 ρ bl i g sz q v->r7 ρ' bl' i' g' sz q v):∀ {ek:List Int} {xs:List Value},qv ρ bl i g sz ek xs->qv ρ' bl' i' g' sz ek xs
 | [],_,h=>h
 | q::r,xs,h=>by
   obtain ⟨u,us,rfl,I,aa⟩:=h
   exact ⟨u,us,rfl,hi _ _ I,qv.imp hi aa⟩
theorem qv.at_ {i g sz:Nat}:∀ {ek:List Int} {xs:List Value} {m:Nat} {q:Int},qv ρ bl i g sz ek xs->ek[m]? =some q-> ∃ u,xs[m]? =some u/\r7 ρ bl i g sz q u
 | [],_,m,q,_,hm=>by simp at hm
 | p::r,xs,0,q,h,hm=>by
   obtain ⟨u,us,rfl,I,aa⟩:=h
   simp only [List.getElem?_cons_zero,Option.some.injEq] at hm
   subst hm
   exact ⟨u,rfl,I⟩
 | p::r,xs,m+ 1,q,h,hm=>by
   obtain ⟨u,us,rfl,I,aa⟩:=h
   simpa using qv.at_ aa (by simpa using hm)
mutual
theorem aw.later (aI:∀ k,F k->F' k/\w'.heap[k]? =w.heap[k]?) (ap:lN T ρ ρ' bl bl'):∀ (y:aL T.El) {v:Value},aw T F w ρ bl y v->aw T F' w' ρ' bl' y v
 | .p _,_,h=>by simpa only [aw] using h
 | .b i o,v,h=>by
   simp only [aw] at h ⊢
   obtain ⟨g,I,aa⟩:=h
   obtain ⟨h',bj,bk,_⟩:=ap.at_ i _ I
   exact ⟨g,by rw [bj,bk (by simp [mg])],aa⟩
 | .x t d o,v,h=>by
   simp only [aw] at h ⊢
   obtain ⟨a,q,cs,I,aa,au,bb⟩:=h
   exact ⟨a,q,cs,I,(aI a aa).1,(T.ty t).law aI au,bb.law (aI a aa).2⟩
 | .s t l,v,h=>by
   simp only [aw] at h ⊢
   exact (b3 (T.ty t)).law aI h
 | .q t l,v,h=>by
   simp only [aw] at h ⊢
   exact ⟨(b3 (T.ty t)).law aI h.1,h.2⟩
 | .r i g,v,h=>by
   simp only [aw] at h ⊢
   obtain ⟨aP,u,I,aa,au⟩:=h
   obtain ⟨nB,bj,_,cg,c'⟩:=ap.at_ i _ I
   refine ⟨aP,nB,bj,Nat.le_trans aa cg,fun e=>?_⟩
   have ak:b4 bl'[i]? =b4 bl[i]? :=by omega
   rw [(c' ak).1];exact au (by omega)
 | .v i g lo hi,v,h=>by
   simp only [aw] at h ⊢
   obtain ⟨aP,u,I,aa,au⟩:=h
   obtain ⟨nB,bj,_,cg,c'⟩:=ap.at_ i _ I
   refine ⟨aP,nB,bj,Nat.le_trans aa cg,fun e=>?_⟩
   have ak:b4 bl'[i]? =b4 bl[i]? :=by omega
   rw [(c' ak).1,(c' ak).2.1];exact au (by omega)
 | .e i g k t j d o,v,h=>by
   simp only [aw] at h ⊢
   obtain ⟨aP,u,I,aa,au⟩:=h
   obtain ⟨nB,bj,_,cg,c'⟩:=ap.at_ i _ I
   refine ⟨aP,nB,bj,Nat.le_trans aa cg,fun e=>?_⟩
   have ak:b4 bl'[i]? =b4 bl[i]? :=by omega
   obtain ⟨bp,bI,b2,gj⟩:=c' ak
   obtain ⟨cd,c7,hk⟩:=au (by omega)
   rw [bp,bI]
   refine ⟨cd,Nat.le_trans c7 b2,fun e=>?_⟩
   rw [gj (by omega)];exact hk (by omega)
 | .w i g o,v,h=>by
   simp only [aw] at h ⊢
   obtain ⟨aP,u,I,aa,au⟩:=h
   obtain ⟨nB,bj,_,cg,c'⟩:=ap.at_ i _ I
   refine ⟨aP,nB,bj,Nat.le_trans aa cg,fun e=>?_⟩
   have ak:b4 bl'[i]? =b4 bl[i]? :=by omega
   rw [(c' ak).1];exact au (by omega)
 | .m i,v,h=>by
   simp only [aw] at h ⊢
   obtain ⟨g,I,aa⟩:=h
   obtain ⟨h',bj,bk,_⟩:=ap.at_ i _ I
   exact ⟨g,by rw [bj,bk (by simp [mg])],aa⟩
 | .n bT vt d,v,h=>by
   simp only [aw] at h ⊢
   obtain ⟨r,I,aa,au⟩:=h
   exact ⟨r,I,(aI r aa).1,au.law aI (aI r aa).2⟩
 | .f fn cs,v,h=>by
   simp only [aw] at h ⊢
   obtain ⟨vs,I,aa⟩:=h
   exact ⟨vs,I,a4.later aI ap cs aa⟩
 | .h fn us,v,h=>by
   simp only [aw] at h ⊢
   obtain ⟨vs,I,aa⟩:=h
   exact ⟨vs,I,a4.later aI ap us aa⟩
 | .a l,v,h=>by
   simp only [aw] at h ⊢
   obtain ⟨vs,I,aa⟩:=h
   exact ⟨vs,I,a4.later aI ap l aa⟩
 | .u l,v,h=>by
   simp only [aw] at h ⊢
   obtain ⟨vs,I,aa⟩:=h
   exact ⟨vs,I,a4.later aI ap l aa⟩
 | .i t y,v,h=>by
   simp only [aw] at h ⊢
   obtain ⟨u,I,aa⟩:=h
   exact ⟨u,I,aw.later aI ap y aa⟩
 | .pp i g sz ek,v,h=>by
   simp only [aw] at h ⊢
   obtain ⟨A,c,ak,al,aT,bU⟩:=h
   refine ⟨A,c,ak,al,aT,fun aF=>?_⟩
   obtain ⟨bj,bk,xs,cg,c'⟩:=bU aF
   exact ⟨bj,(aI _ bk).1,xs,cg.imp fun q v=>r7.later ap,c'.law (aI _ bk).2⟩
 | .wJ i g sz q,v,h=>by
   simp only [aw] at h ⊢
   obtain ⟨a,o,u,ak,al,aT,bU⟩:=h
   exact ⟨a,o,u,ak,(aI _ al).1,aT.later ap,bU.law (aI _ al).2⟩
theorem a4.later (aI:∀ k,F k->F' k/\w'.heap[k]? =w.heap[k]?) (ap:lN T ρ ρ' bl bl'):∀ (l:List (aL T.El)) {vs:List Value},a4 T F w ρ bl l vs->a4 T F' w' ρ' bl' l vs
 | [],_,h=>by simpa only [a4] using h
 | y::r,vs,h=>by
   simp only [a4] at h ⊢
   obtain ⟨u,us,I,aa,au⟩:=h
   exact ⟨u,us,I,aw.later aI ap y aa,a4.later aI ap r au⟩
end
theorem a4.len:∀ {l:List (aL T.El)} {vs:List Value},a4 T F w ρ bl l vs->vs.length=l.length
 | [],_,h=>by simp only [a4] at h;subst h;rfl
 | y::r,vs,h=>by
   simp only [a4] at h
   obtain ⟨u,us,rfl,_,au⟩:=h
   simp [a4.len au]
theorem a4.at_:∀ {l:List (aL T.El)} {vs:List Value} {i:Nat} {y:aL T.El},a4 T F w ρ bl l vs->l[i]? =some y-> ∃ v,vs[i]? =some v/\aw T F w ρ bl y v
 | [],_,i,y,_,hi=>by simp at hi
 | z::r,vs,0,y,h,hi=>by
   simp only [a4] at h
   obtain ⟨u,us,rfl,aa,_⟩:=h
   simp only [List.getElem?_cons_zero,Option.some.injEq] at hi
   subst hi
   exact ⟨u,rfl,aa⟩
 | z::r,vs,i+ 1,y,h,hi=>by
   simp only [a4] at h
   obtain ⟨u,us,rfl,_,au⟩:=h
   simpa using a4.at_ au (by simpa using hi)
theorem a4.bO:∀ {l l':List (aL T.El)} {vs CN:List Value},a4 T F w ρ bl l vs->a4 T F w ρ bl l' CN->a4 T F w ρ bl (l++l') (vs++CN)
 | [],_,_,_,h,h'=>by simp only [a4] at h;subst h;exact h'
 | y::r,l',vs,CN,h,h'=>by
   simp only [a4] at h
   obtain ⟨u,us,rfl,aa,au⟩:=h
   simp only [List.cons_append,a4]
   exact ⟨u,us++CN,rfl,aa,a4.bO au h'⟩
theorem a4.drop:∀ {l:List (aL T.El)} {vs:List Value} (n:Nat),a4 T F w ρ bl l vs->a4 T F w ρ bl (l.drop n) (vs.drop n)
 | l,vs,0,h=>by simpa using h
 | [],vs,n+ 1,h=>by simp only [a4] at h;subst h;simp [a4]
 | y::r,vs,n+ 1,h=>by
   simp only [a4] at h
   obtain ⟨u,us,rfl,aa,au⟩:=h
   simpa using a4.drop n au
theorem a4.take:∀ {l:List (aL T.El)} {vs:List Value} (n:Nat),a4 T F w ρ bl l vs->a4 T F w ρ bl (l.take n) (vs.take n)
 | l,vs,0,h=>by simp [a4]
 | [],vs,n+ 1,h=>by simp only [a4] at h;subst h;simp [a4]
 | y::r,vs,n+ 1,h=>by
   simp only [a4] at h
   obtain ⟨u,us,rfl,aa,au⟩:=h
   simp only [List.take_succ_cons,a4]
   exact ⟨u,us.take n,rfl,aa,a4.take n au⟩
end
end bB
