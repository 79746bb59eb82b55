/- Part 1 of the proof that is ended in the last text: small logic, what the functions compute, walks, plain laws. -/
import Derived.WalkKit
import Derived.Deep.LoopGhost
import Derived.Deep.Quiet
import Derived.Maps.AppendAt
import Derived.KernelRfl
import Derived.Deep.RegionHeld3
import Derived.Laws.StructEq
import Derived.Carry
import Derived.ChangeSame
import Derived.OpenShut
import Derived.Deep.Slices
import Derived.Deep.Fields
import Derived.ChangeMaps5
import Derived.Lib.LaidTab
import Derived.OrdersHeld
import Derived.MapKept
import Derived.Laws.OwnMore
import Derived.Laws.IdiomStrings
import Derived.RangeFuncRecord
import Derived.RangeFuncSeq
import Derived.RangeFuncIn
import Derived.RangeFuncLeaves
import Derived.OrdersIn
import Derived.TacticsIn
import Derived.Deep.OwnRows
import Derived.Lib.AppendZeros
import Derived.ArgAppend
import Derived.Test.YteeliipnilghaaaGreatChecked
namespace J
def aE (n:Int):Int:=(n+ 9223372036854775808) % 18446744073709551616 - 9223372036854775808
def Cj (n:Int):Int:=n % 18446744073709551616
def Q9 (a b:Int):Int:=aE ((BitVec.ofInt 64 a ||| BitVec.ofInt 64 b).toNat:Int)
def Mb (a b:Int):Int:=aE ((BitVec.ofInt 64 a &&& BitVec.ofInt 64 b).toNat:Int)
def tx (a:Int) (n:Nat):Int:=a / 2 ^ n
def kl (n:Int):UInt8:=UInt8.ofNat (n % 256).toNat
def idx {α:Type} (l:List α) (i:Int):Option α:=if 0 <=i then l[i.toNat]? else none
def tr (b:Bool):Option Unit:=if b then some () else none
def bR {α:Type} (bytes:Nat) (l m:List α):Option (List α):=if (l.length+m.length)*bytes<= 140737488355328 then some (l++m) else none
def bytesOf (s:List UInt8):Option (List UInt8):=if s.length<= 140737488355328 then some s else none
def zb {α:Type} (z:α) (bytes:Nat) (n:Int):Option (List α):=if 0 <=n/\bytes*n.toNat<= 140737488355328 then some (List.replicate n.toNat z) else none
def C0 {α:Type} (z:α) (bytes:Nat) (n:Int):Option (List α):=if 0 <n/\bytes*n.toNat<= 140737488355328 then some (List.replicate n.toNat z) else none
def cut {α:Type} (l:List α) (i j:Int):Option (List α):=if 0 <=i/\i<=j/\j<=l.length then some ((l.take j.toNat).drop i.toNat) else none
theorem Mt {α:Type} {b:Bool} {x y:Option α} {r:α} (ah:b=true) (h:cond b x y=some r):x=some r:=by subst ah;exact h
theorem Ms {α:Type} {b:Bool} {x y:Option α} {r:α} (ah:b=false) (h:cond b x y=some r):y=some r:=by subst ah;exact h
theorem fW {α β:Type} {o:Option α} {f:α->Option β} {r:β} (h:o.bind f=some r):∃ x,o=some x/\f x=some r:=by
 cases o with
 | none=>cases h
 | some x=>exact ⟨x,rfl,h⟩
theorem jW {α:Type} {l:List α} {i:Int} {d:α} (h:idx l i=some d):0 <=i/\i.toNat <l.length/\l[i.toNat]? =some d:=by
 unfold idx at h
 split at h
 · rename_i aN
   exact ⟨aN,(List.getElem?_eq_some_iff.1 h).1,h⟩
 · cases h
theorem G0 {α:Type} {bytes:Nat} {l m r:List α} (h:bR bytes l m=some r):(l.length+m.length)*bytes<= 140737488355328 /\r=l++m:=by
 unfold bR at h
 split at h
 · rename_i aN;exact ⟨aN,by simpa using h.symm⟩
 · cases h
theorem as1 {α:Type} {z:α} {bytes:Nat} {n:Int} {r:List α} (h:zb z bytes n=some r):0 <=n/\bytes*n.toNat<= 140737488355328 /\r=List.replicate n.toNat z:=by
 unfold zb at h
 split at h
 · rename_i aN;exact ⟨aN.1,aN.2,by simpa using h.symm⟩
 · cases h
theorem akV {α:Type} {z:α} {bytes:Nat} {n:Int} {r:List α} (h:C0 z bytes n=some r):0 <n/\bytes*n.toNat<= 140737488355328 /\r=List.replicate n.toNat z:=by
 unfold C0 at h
 split at h
 · rename_i aN;exact ⟨aN.1,aN.2,by simpa using h.symm⟩
 · cases h
theorem QU {b:Bool} {u:Unit} (h:tr b=some u):b=true:=by
 unfold tr at h
 split at h
 · assumption
 · cases h
theorem akX (n:Int):((kl n).toNat:Int)=n % 256 :=by
 unfold kl
 have aN:0 <=n % 256 :=Int.emod_nonneg _ (by omega)
 have I:n % 256 < 256 :=Int.emod_lt_of_pos _ (by omega)
 simp only [UInt8.toNat_ofNat']
 omega
end J
namespace J
def join {cD α:Type} (k:cD) (b:cD->Option α):Option α:=b k
end J
namespace J
section
variable {cD β:Type} [DecidableEq cD]
def du:List (cD × β)->cD->Option β
 | [],_=>none
 | p::r,k=>if p.1 =k then some p.2 else du r k
def hA:List (cD × β)->cD->β->List (cD × β)
 | [],k,v=>[(k,v)]
 | p::r,k,v=>if p.1 =k then (k,v)::r else p::hA r k v
def nd:List (cD × β)->cD->Option Nat
 | [],_=>none
 | p::r,k=>if p.1 =k then some 0 else (nd r k).map (· + 1)
end
end J
namespace J
inductive Way (ρ α:Type)
 | go (a:α)
 | out (r:ρ)
def cd {ρ α:Type} (x:Option (Way ρ α)) (k:α->Option ρ):Option ρ:=match x with
 | none=>none
 | some (.go a)=>k a
 | some (.out r)=>some r
def cS {ρ α β:Type} (x:Option (Way ρ α)) (k:α->Option (Way ρ β)):Option (Way ρ β):=match x with
 | none=>none
 | some (.go a)=>k a
 | some (.out r)=>some (.out r)
def VZ {ρ α:Type} (k:α->Option ρ):Way ρ α->Option ρ
 | .go a=>k a
 | .out r=>some r
theorem axA {ρ α:Type} {x:Option (Way ρ α)} {k:α->Option ρ} {r:ρ} (h:cd x k=some r):∃ y,x=some y/\VZ k y=some r:=by
 cases x with
 | none=>cases h
 | some y=>cases y <;> exact ⟨_,rfl,h⟩
@[simp] theorem oI {ρ α:Type} (a:α) (k:α->Option ρ):cd (some (.go a)) k=k a:=rfl
@[simp] theorem ab2 {ρ α:Type} (r:ρ) (k:α->Option ρ):cd (some (.out r)) k=some r:=rfl
@[simp] theorem mu {ρ α β:Type} (a:α) (k:α->Option (Way ρ β)):cS (some (.go a)) k=k a:=rfl
@[simp] theorem aC6 {ρ α β:Type} (r:ρ) (k:α->Option (Way ρ β)):cS (some (.out r)) k=some (.out r):=rfl
end J
namespace J
end J
namespace av
open Go Go.RowKit
def eo:List (Nat × Value)->Nat->Option Value
 | [],_=>none
 | p::r,t=>match Nat.beq p.1 t with
   | true=>some p.2
   | false=>eo r t
structure cI where
 n:Nat
 ds:List Deferred
instance:Coe cI Nat:=⟨cI.n⟩
structure Fr (n:cI) (l:List (Nat × Value)) (a:Act):Prop where
 size:a.tmps.size=n.n
 defers:a.defers=n.ds
 get:∀ t v,eo l t=some v->a.tmps.getD t undef=v
theorem Fr.g {n:cI} {l:List (Nat × Value)} {a:Act} {t:Nat} {v:Value} (af:Fr n l a) (h:eo l t=some v):a.eval (.tmp t)=v:=af.get t v h
theorem Fr.put {n:cI} {d:Nat} {l:List (Nat × Value)} {a:Act} {v:Value} (af:Fr n l a) (aL:Nat.blt d n=true):Fr n ((d,v)::l) (a.put (some d) v):=by
 have bs:d <n:=Nat.le_of_ble_eq_true aL
 refine ⟨by simpa [Act.put] using af.size,af.defers,fun t u h=>?_⟩
 have ao:=af.size
 simp only [eo] at h
 cases ah:Nat.beq d t with
 | true=>
   rw [ah] at h
   simp only [Option.some.injEq] at h
   have e:d=t:=Nat.eq_of_beq_eq_true ah
   subst e;subst h
   simp [Act.put,ao,bs]
 | false=>
   rw [ah] at h
   have e:d≠t:=by intro e;subst e;simp at ah
   have:=af.get t u h
   simp only [Act.put,Array.getD_eq_getD_getElem?] at this ⊢
   rw [Array.getElem?_setIfInBounds,if_neg e]
   exact this
def FI (l:List (Nat × Value)):List (Nat × Value)->Prop
 | []=>True
 | p::r=>eo l p.1 =some p.2 /\FI l r
theorem asI {l l':List (Nat × Value)} (h:FI l l'):∀ t v,eo l' t=some v->eo l t=some v:=by
 induction l' with
 | nil=>intro t v aJ;simp [eo] at aJ
 | cons p r ba=>
   intro t v aJ
   simp only [eo] at aJ
   cases ah:Nat.beq p.1 t with
   | true=>
     rw [ah] at aJ
     have e:p.1 =t:=Nat.eq_of_beq_eq_true ah
     simp only [Option.some.injEq] at aJ
     rw [<-e,<-aJ];exact h.1
   | false=>rw [ah] at aJ;exact ba h.2 t v aJ
theorem Fr.sub {n:cI} {l l':List (Nat × Value)} {a:Act} (af:Fr n l a) (h:FI l l'):Fr n l' a:=
 ⟨af.size,af.defers,fun t v aJ=>af.get t v (asI h t v aJ)⟩
def qy:Nat->List Value->List (Nat × Value)
 | _,[]=>[]
 | k,v::r=>(k,v)::qy (k+ 1) r
theorem asH (vs:List Value):∀ k t v,eo (qy k vs) t=some v->k<=t/\vs[t - k]? =some v:=by
 induction vs with
 | nil=>intro k t v h;simp [qy,eo] at h
 | cons u r ba=>
   intro k t v h
   simp only [qy,eo] at h
   cases ah:Nat.beq k t with
   | true=>
     rw [ah] at h
     have e:k=t:=Nat.eq_of_beq_eq_true ah
     subst e
     simpa using h
   | false=>
     rw [ah] at h
     have e:k≠t:=by intro e;subst e;simp at ah
     obtain ⟨I,aa⟩:=ba (k+ 1) t v h
     refine ⟨by omega,?_⟩
     have:t - k=(t - (k+ 1))+ 1 :=by omega
     rw [this];simpa using aa
theorem Fr.init (vs:List Value) (n:Nat) (h:Nat.ble vs.length n=true):Fr ⟨n,[]⟩ (qy 0 vs) { tmps:=vs.toArray++Array.replicate (n - vs.toArray.size) undef,defers:=[] }:=by
 have hle:vs.length<=n:=by simpa using h
 refine ⟨by simp;omega,rfl,fun t v aJ=>?_⟩
 obtain ⟨_,aa⟩:=asH vs 0 t v aJ
 have bs:t <vs.length:=by
  rcases Nat.lt_or_ge t vs.length with h | h
  · exact h
  · rw [List.getElem?_eq_none (by simpa using h)] at aa;cases aa
 have aq:vs[t]? =some v:=by simpa using aa
 rw [Array.getD_eq_getD_getElem?]
 rw [List.getElem?_eq_getElem bs,Option.some.injEq] at aq
 simp [Array.getElem?_append,bs,aq]
theorem enter {P:Program} {f:FuncId} {fn:Func} {c:Code} {vs:List Value} {w:World} {R:Ending->World->Prop} {n:Nat}
 (af:P.funcs[f]? =some fn) (ah:fn.body=some c) (aA:fn.ntmps=n) (ak:Nat.ble vs.length n=true)
 (h:∀ a,Fr ⟨n,[]⟩ (qy 0 vs) a->c.wp P (bodyPost P fn R) a w):Calls P f vs.toArray w R:=by
 refine calls_of_wp af ah ?_
 rw [aA]
 exact h _ (Fr.init vs n ak)
structure bp (M:List Nat) (w w':World):Prop where
 os:w'.os=w.os
 tape:w'.tape=w.tape
 output:w'.output=w.output
 size:w.heap.size<=w'.heap.size
 block:∀ k,k <w.heap.size->k ∉ M->w'.heap[k]? =w.heap[k]?
theorem bp.refl (M:List Nat) (w:World):bp M w w:=⟨rfl,rfl,rfl,Nat.le_refl _,fun _ _ _=>rfl⟩
theorem bp.trans {M iM:List Nat} {a b c:World} (h:bp M a b) (k:bp iM b c) (hm:∀ x ∈ iM,x ∈ M\/a.heap.size<=x):bp M a c:=
 ⟨k.os.trans h.os,k.tape.trans h.tape,k.output.trans h.output,Nat.le_trans h.size k.size,fun i hi aA=>
   (k.block i (Nat.lt_of_lt_of_le hi h.size) (fun ad=>by rcases hm i ad with e | e;exact aA e;omega)).trans (h.block i hi aA)⟩
theorem bp.drew (M:List Nat) (w:World):bp M w w.drew:=⟨rfl,rfl,rfl,Nat.le_refl _,fun _ _ _=>rfl⟩
theorem bp.alloc (M:List Nat) (w:World) (o:Obj):bp M w (w.alloc o):=⟨rfl,rfl,rfl,by simp,fun k ai _=>Below.heap_alloc _ _ _ ai⟩
theorem bp.set (w:World) (a:Addr) (u:Value):bp [a.block] w (w.setCell a u):=
 ⟨rfl,rfl,rfl,by simp [World.setCell],fun k _ aA=>Below.heap_setCell _ _ _ _ (by simpa using aA)⟩
theorem bp.mono {M iM:List Nat} {a b:World} (h:bp M a b) (hm:∀ x ∈ M,x ∈ iM):bp iM a b:=⟨h.os,h.tape,h.output,h.size,fun k ai aA=>h.block k ai (fun ad=>aA (hm k ad))⟩
theorem bp.grown {w w':World} {row:Option Nat} (h:w.grownBy w' row):bp row.toList w w':=
 ⟨h.os,h.tape,h.output,h.size,fun k ai aA=>h.block k ai (fun e=>aA (by rw [<-e];simp))⟩
theorem bp.below {w w':World} (h:bp [] w w'):Below w.heap.size w w':=⟨h.os,h.tape,h.output,h.size,fun k ai=>h.block k ai (by simp)⟩
structure a7 where
 bw:List Nat
 ok:World->Prop
 law:∀ w w',(∀ k ∈ bw,w'.heap[k]? =w.heap[k]?)->ok w->ok w'
structure bt where
 ok:List Nat->World->Prop
 law:∀ M iM w w',bp M w w'->(∀ k ∈ iM,k ∈ M\/w.heap.size<=k)->ok M w->ok iM w'
def b4 (E:List a7):List Nat:=E.flatMap a7.bw
structure bn (W:World) (M0 X:List Nat) (w:World) (E:List a7) (D:List bt):Prop where
 b6:bp M0 W w
 hz:∀ k ∈ X,k <W.heap.size/\k ∉ M0
 lt:∀ k ∈ b4 E,k <w.heap.size/\(k ∈ M0\/W.heap.size<=k)
 ok:∀ x ∈ E,x.ok w
 br:(b4 E).Nodup
 rd:∀ y ∈ D,y.ok (X++b4 E) w
section
variable {W w w':World} {M0 X:List Nat} {E:List a7} {D:List bt}
theorem bn.start (M0 X:List Nat) (w:World) (E:List a7) (D:List bt) (OD:∀ k ∈ X,k <w.heap.size/\k ∉ M0) (bs:∀ k ∈ b4 E,k <w.heap.size/\k ∈ M0) (px:∀ x ∈ E,x.ok w) (qN:(b4 E).Nodup) (gT:∀ y ∈ D,y.ok (X++b4 E) w) :
 bn w M0 X w E D:=⟨bp.refl _ _,OD,fun k ai=>⟨(bs k ai).1,.inl (bs k ai).2⟩,px,qN,gT⟩
theorem bn.ff (h:bn W M0 X w E D) (ag:bp [] w w'):bn W M0 X w' E D:=
 ⟨h.b6.trans ag (by simp),h.hz,fun k ai=>⟨Nat.lt_of_lt_of_le (h.lt k ai).1 ag.size,(h.lt k ai).2⟩,
  fun x ad=>x.law w w' (fun k ai=>ag.block k (h.lt k (List.mem_flatMap.2 ⟨x,ad,ai⟩)).1 (by simp)) (h.ok x ad),h.br,
  fun y hy=>y.law (X++b4 E) _ w w' (ag.mono (by simp)) (fun k ai=>.inl ai) (h.rd y hy)⟩
theorem bn.drew (h:bn W M0 X w E D):bn W M0 X w.drew E D:=h.ff (bp.drew _ _)
theorem bn.push (h:bn W M0 X w E D) (x:a7) (ag:bp [] w w') (ad:x.ok w') (af:∀ k ∈ x.bw,w.heap.size<=k/\k <w'.heap.size) (aA:x.bw.Nodup):bn W M0 X w' (x::E) D:=by
 have I:=h.ff ag
 refine ⟨I.b6,h.hz,fun k ai=>?_,fun y hy=>?_,?_,fun y hy=>?_⟩
 · rcases List.mem_append.1 (by simpa [b4] using ai:k ∈ x.bw++b4 E) with e | e
   · exact ⟨(af k e).2,.inr (Nat.le_trans h.b6.size (af k e).1)⟩
   · exact I.lt k e
 · rcases List.mem_cons.1 hy with rfl | e
   · exact ad
   · exact I.ok y e
 · have:b4 (x::E)=x.bw++b4 E:=by simp [b4]
   rw [this,List.nodup_append]
   refine ⟨aA,h.br,fun a aK b ah e=>?_⟩
   subst e
   have:=(af a aK).1
   have:=(h.lt a ah).1
   omega
 · refine y.law (X++b4 E) _ w w' (ag.mono (by simp)) (fun k ai=>?_) (h.rd y hy)
   have cM:k ∈ X++(x.bw++b4 E):=by simpa [b4] using ai
   simp only [List.mem_append] at cM
   rcases cM with e | e | e
   · exact .inl (by simp [e])
   · exact .inr (af k e).1
   · exact .inl (by simp [e])
theorem bn.drop (h:bn W M0 X w E D) {kc:List a7} (ao:List.Sublist kc E):bn W M0 X w kc D:=by
 have af:List.Sublist (b4 kc) (b4 E):=by
  unfold b4
  clear h
  induction ao with
  | slnil=>simp
  | cons a _ ba=>simpa using ba.trans (List.sublist_append_right _ _)
  | cons_cons a _ ba=>simpa using List.Sublist.append_left ba a.bw
 exact ⟨h.b6,h.hz,fun k ai=>h.lt k (af.subset ai),fun x ad=>h.ok x (ao.subset ad),h.br.sublist af,
  fun y hy=>y.law (X++b4 E) _ w w (bp.refl _ _) (fun k ai=>.inl (by rcases List.mem_append.1 ai with e | e;exact List.mem_append.2 (.inl e);exact List.mem_append.2 (.inr (af.subset e)))) (h.rd y hy)⟩
theorem bn.ej (h:bn W M0 X w E D) {A B:List a7} {x nz:a7} (a5:E=A++x::B) (ag:bp x.bw w w') (ad:nz.ok w') (aA:nz.bw.Nodup)
 (af:∀ k ∈ nz.bw,k ∈ x.bw\/(w.heap.size<=k/\k <w'.heap.size)):bn W M0 X w' (A++nz::B) D:=by
 subst a5
 have e1:b4 (A++x::B)=b4 A++(x.bw++b4 B):=by simp [b4]
 have e2:b4 (A++nz::B)=b4 A++(nz.bw++b4 B):=by simp [b4]
 have qN:=h.br
 rw [e1,List.nodup_append,List.nodup_append] at qN
 obtain ⟨al9,⟨aCB,al_,Wl⟩,Mx⟩:=qN
 have ob:∀ k ∈ x.bw,k <w.heap.size/\(k ∈ M0\/W.heap.size<=k):=fun k ai=>h.lt k (by rw [e1];simp [ai])
 refine ⟨h.b6.trans ag (fun k ai=>(ob k ai).2),h.hz,fun k ai=>?_,fun y hy=>?_,?_,fun y hy=>?_⟩
 · rw [e2] at ai
   simp only [List.mem_append] at ai
   rcases ai with ai | ai | ai
   · have:=h.lt k (by rw [e1];simp [ai]);exact ⟨Nat.lt_of_lt_of_le this.1 ag.size,this.2⟩
   · rcases af k ai with e | e
     · exact ⟨Nat.lt_of_lt_of_le (ob k e).1 ag.size,(ob k e).2⟩
     · exact ⟨e.2,.inr (Nat.le_trans h.b6.size e.1)⟩
   · have:=h.lt k (by rw [e1];simp [ai]);exact ⟨Nat.lt_of_lt_of_le this.1 ag.size,this.2⟩
 · have Zz:∀ z,z ∈ A\/z ∈ B->z.ok w':=fun z aj=>by
    have Iy:z ∈ A++x::B:=by rcases aj with e | e <;> simp [e]
    refine z.law w w' (fun k ai=>ag.block k (h.lt k (List.mem_flatMap.2 ⟨z,Iy,ai⟩)).1 (fun Ih=>?_)) (h.ok z Iy)
    rcases aj with e | e
    · exact Mx k (List.mem_flatMap.2 ⟨z,e,ai⟩) k (by simp [Ih]) rfl
    · exact Wl k Ih k (List.mem_flatMap.2 ⟨z,e,ai⟩) rfl
   simp only [List.mem_append,List.mem_cons] at hy
   rcases hy with hy | rfl | hy
   · exact Zz y (.inl hy)
   · exact ad
   · exact Zz y (.inr hy)
 · rw [e2,List.nodup_append,List.nodup_append]
   have b2:∀ k ∈ nz.bw,∀ b,(b ∈ b4 A\/b ∈ b4 B)->k≠b:=fun k ai b ah e=>by
    subst e
    rcases af k ai with e | e
    · rcases ah with ah | ah
      · exact Mx k ah k (by simp [e]) rfl
      · exact Wl k e k ah rfl
    · have:=(h.lt k (by rw [e1];rcases ah with ah | ah <;> simp [ah])).1
      omega
   exact ⟨al9,⟨aA,al_,fun a aK b ah=>b2 a aK b (.inr ah)⟩,fun a aK b ah=>by
    rcases List.mem_append.1 ah with ah | ah
    · exact fun e=>b2 b ah a (.inl aK) e.symm
    · exact Mx a aK b (by simp [ah])⟩
 · refine y.law (X++b4 (A++x::B)) _ w w' (ag.mono (fun k ai=>by rw [e1];simp [ai])) (fun k ai=>?_) (h.rd y hy)
   rw [e2] at ai
   simp only [List.mem_append] at ai
   rcases ai with ai | ai | ai | ai
   · exact .inl (by simp [ai])
   · exact .inl (by rw [e1];simp [ai])
   · rcases af k ai with e | e
     · exact .inl (by rw [e1];simp [e])
     · exact .inr e.1
   · exact .inl (by rw [e1];simp [ai])
theorem bn.more (h:bn W M0 X w E D) {y:bt} (hy:y.ok (X++b4 E) w):bn W M0 X w E (y::D):=
 ⟨h.b6,h.hz,h.lt,h.ok,h.br,fun z aj=>by rcases List.mem_cons.1 aj with rfl | e;exact hy;exact h.rd z e⟩
theorem bn.less (h:bn W M0 X w E D) {fS:List bt} (ao:∀ y ∈ fS,y ∈ D):bn W M0 X w E fS:=⟨h.b6,h.hz,h.lt,h.ok,h.br,fun y hy=>h.rd y (ao y hy)⟩
theorem bn.e (h:bn W M0 X w E D) (i:Nat) {x:a7} (hi:E[i]? =some x):x.ok w:=h.ok x (List.mem_of_getElem? hi)
theorem bn.d (h:bn W M0 X w E D) (i:Nat) {y:bt} (hi:D[i]? =some y):y.ok (X++b4 E) w:=h.rd y (List.mem_of_getElem? hi)
theorem bt.less {y:bt} {M iM:List Nat} (h:y.ok M w) (hm:∀ k ∈ iM,k ∈ M):y.ok iM w:=y.law M iM w w (bp.refl _ _) (fun k ai=>.inl (hm k ai)) h
theorem bn.Kt (h:bn W M0 X w E D) (i:Nat) {x nz:a7} (hi:E[i]? =some x) (ag:bp x.bw w w') (ad:nz.ok w') (aA:nz.bw.Nodup)
 (af:∀ k ∈ nz.bw,k ∈ x.bw\/(w.heap.size<=k/\k <w'.heap.size)):bn W M0 X w' (E.set i nz) D:=by
 obtain ⟨ak,rfl⟩:=List.getElem?_eq_some_iff.1 hi
 have a5:E=E.take i++E[i]::E.drop (i+ 1):=by simp
 have:=h.ej a5 ag ad aA af
 rwa [List.set_eq_take_append_cons_drop,if_pos ak]
end
end av
namespace av
open Go Go.RowKit J
abbrev cg (l:List UInt8):Value:=.string ⟨⟨l⟩⟩
structure db (α:Type) where
 size:Nat
 rd:(Nat->Prop)->World->List Value->α->Prop
 len:∀ {F w cs d},rd F w cs d->cs.length=size
 one:∀ {F w cs d},rd F w cs d-> ∀ v ∈ cs,v.oneCell'=true
 law:∀ {F F' w w' cs d},(∀ k,F k->F' k/\w'.heap[k]? =w.heap[k]?)->rd F w cs d->rd F' w' cs d
def hF (M:List Nat) (w:World):Nat->Prop:=fun k=>k ∉ M/\k <w.heap.size
def bt.of {α:Type} (T:db α) (cs:List Value) (d:α):bt where
 ok M w:=T.rd (hF M w) w cs d
 law M iM w w' ag hm h:=T.law (fun k ai=>⟨⟨fun ad=>by rcases hm k ad with e | e;exact ai.1 e;exact absurd ai.2 (by omega),Nat.lt_of_lt_of_le ai.2 ag.size⟩,ag.block k ai.2 ai.1⟩) h
def eR (k:IntKind):db Int where
 size:=1
 rd _ _ cs d:=cs= [.int k d]
 len h:=by subst h;rfl
 one h v ag:=by subst h;simp at ag;subst ag;rfl
 law _ h:=h
def Ku:db UInt8 where
 size:=1
 rd _ _ cs d:=cs= [.int .u8 (d.toNat:Int)]
 len h:=by subst h;rfl
 one h v ag:=by subst h;simp at ag;subst ag;rfl
 law _ h:=h
def ax4:db Bool where
 size:=1
 rd _ _ cs d:=cs= [.bool d]
 len h:=by subst h;rfl
 one h v ag:=by subst h;simp at ag;subst ag;rfl
 law _ h:=h
def iA:db (List UInt8) where
 size:=1
 rd _ _ cs d:=cs= [cg d]
 len h:=by subst h;rfl
 one h v ag:=by subst h;simp at ag;subst ag;rfl
 law _ h:=h
section
variable {α:Type} (T:db α)
def dO (F:Nat->Prop) (w:World):List Value->List α->Prop
 | xs,[]=>xs= []
 | xs,d::r=>∃ cs ys,xs=cs++ys/\T.rd F w cs d/\dO F w ys r
theorem tw {F:Nat->Prop} {w:World}:∀ {l:List α} {xs:List Value},dO T F w xs l->xs.length=l.length*T.size
 | [],xs,h=>by simp only [dO] at h;subst h;simp
 | d::r,xs,h=>by
   obtain ⟨cs,ys,rfl,I,aa⟩:=h
   rw [List.length_append,T.len I,tw aa,List.length_cons,Nat.add_mul];omega
theorem BW {F:Nat->Prop} {w:World}:∀ {l:List α} {xs:List Value},dO T F w xs l-> ∀ v ∈ xs,v.oneCell'=true
 | [],xs,h=>by simp only [dO] at h;subst h;simp
 | d::r,xs,h=>by
   obtain ⟨cs,ys,rfl,I,aa⟩:=h
   intro v ag
   rcases List.mem_append.1 ag with e | e
   · exact T.one I v e
   · exact BW aa v e
theorem mq {F F':Nat->Prop} {w w':World} (az:∀ k,F k->F' k/\w'.heap[k]? =w.heap[k]?):∀ {l:List α} {xs:List Value},dO T F w xs l->dO T F' w' xs l
 | [],xs,h=>h
 | d::r,xs,h=>by
   obtain ⟨cs,ys,rfl,I,aa⟩:=h
   exact ⟨cs,ys,rfl,T.law az I,mq az aa⟩
theorem abv {F:Nat->Prop} {w:World} {d:α} {cs:List Value} (aL:T.rd F w cs d):∀ {l:List α} {xs:List Value},dO T F w xs l->dO T F w (xs++cs) (l++[d])
 | [],xs,h=>by simp only [dO] at h;subst h;exact ⟨cs,[],by simp,aL,rfl⟩
 | e::r,xs,h=>by
   obtain ⟨c,ys,rfl,I,aa⟩:=h
   exact ⟨c,ys++cs,by simp,I,abv aL aa⟩
theorem Fc {F:Nat->Prop} {w:World} {l':List α} {eL:List Value} (h':dO T F w eL l'):∀ {l:List α} {xs:List Value},dO T F w xs l->dO T F w (xs++eL) (l++l')
 | [],xs,h=>by simp only [dO] at h;subst h;simpa using h'
 | e::r,xs,h=>by
   obtain ⟨c,ys,rfl,I,aa⟩:=h
   exact ⟨c,ys++eL,by simp,I,Fc h' aa⟩
theorem Ff {F:Nat->Prop} {w:World}:∀ {l:List α} {xs:List Value} {i:Nat} {d:α},dO T F w xs l->l[i]? =some d ->
 ∃ cs,T.rd F w cs d/\ ∀ j u,cs[j]? =some u->xs[i*T.size+j]? =some u
 | [],_,i,d,_,hi=>by simp at hi
 | e::r,xs,0,d,h,hi=>by
   obtain ⟨cs,ys,rfl,I,_⟩:=h
   simp only [List.getElem?_cons_zero,Option.some.injEq] at hi
   subst hi
   refine ⟨cs,I,fun j u aC=>?_⟩
   have ak:j <cs.length:=by
    rcases Nat.lt_or_ge j cs.length with h | h
    · exact h
    · rw [List.getElem?_eq_none h] at aC;cases aC
   simpa [List.getElem?_append,ak] using aC
 | e::r,xs,i+ 1,d,h,hi=>by
   obtain ⟨cs,ys,rfl,I,aa⟩:=h
   obtain ⟨c,hc,aC⟩:=Ff (i:=i) aa (by simpa using hi)
   refine ⟨c,hc,fun j u DV=>?_⟩
   have hlen:=T.len I
   have e1:(i+ 1)*T.size+j=cs.length+(i*T.size+j):=by rw [Nat.add_mul];omega
   rw [e1,List.getElem?_append_right (by omega)]
   simpa using aC j u DV
def eT (w:World) (a:Addr) (xs:List Value):Prop:=∀ j u,xs[j]? =some u->w.cell? ⟨a.block,a.off+j,none⟩=some u
theorem eT.law {w w':World} {a:Addr} {xs:List Value} (h:eT w a xs) (ah:w'.heap[a.block]? =w.heap[a.block]?):eT w' a xs:=
 fun j u aC=>(World.cell?_of_block (a:=⟨a.block,a.off+j,none⟩) ah).trans (h j u aC)
def di (A:Option Addr):Nat:=(A.getD ⟨0,0,none⟩).block
def f_ (A:Option Addr):Nat:=(A.getD ⟨0,0,none⟩).off
def bZ:db (List α) where
 size:=1
 rd F w cs l:=∃ A c,cs= [.slice A l.length c]/\l.length<=c/\c<=maxLen/\(A=none->c= 0) /\
  (l≠ []->A=some ⟨di A,f_ A,none⟩/\F (di A)/\ ∃ xs,dO T F w xs l/\eT w ⟨di A,f_ A,none⟩ xs)
 len h:=by obtain ⟨A,c,rfl,_⟩:=h;rfl
 one h v ag:=by obtain ⟨A,c,rfl,_⟩:=h;simp at ag;subst ag;rfl
 law az h:=by
  obtain ⟨A,c,I,aq,a',c8,gH⟩:=h
  refine ⟨A,c,I,aq,a',c8,fun ak=>?_⟩
  obtain ⟨e1,e2,xs,e3,e4⟩:=gH ak
  exact ⟨e1,(az _ e2).1,xs,mq T az e3,e4.law (az _ e2).2⟩
theorem kJ {F:Nat->Prop} {w:World} {v:Value} {l:List α} (h:(bZ T).rd F w [v] l):∃ A c,v= .slice A l.length c:=by
 obtain ⟨A,c,I,_⟩:=h
 exact ⟨A,c,by simpa using I⟩
theorem zx {F:Nat->Prop} {w:World} {A:Option Addr} {n c:Nat} {l:List α} {i:Int} {d:α} (h:(bZ T).rd F w [.slice A n c] l) (hi:idx l i=some d) :
 A=some ⟨di A,f_ A,none⟩/\(0 <=i/\i <n)/\ ∃ cs,T.rd F w cs d/\eT w ⟨di A,f_ A+i.toNat*T.size,none⟩ cs:=by
 obtain ⟨aN,I,aa⟩:=jW hi
 obtain ⟨cN,bC,e1,e3,e4,e5,e6⟩:=h
 simp only [List.cons.injEq,Value.slice.injEq,and_true] at e1
 obtain ⟨rfl,rfl,rfl⟩:=e1
 obtain ⟨dH,bB,xs,fI,iP⟩:=e6 (fun Pm=>by rw [Pm] at I;simp at I)
 obtain ⟨cs,hc,qH⟩:=Ff T fI aa
 refine ⟨dH,⟨aN,by omega⟩,cs,hc,fun j u aC=>?_⟩
 have:=iP (i.toNat*T.size+j) u (qH j u aC)
 simpa [Nat.add_assoc] using this
end
def a7.dQ (g:Nat) (t:TypeId) (cs:List Value):a7 where
 bw:=[g]
 ok w:=w.heap[g]? =some (.cells cs.toArray t (0,0))
 law w w' h ai:=(h g (by simp)).trans ai
def a7.row {α:Type} (e:TypeId) (size:Nat) (v:Value) (l:List α) (xs:List Value):a7 where
 bw:=v.ownBlock.toList
 ok w:=w.ownsRow 0 e size v l.length xs
 law w w' h ai:=by
  refine ⟨ai.1,?_⟩
  rcases ai.2 with aA | ⟨g,cap,cur,rfl,ah,DO,rest⟩
  · exact .inl aA
  · exact .inr ⟨g,cap,cur,rfl,ah,(h g (by simp [Value.ownBlock])).trans DO,rest⟩
def bt.rows {α:Type} (T:db α) (xs:List Value) (l:List α):bt where
 ok M w:=dO T (hF M w) w xs l
 law M iM w w' ag hm h:=mq T (fun k ai=>⟨⟨fun ad=>by rcases hm k ad with e | e;exact ai.1 e;exact absurd ai.2 (by omega),Nat.lt_of_lt_of_le ai.2 ag.size⟩,ag.block k ai.2 ai.1⟩) h
theorem Fm {α:Type} {w:World} {e:TypeId} {size:Nat} {v:Value} {l:List α} {xs:List Value} (h:(a7.row e size v l xs).ok w):∃ A c,v= .slice A l.length c/\l.length<=c/\c<=maxLen/\(A=none->c= 0)/\(A≠none->A=some ⟨di A,0,none⟩):=by
 have h':w.ownsRow 0 e size v l.length xs:=h
 rcases h'.2 with ⟨rfl,aN⟩ | ⟨g,cap,cur,rfl,_,_,I,aa,_⟩
 · exact ⟨none,0,by rw [aN],by omega,Nat.zero_le _,fun _=>rfl,fun h=>absurd rfl h⟩
 · exact ⟨some ⟨g,0,none⟩,cap,rfl,I,aa,(fun h=>by cases h),fun _=>rfl⟩
theorem aw3 {α:Type} {T:db α} {M:List Nat} {w:World} {e:TypeId} {A:Option Addr} {n c:Nat} {l:List α} {xs:List Value} (h:(a7.row e T.size (.slice A n c) l xs).ok w) (ay:(bt.rows T xs l).ok M w)
 (eC:∀ k ∈ (Value.slice A n c).ownBlock.toList,k ∉ M):(bt.of (bZ T) [.slice A n c] l).ok M w:=by
 have h':w.ownsRow 0 e T.size (.slice A n c) l.length xs:=h
 have kt:dO T (hF M w) w xs l:=ay
 show (bZ T).rd (hF M w) w _ l
 rcases h'.2 with ⟨I,aN⟩ | ⟨g,cap,cur,I,_,aw,hle,hm,ao,ad⟩
 · have ak:l= []:=List.eq_nil_of_length_eq_zero aN
   simp only [Value.slice.injEq] at I
   obtain ⟨rfl,rfl,rfl⟩:=I
   subst ak
   exact ⟨none,0,rfl,by simp,Nat.zero_le _,fun _=>rfl,fun h=>absurd rfl h⟩
 · simp only [Value.slice.injEq] at I
   obtain ⟨rfl,rfl,rfl⟩:=I
   refine ⟨_,_,rfl,hle,hm,(fun h=>by cases h),fun _=>⟨rfl,⟨eC g (by simp [Value.ownBlock]),(Array.getElem?_eq_some_iff.1 aw).1⟩,xs,kt,fun j u aC=>?_⟩⟩
   have ij:=h'.cells (g:=g) rfl j u aC
   simpa [Addr.add,di,f_] using (by
    have e:(⟨g,0,none⟩:Addr).add j=⟨g,0 +j,none⟩:=by unfold Addr.add;split <;> simp_all
    rw [e] at ij;exact ij:w.cell? ⟨g,0 +j,none⟩=some u)
theorem uC {w:World} {g:Nat} {t:TypeId} {cs:List Value} (h:(a7.dQ g t cs).ok w) {j:Nat} {v:Value} (aC:cs[j]? =some v):w.cell? ⟨g,j,none⟩=some v:=by
 have h':w.heap[g]? =some (.cells cs.toArray t (0,0)):=h
 simp [World.cell?,h',aC]
theorem C4 {w:World} {g:Nat} {t:TypeId} {cs:List Value} (h:(a7.dQ g t cs).ok w):g <w.heap.size:=by
 have h':w.heap[g]? =some (.cells cs.toArray t (0,0)):=h
 exact (Array.getElem?_eq_some_iff.1 h').1
theorem ak0 (w:World) (t:TypeId) (cs:List Value):(a7.dQ w.heap.size t cs).ok (w.alloc (.cells cs.toArray t)):=heap_alloc_new w _
def bt.ii (g:Nat) (cs:List Value):bt where
 ok M w:=g ∉ M/\g <w.heap.size/\eT w ⟨g,0,none⟩ cs
 law M iM w w' ag hm h:=⟨fun ad=>by rcases hm g ad with e | e;exact h.1 e;exact absurd h.2.1 (by omega),Nat.lt_of_lt_of_le h.2.1 ag.size,h.2.2.law (ag.block g h.2.1 h.1)⟩
theorem lp {α:Type} {T:db α} {F:Nat->Prop} {w:World} {cs:List Value} {l:List α} (h:(bZ T).rd F w cs l):∃ A c,cs= [.slice A l.length c]:=by
 obtain ⟨A,c,I,_⟩:=h
 exact ⟨A,c,I⟩
theorem aw2 {α:Type} {T:db α} {M:List Nat} {w:World} {e:TypeId} {A:Option Addr} {n c:Nat} {l:List α} {xs:List Value} {i:Int} {d:α} (h:(a7.row e T.size (.slice A n c) l xs).ok w) (ay:(bt.rows T xs l).ok M w) (hi:idx l i=some d) :
 A=some ⟨di A,f_ A,none⟩/\(0 <=i/\i <n)/\ ∃ cs,T.rd (hF M w) w cs d/\eT w ⟨di A,f_ A+i.toNat*T.size,none⟩ cs:=by
 obtain ⟨aN,I,aa⟩:=jW hi
 have h':w.ownsRow 0 e T.size (.slice A n c) l.length xs:=h
 have kt:dO T (hF M w) w xs l:=ay
 rcases h'.2 with ⟨e1,cW⟩ | ⟨g,cap,cur,e1,_,aw,_⟩
 · omega
 · simp only [Value.slice.injEq] at e1
   obtain ⟨rfl,rfl,rfl⟩:=e1
   obtain ⟨cs,hc,qH⟩:=Ff T kt aa
   refine ⟨rfl,⟨aN,by omega⟩,cs,hc,fun j u aC=>?_⟩
   have ij:=h'.cells (g:=g) rfl _ u (qH j u aC)
   have e2:(⟨g,0,none⟩:Addr).add (i.toNat*T.size+j)=⟨g,0 +(i.toNat*T.size+j),none⟩:=by unfold Addr.add;split <;> simp_all
   rw [e2] at ij
   show w.cell? ⟨g,0 +i.toNat*T.size+j,none⟩=some u
   rw [Nat.add_assoc];exact ij
end av
namespace av
open Go Go.RowKit J
theorem ZQ (p q:List UInt8):(p == q)=decide (p=q):=by
 rw [Bool.eq_iff_iff];simp
section
variable {P:Program} {o:Oper} {a:Act} {w:World}
abbrev bd (P:Program) (o:Oper) (a:Act) (w:World) (v:Value) (w':World):Prop:=(execOp a.eval o).run P w= .ok (.value v) w'
abbrev o5 (P:Program) (o:Oper) (a:Act) (w:World) (w':World):Prop:=(execOp a.eval o).run P w= .ok .skip w'
theorem agK {x:Operand} {v:Value} (ap:o.op= .move x) (ad:a.eval x=v):bd P o a w v w:=by
 simp only [bd,execOp,ap,ad];rfl
theorem agD {x:Operand} {v:Value} (ap:o.op= .assign x) (ad:a.eval x=v):bd P o a w v w:=by
 simp only [bd,execOp,ap,ad];rfl
theorem LH {c x y:Operand} {v:Value} (ap:o.op= .pick c x y) (hc:a.eval c= .bool true) (ad:a.eval x=v):bd P o a w v w:=by
 simp only [bd,execOp,ap,hc,ad];rfl
theorem LG {c x y:Operand} {v:Value} (ap:o.op= .pick c x y) (hc:a.eval c= .bool false) (hy:a.eval y=v):bd P o a w v w:=by
 simp only [bd,execOp,ap,hc,hy];rfl
section
variable {x y:Operand} {t t':TypeId} {k:IntKind} {m n:Int}
theorem aBz (ap:o.op= .binOp .add t x y t') (ad:a.eval x= .int k m) (hy:a.eval y= .int k n):bd P o a w (.int k (k.wrap (m+n))) w:=by
 simp only [bd,execOp,ap,ad,hy]
 simp [go_sem]
theorem aB6 (ap:o.op= .binOp .sub t x y t') (ad:a.eval x= .int k m) (hy:a.eval y= .int k n):bd P o a w (.int k (k.wrap (m - n))) w:=by
 simp only [bd,execOp,ap,ad,hy]
 simp [go_sem]
theorem aBV (ap:o.op= .binOp .mul t x y t') (ad:a.eval x= .int k m) (hy:a.eval y= .int k n):bd P o a w (.int k (k.wrap (m*n))) w:=by
 simp only [bd,execOp,ap,ad,hy]
 simp [go_sem]
theorem aB4 (ap:o.op= .binOp .quo t x y t') (ad:a.eval x= .int k m) (hy:a.eval y= .int k n) (aN:n≠ 0):bd P o a w (.int k (k.wrap (m.tdiv n))) w:=by
 simp only [bd,execOp,ap,ad,hy]
 simp [go_sem,aN]
theorem aBT (ap:o.op= .binOp .lss t x y t') (ad:a.eval x= .int k m) (hy:a.eval y= .int k n):bd P o a w (.bool (decide (m <n))) w:=by
 simp only [bd,execOp,ap,ad,hy]
 simp [go_sem]
theorem aBS (ap:o.op= .binOp .leq t x y t') (ad:a.eval x= .int k m) (hy:a.eval y= .int k n):bd P o a w (.bool (decide (m<=n))) w:=by
 simp only [bd,execOp,ap,ad,hy]
 simp [go_sem]
theorem aBO (ap:o.op= .binOp .gtr t x y t') (ad:a.eval x= .int k m) (hy:a.eval y= .int k n):bd P o a w (.bool (decide (n <m))) w:=by
 simp only [bd,execOp,ap,ad,hy]
 simp [go_sem]
theorem aBN (ap:o.op= .binOp .geq t x y t') (ad:a.eval x= .int k m) (hy:a.eval y= .int k n):bd P o a w (.bool (decide (n<=m))) w:=by
 simp only [bd,execOp,ap,ad,hy]
 simp [go_sem]
theorem aBL (aJ:P.underlying t=some (.int k)) (ap:o.op= .binOp .eql t x y t') (ad:a.eval x= .int k m) (hy:a.eval y= .int k n):bd P o a w (.bool (decide (m=n))) w:=by
 have:=run_underlying (P:=P) aJ
 simp only [bd,execOp,ap,ad,hy]
 simp [go_sem,this]
 rfl
theorem aBY (aJ:P.underlying t=some (.int k)) (ap:o.op= .binOp .neq t x y t') (ad:a.eval x= .int k m) (hy:a.eval y= .int k n):bd P o a w (.bool (!decide (m=n))) w:=by
 have:=run_underlying (P:=P) aJ
 simp only [bd,execOp,ap,ad,hy]
 simp [go_sem,this]
 rfl
end
section
variable {x y:Operand} {t t':TypeId} {p q:Bool}
theorem axk (aJ:P.underlying t=some .bool) (p q:Bool) (w:World):(binOp .eql t (.bool p) (.bool q)).run P w= .ok (.bool (p == q)) w:=by
 have h:∀ d:Nat,(Op.equalIn (d+ 1) t (.bool p) (.bool q)).run P w= .ok (p == q) w:=fun d=>by
  simp [Op.equalIn,run_underlying aJ]
 simp only [binOp]
 simp [Op.equal,Op.maxDepth,h 9999]
theorem axl (aJ:P.underlying t=some .bool) (p q:Bool) (w:World):(binOp .neq t (.bool p) (.bool q)).run P w= .ok (.bool (!(p == q))) w:=by
 have h:∀ d:Nat,(Op.equalIn (d+ 1) t (.bool p) (.bool q)).run P w= .ok (p == q) w:=fun d=>by
  simp [Op.equalIn,run_underlying aJ]
 simp only [binOp]
 simp [Op.equal,Op.maxDepth,h 9999]
theorem aBK (aJ:P.underlying t=some .bool) (ap:o.op= .binOp .eql t x y t') (ad:a.eval x= .bool p) (hy:a.eval y= .bool q):bd P o a w (.bool (p == q)) w:=by
 simp only [bd,execOp,ap,ad,hy]
 simp [go_sem,axk aJ]
theorem aBX (aJ:P.underlying t=some .bool) (ap:o.op= .binOp .neq t x y t') (ad:a.eval x= .bool p) (hy:a.eval y= .bool q):bd P o a w (.bool (!(p == q))) w:=by
 simp only [bd,execOp,ap,ad,hy]
 simp [go_sem,axl aJ]
theorem agM (ap:o.op= .unOp .not t x) (ad:a.eval x= .bool p):bd P o a w (.bool (!p)) w:=by
 simp only [bd,execOp,ap,ad]
 simp [go_sem]
end
section
variable {x y:Operand} {t t':TypeId} {p q:List UInt8}
theorem aBM (aJ:P.underlying t=some .string) (ap:o.op= .binOp .eql t x y t') (ad:a.eval x=cg p) (hy:a.eval y=cg q):bd P o a w (.bool (decide (p=q))) w:=by
 have:=run_underlying (P:=P) aJ
 simp only [bd,execOp,ap,ad,hy]
 simp [go_sem,this]
 exact ZQ p q
theorem aBZ (aJ:P.underlying t=some .string) (ap:o.op= .binOp .neq t x y t') (ad:a.eval x=cg p) (hy:a.eval y=cg q):bd P o a w (.bool (!decide (p=q))) w:=by
 have:=run_underlying (P:=P) aJ
 simp only [bd,execOp,ap,ad,hy]
 simp [go_sem,this]
 exact ZQ p q
theorem agI {lM:TypeId} (aJ:P.underlying lM=some .string) (ap:o.op= .call { callee:=.builtin .len,args:=#[x],argTypes:=#[lM] }) (ad:a.eval x=cg p):bd P o a w (.int .i64 p.length) w:=by
 simp only [bd,execOp,ap,resolve,invoke,List.map_toArray,List.map_cons,List.map_nil,ad]
 simp [go_sem,Builtin.len_,run_underlying aJ,goInt]
theorem agH {lM:TypeId} {A:Option Addr} {n c:Nat} {e:TypeId} (aJ:P.underlying lM=some (.slice e)) (ap:o.op= .call { callee:=.builtin .len,args:=#[x],argTypes:=#[lM] }) (ad:a.eval x= .slice A n c):bd P o a w (.int .i64 n) w:=by
 simp only [bd,execOp,ap,resolve,invoke,List.map_toArray,List.map_cons,List.map_nil,ad]
 simp [go_sem,Builtin.len_,run_underlying aJ,goInt]
theorem aBQ {i:Nat} {b:UInt8} (aJ:P.underlying t=some .string) (ap:o.op= .index t x y) (ad:a.eval x=cg p) (hy:a.eval y= .int .i64 i) (ah:p[i]? =some b):bd P o a w (.int .u8 b.toNat) w:=by
 simp only [bd,execOp,ap,ad,hy]
 obtain ⟨I,aa⟩:=List.getElem?_eq_some_iff.1 ah
 have e:(⟨⟨p⟩⟩:ByteArray)[i]? =some b:=by
  show (if h:i <_ then some _ else none)=_
  rw [dif_pos (show i <(⟨⟨p⟩⟩:ByteArray).size from I)]
  exact congrArg some aa
 simp [go_sem,Instr.index,run_underlying aJ,e]
theorem UE {k k':IntKind} {n:Int} (aJ:P.underlying t=some (.int k)) (sG:P.underlying t'=some (.int k')) (ap:o.op= .convert t t' x) (ad:a.eval x= .int k n):bd P o a w (.int k' (k'.wrap n)) w:=by
 simp only [bd,execOp,ap,ad]
 simp [go_sem,convert,run_underlying aJ,run_underlying sG]
end
end
theorem tH (n:Int):IntKind.i64.wrap n=aE n:=by rw [IntKind.wrap_i64];rfl
theorem acD (n:Int):IntKind.u8.wrap n=((kl n).toNat:Int):=by rw [akX,IntKind.wrap_u8]
section
variable {P:Program} {o:Oper} {a:Act} {w:World} {x y:Operand} {t t':TypeId} {m n:Int}
theorem aBA (ap:o.op= .binOp .add t x y t') (ad:a.eval x= .int .i64 m) (hy:a.eval y= .int .i64 n):bd P o a w (.int .i64 (aE (m+n))) w:=by rw [<-tH];exact aBz ap ad hy
theorem aB7 (ap:o.op= .binOp .sub t x y t') (ad:a.eval x= .int .i64 m) (hy:a.eval y= .int .i64 n):bd P o a w (.int .i64 (aE (m - n))) w:=by rw [<-tH];exact aB6 ap ad hy
theorem aBW (ap:o.op= .binOp .mul t x y t') (ad:a.eval x= .int .i64 m) (hy:a.eval y= .int .i64 n):bd P o a w (.int .i64 (aE (m*n))) w:=by rw [<-tH];exact aBV ap ad hy
theorem agO (ap:o.op= .binOp .rem t x y t') (ad:a.eval x= .int .i64 m) (hy:a.eval y= .int .i64 n) (aN:(!decide (n= 0))=true):bd P o a w (.int .i64 (m.tmod n)) w:=by
 have aN:n≠ 0 :=by simpa using aN
 simp only [bd,execOp,ap,ad,hy]
 simp [go_sem,aN]
theorem agN (ap:o.op= .binOp .quo t x y t') (ad:a.eval x= .int .i64 m) (hy:a.eval y= .int .i64 n) (aN:(!decide (n= 0))=true):bd P o a w (.int .i64 (aE (m.tdiv n))) w:=by rw [<-tH];exact aB4 ap ad hy (by simpa using aN)
theorem aBF (aJ:P.underlying t=some (.int .i64)) (sG:P.underlying t'=some (.int .i64)) (ap:o.op= .convert t t' x) (ad:a.eval x= .int .i64 m):bd P o a w (.int .i64 (aE m)) w:=by
 have h:=UE (P:=P) (w:=w) aJ sG ap ad
 rwa [tH] at h
theorem aBG (aJ:P.underlying t=some (.int .i64)) (sG:P.underlying t'=some (.int .u8)) (ap:o.op= .convert t t' x) (ad:a.eval x= .int .i64 m):bd P o a w (.int .u8 ((kl m).toNat:Int)) w:=by
 have h:=UE (P:=P) (w:=w) aJ sG ap ad
 rwa [acD] at h
theorem WQ (a:Act) (g:Nat):a.eval (.global g)= .pointer (some ⟨g,0,none⟩):=rfl
theorem agE {vs:List Value} {i:Nat} {v:Value} (ap:o.op= .extract x i) (ad:a.eval x= .tuple vs.toArray) (ag:vs[i]? =some v):bd P o a w v w:=by
 simp only [bd,execOp,ap,ad]
 simp [go_sem,Instr.extract,ag]
theorem agL {p:Addr} (ap:o.op= .nilCheck x) (ad:a.eval x= .pointer (some p)):bd P o a w (.pointer (some p)) w:=by
 simp only [bd,execOp,ap,ad]
 rfl
end
end av
namespace av
open Go Go.RowKit J
theorem jN (b o n:Nat):(⟨b,o,none⟩:Addr).add n=⟨b,o+n,none⟩:=by
 unfold Addr.add;split <;> simp_all
section
variable {P:Program} {o:Oper} {a:Act} {w:World} {x y:Operand} {t e s:TypeId}
theorem aBR {i:Int} {b:UInt8} {p:List UInt8} (aJ:P.underlying t=some .string) (ap:o.op= .index t x y) (ad:a.eval x=cg p) (hy:a.eval y= .int .i64 i) (ah:idx p i=some b):bd P o a w (.int .u8 b.toNat) w:=by
 obtain ⟨aN,I,aa⟩:=jW ah
 obtain ⟨n,rfl⟩:=Int.eq_ofNat_of_zero_le aN
 exact aBQ aJ ap ad hy (by simpa using aa)
theorem nF {A:Option Addr} {n c sz:Nat} {i:Int} (aJ:P.underlying t=some (.slice e)) (ao:∀ w,(Go.sizeOf e).run P w= .ok sz w)
 (ap:o.op= .indexAddr t x y) (ad:a.eval x= .slice A n c) (hy:a.eval y= .int .i64 i) (dB:A=some ⟨di A,f_ A,none⟩) (hi:0 <=i/\i <n) :
 bd P o a w (.pointer (some ⟨di A,f_ A+i.toNat*sz,none⟩)) w:=by
 obtain ⟨aN,I⟩:=hi
 obtain ⟨k,rfl⟩:=Int.eq_ofNat_of_zero_le aN
 have bs:k <n:=by omega
 rw [dB] at ad
 simp only [bd,execOp,ap,ad,hy]
 simp [go_sem,Instr.indexAt,run_underlying aJ,bs,ao,jN]
theorem agF {cq:Array Field} {f:Field} {j b p sz:Nat} (aJ:P.underlying s=some (.struct cq)) (af:cq[j]? =some f) (ao:∀ w,(Go.sizeOf f.type).run P w= .ok sz w) (aN:Nat.beq sz 0 =false)
 (ap:o.op= .fieldAddr s x j) (ad:a.eval x= .pointer (some ⟨b,p,none⟩)):bd P o a w (.pointer (some ⟨b,p+f.offset,none⟩)) w:=by
 have aoh:sz≠ 0 :=by intro e;subst e;simp at aN
 simp only [bd,execOp,ap,ad]
 simp [go_sem,Instr.fieldAt,run_underlying aJ,af,fieldPlace,ao,aoh,jN]
theorem UF {b p:Nat} {v:Value} (aw:∀ w,(isAgg t).run P w= .ok false w) (ap:o.op= .load t x) (ad:a.eval x= .pointer (some ⟨b,p,none⟩)) (hc:w.cell? ⟨b,p,none⟩=some v):bd P o a w v w:=by
 simp only [bd,execOp,ap,ad]
 simp [go_sem,Instr.loadAt,loadVar,aw,hc]
theorem agJ {b p sz:Nat} {cs:List Value} (aw:∀ w,(isAgg t).run P w= .ok true w) (ao:∀ w,(Go.sizeOf t).run P w= .ok sz w) (ak:cs.length=sz) (ap:o.op= .load t x)
 (ad:a.eval x= .pointer (some ⟨b,p,none⟩)) (hc:eT w ⟨b,p,none⟩ cs):bd P o a w (.agg cs.toArray) w:=by
 have h:=run_loadCells_list (P:=P) w ⟨b,p,none⟩ cs (fun j u aC=>by rw [jN];exact hc j u aC)
 rw [ak] at h
 unfold loadCells at h
 simp only [bd,execOp,ap,ad]
 simp [go_sem,Instr.loadAt,loadVar,aw,ao,h]
theorem LB {v:Value} {cs:List Value} (ag:v.cells=cs.toArray) (ap:o.op= .box t x) (ad:a.eval x=v):bd P o a w (.pointer (some ⟨w.heap.size,0,none⟩)) (w.alloc (.cells cs.toArray t)):=by
 have fc:=ag
 unfold Value.cells at fc
 simp only [bd,execOp,ap,ad]
 simp [go_sem,Instr.box,newVar,newRow,fc]
theorem w4 {z:Value} {cs:List Value} (aj:∀ w,(zeroValue t).run P w= .ok z w) (ag:z.cells=cs.toArray) (ap:o.op= .alloc t):bd P o a w (.pointer (some ⟨w.heap.size,0,none⟩)) (w.alloc (.cells cs.toArray t)):=by
 have fc:=ag
 unfold Value.cells at fc
 simp only [bd,execOp,ap]
 simp [go_sem,Instr.alloc,newVar,newRow,aj,fc]
end
def lay:List Value->Nat->List Value->List Value
 | l,0,cs=>cs++l.drop cs.length
 | [],_+ 1,_=>[]
 | u::l,n+ 1,cs=>u::lay l n cs
theorem Qk:∀ (l:List Value) (n:Nat) (cs:List Value),n+cs.length<=l.length->lay l n cs=l.take n++cs++l.drop (n+cs.length)
 | l,0,cs,_=>by simp [lay]
 | [],n+ 1,cs,h=>by simp at h
 | u::l,n+ 1,cs,h=>by
   have:=Qk l n cs (by simp at h;omega)
   simp only [lay,this,List.take_succ_cons,List.cons_append]
   have e:n+ 1 +cs.length=(n+cs.length)+ 1 :=by omega
   rw [e,List.drop_succ_cons]
section
variable {P:Program} {o:Oper} {a:Act} {w:World} {x y:Operand} {t e s:TypeId}
theorem UG {g p sz:Nat} {tb:TypeId} {cs vs:List Value} {v:Value} (ag:v.cells=vs.toArray) (ao:∀ w,(Go.sizeOf t).run P w= .ok sz w) (ak:Nat.beq vs.length sz=true) (I:vs.all (·.oneCell')=true)
 (hle:Nat.ble (p+vs.length) cs.length=true) (ah:(a7.dQ g tb cs).ok w) (ap:o.op= .store t x y) (ad:a.eval x= .pointer (some ⟨g,p,none⟩)) (hy:a.eval y=v) :
 ∃ w',o5 P o a w w'/\bp [g] w w'/\(a7.dQ g tb (lay cs p vs)).ok w':=by
 have fK:w.heap[g]? =some (.cells cs.toArray tb (0,0)):=ah
 have hlen:vs.length=sz:=Nat.eq_of_beq_eq_true ak
 have Bb:p+vs.length<=cs.length:=Nat.le_of_ble_eq_true hle
 have h:=run_storeCells_at P g p tb vs 0 cs.toArray w fK (by simpa using Bb) (fun u hu=>List.all_eq_true.1 I u hu)
 simp only [Nat.add_zero] at h
 refine ⟨w.setRow g (lay cs p vs).toArray,?_,?_,?_⟩
 · simp only [o5,execOp,ap,ad,hy]
   rw [Qk _ _ _ Bb]
   simp only [List.append_assoc,hlen] at h
   have fc:=ag
   unfold Value.cells at fc
   simp [go_sem,Instr.storeAt,storeVar,ao,fc,hlen,h]
 · refine ⟨rfl,rfl,rfl,by simp [World.setRow],fun k _ aA=>?_⟩
   simp only [World.setRow,Array.getElem?_modify]
   rw [if_neg (by simpa [eq_comm] using aA)]
 · show (w.setRow g _).heap[g]? =_
   simp [World.setRow,Array.getElem?_modify,fK]
end
section
variable {P:Program} {o:Oper} {a:Act} {w:World} {x y:Operand} {t e:TypeId}
def HE (a:Act):List (Nat × Operand)->List (Nat × Value)->Prop
 | [],[]=>True
 | (i,x)::xs,(j,v)::vs=>(a.eval x=v/\i=j)/\HE a xs vs
 | _,_=>False
theorem Nc:∀ {xs:List (Nat × Operand)} {vs:List (Nat × Value)},HE a xs vs->xs.map (fun p=>(p.1,a.eval p.2))=vs
 | [],[],_=>rfl
 | (i,x)::xs,(j,v)::vs,h=>by
   obtain ⟨⟨I,rfl⟩,aa⟩:=h
   rw [List.map_cons,Nc aa,I]
def placesOf (P:Program) (t:TypeId):Sem (Array (Nat × Nat)):=(match P.underlying t with | some (.struct cq)=>cq | _=>#[]).mapM fun (f:Field)=>do pure (f.offset,<-Go.sizeOf f.type)
theorem aBD {z:Value} {cq:Array Field} {pl:Array (Nat × Nat)} {xs:List (Nat × Operand)} {vs:List (Nat × Value)} {cs:List Value} (aj:∀ w,(zeroValue t).run P w= .ok z w) (hu:P.underlying t=some (.struct cq))
 (aD:∀ w,(placesOf P t).run P w= .ok pl w) (ap:o.op= .build t xs.toArray) (ad:HE a xs vs) (OX:Instr.fill (fun i=>pl[i]?) z.cells vs=some cs.toArray):bd P o a w (.agg cs.toArray) w:=by
 have u':=aD w
 simp only [placesOf,hu] at u'
 have I:=Nc ad
 simp only [bd,execOp,ap,Instr.build,Sem.run_bind,aj,Result.andThen_ok,run_underlying hu,u',List.map_toArray]
 have e:(xs.map fun (i,x)=>(i,a.eval x))=vs:=I
 simp only [e,OX]
 rfl
theorem zZ {z:Value} {sz n:Nat} {xs:List (Nat × Operand)} {vs:List (Nat × Value)} {cs:List Value} (hu:P.underlying t=some (.slice e)) (ao:∀ w,(Go.sizeOf e).run P w= .ok sz w) (aj:∀ w,(zeroValue e).run P w= .ok z w)
 (hle:Nat.ble (n*sz) 16777216 =true) (b2:Nat.beq (n*sz) 0 =false) (ap:o.op= .buildSlice t n xs.toArray) (ad:HE a xs vs)
 (OX:Instr.fill (fun i=>some (i*sz,sz)) ((Array.range (n*sz)).map (z.cells[· % z.cells.size]!)) vs=some cs.toArray) :
 bd P o a w (.slice (some ⟨w.heap.size,0,none⟩) n n) (w.alloc (.cells cs.toArray e)):=by
 have I:=Nc ad
 have e1:(xs.map fun (i,x)=>(i,a.eval x))=vs:=I
 have aa: ¬ (n*sz > 2 ^ 24):=by have:=Nat.le_of_ble_eq_true hle;omega
 have aq:n*sz≠ 0 :=by intro aN;rw [aN] at b2;simp at b2
 simp only [bd,execOp,ap,Instr.buildSlice,Sem.run_bind,Sem.run_pure,ao,aj,Result.andThen_ok,run_underlying hu,List.map_toArray,e1,if_neg aa,if_neg aq,OX]
 rfl
theorem aB1 {t':TypeId} {m n:Int} (ap:o.op= .binOp .or t x y t') (ad:a.eval x= .int .i64 m) (hy:a.eval y= .int .i64 n):bd P o a w (.int .i64 (Q9 m n)) w:=by
 unfold Q9
 rw [<-tH]
 simp only [bd,execOp,ap,ad,hy]
 rfl
theorem aBB {t':TypeId} {m n:Int} (ap:o.op= .binOp .and t x y t') (ad:a.eval x= .int .i64 m) (hy:a.eval y= .int .i64 n):bd P o a w (.int .i64 (Mb m n)) w:=by
 unfold Mb
 rw [<-tH]
 simp only [bd,execOp,ap,ad,hy]
 rfl
end
end av
namespace av
open Go Go.RowKit J
section
variable {P:Program} {ops:Array Oper} {Q:Exit->Act->World->Prop} {a:Act} {w w':World} {rest:List Oper} {o:Oper} {n:cI} {d:Nat} {l:List (Nat × Value)} {v:Value}
theorem KA (aw:o.guard=none):Region.wanted o (yielded ops a.tmps)=true:=by simp [Region.wanted,aw]
theorem nr (hw:Region.wanted o (yielded ops a.tmps)=true) (hy:bd P o a w v w') (af:Fr n l a) (aL:o.dst=some d) (aA:Nat.blt d n=true) (k:∀ a2,Fr n ((d,v)::l) a2->wpList P ops Q rest a2 w'):wpList P ops Q (o::rest) a w:=by
 refine wpList_step fun K cP=>?_
 rw [if_pos hw]
 unfold Oper.wp
 rw [show (execOp a.eval o).run P w=_ from hy]
 show K (a.put o.dst v) w'
 rw [aL]
 exact cP _ _ (k _ (af.put aA))
theorem iz (hw:Region.wanted o (yielded ops a.tmps)=true) (hy:o5 P o a w w') (aL:o.dst=none) (k:wpList P ops Q rest a w'):wpList P ops Q (o::rest) a w:=by
 refine wpList_step fun K cP=>?_
 rw [if_pos hw]
 unfold Oper.wp
 rw [show (execOp a.eval o).run P w=_ from hy]
 show K (a.put o.dst undef) w'
 rw [aL]
 exact cP _ _ k
theorem ayi {j br:Nat} {b:Bool} (af:Fr n l a) (aw:o.guard=some (j,b)) (aC:(ops[j]?).bind (·.dst)=some br) (ak:eo l br=some (.bool b)) (aA:Nat.blt br n=true):Region.wanted o (yielded ops a.tmps)=true:=by
 have bs:br <n:=Nat.le_of_ble_eq_true aA
 have h:=af.get br _ ak
 have ao:=af.size
 have aa:a.tmps[br]? =some (.bool b):=by
  rw [Array.getElem?_eq_getElem (by omega)]
  simpa [Array.getD_eq_getD_getElem?,ao,bs] using h
 simp [Region.wanted,aw,yielded,aC,aa]
theorem ayh {j br:Nat} {b jk:Bool} (af:Fr n l a) (aw:o.guard=some (j,b)) (aC:(ops[j]?).bind (·.dst)=some br) (ak:eo l br=some (.bool jk)) (b2:(jk == b)=false) (aA:Nat.blt br n=true):Region.wanted o (yielded ops a.tmps)=false:=by
 have bs:br <n:=Nat.le_of_ble_eq_true aA
 have h:=af.get br _ ak
 have ao:=af.size
 have aa:a.tmps[br]? =some (.bool jk):=by
  rw [Array.getElem?_eq_getElem (by omega)]
  simpa [Array.getD_eq_getD_getElem?,ao,bs] using h
 simpa [Region.wanted,aw,yielded,aC,aa] using b2
theorem ayj {j br:Nat} {b:Bool} (af:Fr n l a) (aw:o.guard=some (j,b)) (aC:(ops[j]?).bind (·.dst)=some br) (ak:eo l br=some undef) (aA:Nat.blt br n=true):Region.wanted o (yielded ops a.tmps)=false:=by
 have bs:br <n:=Nat.le_of_ble_eq_true aA
 have h:=af.get br _ ak
 have ao:=af.size
 have aa:a.tmps[br]? =some undef:=by
  rw [Array.getElem?_eq_getElem (by omega)]
  simpa [Array.getD_eq_getD_getElem?,ao,bs] using h
 simp [Region.wanted,aw,yielded,aC,aa,undef]
theorem gv (hw:Region.wanted o (yielded ops a.tmps)=false) (af:Fr n l a) (aL:o.dst=some d) (aA:Nat.blt d n=true) (k:∀ a2,Fr n ((d,undef)::l) a2->wpList P ops Q rest a2 w):wpList P ops Q (o::rest) a w:=by
 refine wpList_step fun K cP=>?_
 rw [if_neg (by simp [hw]),aL]
 exact cP _ _ (k _ (af.put aA))
def AR (a:Act):List Operand->List Value->Prop
 | [],[]=>True
 | x::xs,v::vs=>a.eval x=v/\AR a xs vs
 | _,_=>False
theorem Nd:∀ {xs:List Operand} {vs:List Value},AR a xs vs->xs.map a.eval=vs
 | [],[],_=>rfl
 | x::xs,v::vs,h=>by rw [List.map_cons,h.1,Nd h.2]
theorem ayr {f:FuncId} {xs:List Operand} {lM:Array TypeId} {vs:List Value} {R:Ending->World->Prop} {K:Act->World->Prop}
 (ap:o.op= .call { callee:=.value (.func f),args:=xs.toArray,argTypes:=lM }) (DI:∀ args w,(callFunc f args).run P w= .ok (.enter f args) w)
 (jm:AR a xs vs) (hc:Calls P f vs.toArray w R) (k:∀ e w',R e w'-> ∃ v,e= .returned v/\K (a.put o.dst v) w'):o.wp P a w K Q:=by
 unfold Oper.wp
 have e:(execOp a.eval o).run P w= .ok (.enter f vs.toArray) w:=by
  have I:=Nd jm
  simp only [execOp,ap,resolve,List.map_toArray,I]
  simp [go_sem,Act.eval,Deferred.ofValue,invoke,DI]
 rw [e]
 exact hc.mono fun e w' ay=>by
  obtain ⟨v,rfl,ai⟩:=k e w' ay
  exact ai
theorem Fs {f:FuncId} {xs:List Operand} {lM:Array TypeId} {vs:List Value} {R:Ending->World->Prop} (hw:Region.wanted o (yielded ops a.tmps)=true)
 (ap:o.op= .call { callee:=.value (.func f),args:=xs.toArray,argTypes:=lM }) (DI:∀ args w,(callFunc f args).run P w= .ok (.enter f args) w)
 (jm:AR a xs vs) (hc:Calls P f vs.toArray w R) (af:Fr n l a) (aL:o.dst=some d) (aA:Nat.blt d n=true)
 (k:∀ e w',R e w'-> ∃ v,e= .returned v/\ ∀ a2,Fr n ((d,v)::l) a2->wpList P ops Q rest a2 w'):wpList P ops Q (o::rest) a w:=by
 refine wpList_step fun K cP=>?_
 rw [if_pos hw]
 refine ayr ap DI jm hc fun e w' ay=>?_
 obtain ⟨v,he,ai⟩:=k e w' ay
 rw [aL]
 exact ⟨v,he,cP _ _ (ai _ (af.put aA))⟩
end
section
variable {P:Program} {Q:Exit->Act->World->Prop} {a:Act} {w:World}
theorem Mn {c:Code} (mF:Nat->Act->World->Prop) (k:Nat) (h:mF k a w) (aN:∀ a w,¬ mF 0 a w)
 (round:∀ k a w,mF (k+ 1) a w-> ∀ K:Act->World->Prop,(∀ a w,mF k a w->K a w)->c.wp P (Exit.then K Q) a w):(Code.loop c).wp P Q a w:=
 wp_loop_ghost mF k h fun m a w uV=>by
  cases m with
  | zero=>exact absurd uV (aN a w)
  | succ m=>exact round m a w uV _ fun a2 w' h'=>⟨m,Nat.lt_succ_self m,h'⟩
theorem awb {fn:Func} {R:Ending->World->Prop} {n:Nat} {l:List (Nat × Value)} (ay:fn.results= #[]) (af:Fr ⟨n,[]⟩ l a) (h:R (.returned (.tuple #[])) w):bodyPost P fn R .ret a w:=
 ⟨af.defers,_,results_none ay _ _ _,h⟩
theorem Fa {fn:Func} {R:Ending->World->Prop} {n:Nat} {t:Nat} {l:List (Nat × Value)} {v:Value} (ay:fn.results= #[.tmp t]) (af:Fr ⟨n,[]⟩ l a) (ak:eo l t=some v) (h:R (.returned v) w):bodyPost P fn R .ret a w:=
 ⟨af.defers,_,results_tmp ay _ _ _,by rw [af.get _ _ ak];exact h⟩
def SI (P:Program) (a:Act) (w:World):ResultVar->Value->Prop
 | .tmp t,v=>a.tmps.getD t undef=v
 | .cell ea ty,v=>∃ b p,a.tmps.getD ea undef= .pointer (some ⟨b,p,none⟩) /\
  ((∃ cs:List Value,(∀ w,(isAgg ty).run P w= .ok true w)/\(∀ w,(Go.sizeOf ty).run P w= .ok cs.length w)/\eT w ⟨b,p,none⟩ cs/\v= .agg cs.toArray) \/
   ((∀ w,(isAgg ty).run P w= .ok false w)/\w.cell? ⟨b,p,none⟩=some v))
def J6 (P:Program) (a:Act) (w:World):List ResultVar->List Value->Prop
 | [],[]=>True
 | r::rs,v::vs=>SI P a w r v/\J6 P a w rs vs
 | _,_=>False
def pack:List Value->Value
 | [v]=>v
 | vs=>.tuple vs.toArray
def J5 (a:Act):ResultVar->Sem Value
 | .tmp t=>pure (a.tmps.getD t undef)
 | .cell ea t=>do loadVar t (<-asAddr (a.tmps.getD ea undef))
theorem axm {r:ResultVar} {v:Value} (h:SI P a w r v):(J5 a r).run P w= .ok v w:=by
 cases r with
 | tmp t=>exact congrArg (fun x=>Result.ok x w) h
 | cell ea ty=>
   obtain ⟨b,p,I,aa⟩:=h
   simp only [J5,I]
   rcases aa with ⟨cs,aw,ao,hc,rfl⟩ | ⟨aw,hc⟩
   · have ak:=run_loadCells_list (P:=P) w ⟨b,p,none⟩ cs (fun j u aC=>by rw [jN];exact hc j u aC)
     unfold loadCells at ak
     simp [go_sem,loadVar,asAddr,aw,ao,ak]
   · simp [go_sem,loadVar,asAddr,aw,hc]
theorem abT:∀ {rs:List ResultVar} {vs:List Value},J6 P a w rs vs->(rs.mapM (J5 a)).run P w= .ok vs w
 | [],[],_=>rfl
 | r::rs,v::vs,h=>by
   have I:=axm h.1
   have aa:=abT h.2
   rw [List.mapM_cons]
   simp only [Sem.run_bind,I,aa,Result.andThen_ok]
   rfl
theorem av' {fn:Func} {R:Ending->World->Prop} {n:Nat} {l:List (Nat × Value)} {rs:List ResultVar} {vs:List Value} (ay:fn.results=rs.toArray) (af:Fr ⟨n,[]⟩ l a) (ag:J6 P a w rs vs)
 (h:R (.returned (pack vs)) w):bodyPost P fn R .ret a w:=by
 refine ⟨af.defers,pack vs,?_,h⟩
 have I:=abT ag
 unfold results
 have e:(fun x=>match x with | .tmp t=>pure (a.tmps.getD t undef) | .cell ea t=>do loadVar t (<-asAddr (a.tmps.getD ea undef)):ResultVar->Sem Value)=J5 a:=by
  funext x;cases x <;> rfl
 rw [ay,List.mapM_toArray]
 simp only [Sem.run_bind]
 show Result.andThen (((List.toArray <$> rs.mapM (fun x=>match x with | .tmp t=>pure (a.tmps.getD t undef) | .cell ea t=>do loadVar t (<-asAddr (a.tmps.getD ea undef)):ResultVar->Sem Value))).run P w) _=_
 rw [e,map_eq_pure_bind,Sem.run_bind,I]
 match vs with
 | []=>rfl
 | [v]=>rfl
 | v::u::r=>rfl
end
section
variable {P:Program} {ops:Array Oper} {Q:Exit->Act->World->Prop} {a:Act} {w:World} {rest:List Oper} {o:Oper} {n:cI} {d:Nat} {l:List (Nat × Value)}
 {W:World} {M0 X:List Nat} {E:List a7} {D:List bt}
theorem bn.new (hm:bn W M0 X w E D) (t:TypeId) (cs:List Value):bn W M0 X (w.alloc (.cells cs.toArray t)) (a7.dQ w.heap.size t cs::E) D:=
 hm.push _ (bp.alloc _ _ _) (ak0 w t cs) (fun k ai=>by simp [a7.dQ] at ai;subst ai;exact ⟨Nat.le_refl _,by simp⟩) (by simp [a7.dQ])
theorem tC {g p sz:Nat} {t tb:TypeId} {x y:Operand} {cs vs:List Value} {v:Value} (i:Nat) (hm:bn W M0 X w E D) (hi:E[i]? =some (a7.dQ g tb cs)) (hw:Region.wanted o (yielded ops a.tmps)=true)
 (ag:v.cells=vs.toArray) (ao:∀ w,(Go.sizeOf t).run P w= .ok sz w) (ak:Nat.beq vs.length sz=true) (I:vs.all (·.oneCell')=true) (hle:Nat.ble (p+vs.length) cs.length=true)
 (ap:o.op= .store t x y) (ad:a.eval x= .pointer (some ⟨g,p,none⟩)) (hy:a.eval y=v) (aL:o.dst=none)
 (k:∀ w',bn W M0 X w' (E.set i (a7.dQ g tb (lay cs p vs))) D->wpList P ops Q rest a w'):wpList P ops Q (o::rest) a w:=by
 obtain ⟨w',I,aa,aq⟩:=UG ag ao ak I hle (hm.e i hi) ap ad hy
 exact iz hw I aL (k w' (hm.Kt i hi aa aq (by simp [a7.dQ]) (fun k ai=>.inl ai)))
theorem bn.ER {α:Type} (hm:bn W M0 X w E D) (e:TypeId) (size:Nat):bn W M0 X w (a7.row e size (.slice none 0 0) ([]:List α) []::E) D:=
 hm.push _ (bp.refl _ _) (World.ownsRow_nil w 0 e size) (fun k ai=>by simp [a7.row,Value.ownBlock] at ai) (by simp [a7.row,Value.ownBlock])
theorem at' (o:Option Nat):o.toList.Nodup:=by cases o <;> simp
theorem Zi {e:TypeId} {z:Value} {sz bytes:Nat} (h:(P.info? e).map (fun i=>(i.zero,i.size,i.bytes))=some (some z,sz,bytes)):∃ i,P.info? e=some i/\i.zero=some z/\i.size=sz/\i.bytes=bytes:=by
 cases hi:P.info? e with
 | none=>rw [hi] at h;cases h
 | some i=>
   rw [hi] at h
   simp only [Option.map_some,Option.some.injEq,Prod.mk.injEq] at h
   exact ⟨i,rfl,h.1,h.2.1,h.2.2⟩
end
end av
namespace av
open Go Go.RowKit J
section
variable {P:Program} {ops:Array Oper} {C:World->Prop} {oW:Act->Prop} {a:Act} {w:World} {rest:List Oper} {o:Oper} {n:cI} {d:Nat} {l:List (Nat × Value)} {v:Value}
theorem qs (hw:Region.wanted o (yielded ops a.tmps)=false) (af:Fr n l a) (aL:o.dst=some d) (aA:Nat.blt d n=true) (k:∀ a2,Fr n ((d,undef)::l) a2->wpQuiet P ops C oW rest a2):wpQuiet P ops C oW (o::rest) a:=by
 unfold wpQuiet
 rw [if_neg (by simp [hw]),aL]
 exact k _ (af.put aA)
theorem alr {id:Nat} {Q:Exit->Act->World->Prop} {l:List Oper} (hm:P.follows .mixedOrders=true) (bN:Region.lexB .any l.toArray=true)
 (h:wpQuiet P l.toArray (fun w'=>bp [] w w') (fun a=>∀ w',bp [] w w'->Q .normal a w') l a):(Code.region id l.toArray true).wp P Q a w:=
 wp_region_quiet (C:=fun w'=>bp [] w w') hm bN (bp.drew [] w) (by
  refine Eq.mp ?_ h
  rw [List.toList_toArray]) |> fun h=>wp_mono h (fun e a w q=>q)
end
theorem anO {w w':World} {p:Addr} {v:Value} (h:bp [] w w') (hc:w.cell? p=some v):w'.cell? p=some v:=
 (World.cell?_of_block (h.block p.block (World.block_lt_of_cell? w p hc) (by simp))).trans hc
theorem AQ {w w':World} {p:Addr} {cs:List Value} (h:bp [] w w') (hc:eT w p cs):eT w' p cs:=fun j u aC=>anO h (hc j u aC)
section
variable {P:Program} {Q:Exit->Act->World->Prop} {K:Act->World->Prop} {a:Act} {w:World}
theorem p9 {i:Nat} (h:Q (.exit i) a w):Exit.then K Q (.exit i) a w:=h
theorem Cx {i:Nat} (h:Q .normal a w):Exit.inBlock i Q (.exit i) a w:=by simpa [Exit.inBlock] using h
theorem Ls (h:Q .ret a w):Exit.then K Q .ret a w:=h
theorem agv {i:Nat} (h:Q .ret a w):Exit.inBlock i Q .ret a w:=h
theorem G' {id:Nat} {c:Code} (mG:Act->World->Prop) (ad:∀ K:Act->World->Prop,(∀ a w,mG a w->K a w)->c.wp P (Exit.inBlock id (Exit.then K Q)) a w) (hy:∀ a w,mG a w->Q .normal a w):(Code.block id c).wp P Q a w:=by
 refine wp_block (wp_mono (ad _ hy) ?_)
 intro e a w h
 cases e with
 | exit i=>
   by_cases hi:i=id
   · simpa [Exit.inBlock,Exit.then,hi] using h
   · simpa [Exit.inBlock,Exit.then,hi] using h
 | _=>exact h
theorem mL {id:Nat} {l:List Oper} (h:wpList P l.toArray Q l a w):(Code.region id l.toArray false).wp P Q a w:=wp_region_lit h
end
section
variable {W w:World} {M0 X:List Nat} {E:List a7} {D:List bt}
def JF (D:List bt):List bt->Prop
 | []=>True
 | y::r=>(∃ i:Nat,D[i]? =some y)/\JF D r
theorem aaR {D:List bt}:∀ {fS:List bt},JF D fS-> ∀ y ∈ fS,y ∈ D
 | [],_,y,hy=>by simp at hy
 | z::r,h,y,hy=>by
   rcases List.mem_cons.1 hy with rfl | e
   · obtain ⟨i,hi⟩:=h.1;exact List.mem_of_getElem? hi
   · exact aaR h.2 y e
theorem bn.pick (h:bn W M0 X w E D) {fS:List bt} (ao:JF D fS):bn W M0 X w E fS:=h.less (aaR ao)
theorem bn.Ht (h:bn W M0 X w E D) (i:Nat):bn W M0 X w (E.eraseIdx i) D:=h.drop (List.eraseIdx_sublist E i)
theorem bn.freeze {α:Type} {T:db α} {e:TypeId} {A:Option Addr} {n c:Nat} {l:List α} {xs:List Value} (h:bn W M0 X w E D) (i j:Nat) (hi:E[i]? =some (a7.row e T.size (.slice A n c) l xs)) (aC:D[j]? =some (bt.rows T xs l)) :
 bn W M0 X w (E.eraseIdx i) (bt.of (bZ T) [.slice A n c] l::D):=by
 have I:=h.Ht i
 refine I.more (aw3 (h.e i hi) (I.d j aC) ?_)
 intro k ai cM
 rcases List.mem_append.1 cM with e1 | e1
 · have bs:=h.hz k e1
   rcases (h.lt k (List.mem_flatMap.2 ⟨_,List.mem_of_getElem? hi,ai⟩)).2 with e2 | e2
   · exact bs.2 e2
   · omega
 · obtain ⟨ak,ad⟩:=List.getElem?_eq_some_iff.1 hi
   have a5:E=E.take i++E[i]::E.drop (i+ 1):=by simp
   have aL:=h.br
   rw [a5,ad] at aL
   have e2:b4 (E.take i++a7.row e T.size (.slice A n c) l xs::E.drop (i+ 1))=b4 (E.take i)++((a7.row e T.size (.slice A n c) l xs).bw++b4 (E.drop (i+ 1))):=by simp [b4]
   rw [e2,List.nodup_append,List.nodup_append] at aL
   rw [List.eraseIdx_eq_take_drop_succ] at e1
   rcases List.mem_append.1 (by simpa [b4] using e1:k ∈ b4 (E.take i)++b4 (E.drop (i+ 1))) with e3 | e3
   · exact aL.2.2 k e3 k (List.mem_append.2 (.inl ai)) rfl
   · exact aL.2.1.2.2 k ai k e3 rfl
theorem bn.XS {g:Nat} {t:TypeId} {cs:List Value} (h:bn W M0 X w E D) (i:Nat) (hi:E[i]? =some (a7.dQ g t cs)):bn W M0 X w (E.eraseIdx i) (bt.ii g cs::D):=by
 have I:=h.Ht i
 refine I.more ⟨?_,C4 (h.e i hi),fun j u aC=>?_⟩
 · intro cM
   have ai:g ∈ (a7.dQ g t cs).bw:=by simp [a7.dQ]
   rcases List.mem_append.1 cM with e1 | e1
   · have bs:=h.hz g e1
     rcases (h.lt g (List.mem_flatMap.2 ⟨_,List.mem_of_getElem? hi,ai⟩)).2 with e2 | e2
     · exact bs.2 e2
     · omega
   · obtain ⟨ak,ad⟩:=List.getElem?_eq_some_iff.1 hi
     have a5:E=E.take i++E[i]::E.drop (i+ 1):=by simp
     have aL:=h.br
     rw [a5,ad] at aL
     have e2:b4 (E.take i++a7.dQ g t cs::E.drop (i+ 1))=b4 (E.take i)++((a7.dQ g t cs).bw++b4 (E.drop (i+ 1))):=by simp [b4]
     rw [e2,List.nodup_append,List.nodup_append] at aL
     rw [List.eraseIdx_eq_take_drop_succ] at e1
     rcases List.mem_append.1 (by simpa [b4] using e1:g ∈ b4 (E.take i)++b4 (E.drop (i+ 1))) with e3 | e3
     · exact aL.2.2 g e3 g (List.mem_append.2 (.inl ai)) rfl
     · exact aL.2.1.2.2 g ai g e3 rfl
 · have:=uC (h.e i hi) aC
   simpa using this
end
end av
namespace av
open Go Go.RowKit J
def dC (n:Nat):List Nat->Array Bool
 | []=>Array.replicate n false
 | i::d=>(dC n d).setIfInBounds i true
def Ab (K:Act->World->Prop) (Q:Exit->Act->World->Prop):Exit->Act->World->Prop
 | .normal,a,w=>K a w
 | e,a,w=>Q e a w
section
variable {P:Program} {ops:Array Oper} {Q:Exit->Act->World->Prop} {a:Act} {w:World} {o:Oper} {n:cI} {f d i:Nat} {ds:List Nat} {l:List (Nat × Value)} {v:Value}
def Kp (ops:Array Oper) (ds:List Nat) (i:Nat):Bool:=Region.noSelect ops && Region.free .any ops (dC ops.size ds) i && (Region.ready .any ops (dC ops.size ds)).contains i
theorem ayq {K:Act->World->Prop} {Q:Exit->Act->World->Prop} (h:o.wp P a w K (Ab K Q)):o.wp P a w K Q:=by
 unfold Oper.wp at *
 generalize (execOp a.eval o).run P w=r at *
 cases r with
 | ok n w'=>
   cases n <;> simp only [Oper.upon] at h ⊢ <;>
    first
     | exact h
     | exact Calls.mono h (fun e w'' he=>by cases e <;> first | exact he | exact he)
 | halt x w'=>cases x <;> simp only [Oper.upon] at h ⊢ <;> exact h
theorem Tq {K:Act->World->Prop} (hi:ops[i]? =some o) (h:wpList P ops (Ab K (NoPanic Q)) [o] a w):wpOp P ops (NoPanic Q) i K a w:=by
 unfold wpOp
 simp only [hi]
 unfold wpList at h
 split at h
 · rename_i hw
   rw [if_pos hw]
   rcases h with h | ⟨I,aa⟩
   · exact .inl (ayq h)
   · exact .inr ⟨I,aa.elim fun a h=>h.elim fun w h=>⟨a,w,h⟩⟩
 · rename_i hw
   rw [if_neg hw]
   exact h
end
section
variable {P:Program} {o:Oper} {a:Act} {w:World} {t t':TypeId} {x y:Operand} {cq:Array Go.Field} {xs ys:Array Value} {b:Bool}
theorem LD (aJ:P.underlying t=some (.struct cq)) (aD:P.stoodInHeld t=false) (hm:P.eqGuardType P.depth t=false)
 (ay:(Op.eqFields 9999 xs ys cq.toList).run P w= .ok b w) (ap:o.op= .binOp .eql t x y t') (ad:a.eval x= .agg xs) (hy:a.eval y= .agg ys):bd P o a w (.bool b) w:=by
 have af:P.fieldsOf t=cq:=by simp [Program.fieldsOf,aJ]
 have h:=run_equalIn_struct (P:=P) w 9999 t xs ys (by rw [af];exact aJ) aD
 rw [af,ay] at h
 have h:(Op.equalIn 10000 t (Value.agg xs) (Value.agg ys)).run P w= .ok b w:=h
 simp only [bd,execOp,ap,ad,hy]
 simp [go_sem,Op.equal,Op.maxDepth,h,run_eqGuard_agg w _ _ _ _ _ _ hm]
theorem LF (aJ:P.underlying t=some (.struct cq)) (aD:P.stoodInHeld t=false) (hm:P.eqGuardType P.depth t=false)
 (ay:(Op.eqFields 9999 xs ys cq.toList).run P w= .ok b w) (ap:o.op= .binOp .neq t x y t') (ad:a.eval x= .agg xs) (hy:a.eval y= .agg ys):bd P o a w (.bool (!b)) w:=by
 have af:P.fieldsOf t=cq:=by simp [Program.fieldsOf,aJ]
 have h:=run_equalIn_struct (P:=P) w 9999 t xs ys (by rw [af];exact aJ) aD
 rw [af,ay] at h
 have h:(Op.equalIn 10000 t (Value.agg xs) (Value.agg ys)).run P w= .ok b w:=h
 simp only [bd,execOp,ap,ad,hy]
 simp [go_sem,Op.equal,Op.maxDepth,h,run_eqGuard_agg w _ _ _ _ _ _ hm]
theorem qz {d:Nat}:(Op.eqFields d xs ys []).run P w= .ok true w:=rfl
theorem lU {d:Nat} {f:Go.Field} {l:List Go.Field} {k:IntKind} {m n:Int} {e:Prop} [Decidable e] (aA:(f.name != "_")=true) (hu:P.underlying f.type=some (.int k)) (aw:∀ w,(isAgg f.type).run P w= .ok false w)
 (ad:xs[f.offset]? =some (.int k m)) (hy:ys[f.offset]? =some (.int k n)) (h:(Op.eqFields (d+ 1) xs ys l).run P w= .ok (decide e) w):(Op.eqFields (d+ 1) xs ys (f::l)).run P w= .ok (decide (m=n/\e)) w:=by
 have pw:f.name≠ "_" :=by simpa using aA
 simp only [Op.eqFields,pw,if_true,ne_eq,not_false_iff,part,Sem.run_bind,aw,Result.andThen_ok,ad,hy,Bool.false_eq_true,if_false,Sem.run_pure,run_equalIn_int w d f.type k k m n hu]
 by_cases sC:m=n
 · subst sC;simp [h]
 · simp [sC,show (m == n)=false from by simpa using sC]
end
end av
namespace av
open Go Go.RowKit Go.ChangeShapes Go.WideShapes Go.Deep J
section
variable {H:Type} {enc:TypeId × Value->H} {P:Program}
theorem VR (ak:laidOutB P=true) {W cy:World} {g0:Nat->Bool}:∀ {tE:List TypeId} {vs:List Value} {ds:List (DataW H)} {ps:List MemPlace},DataW.TrodAll enc P W 0 (fun _=>true) true tE vs ds ps ->
 (tE.all fun t=>P.readableRec t && Nat.blt t P.types.size)=true->(∀ p ∈ ps,W.sameAt cy p)->(∀ p ∈ ps,g0 p.block=true)->DataW.TrodAll enc P cy 0 g0 true tE vs ds ps
 | [],vs,ds,ps,h,_,_,_=>by obtain ⟨rfl,rfl,rfl⟩:=trodAll_nil h;exact trodAll_mk0
 | t::tE,vs,ds,ps,h,ay,ao,aD=>by
   obtain ⟨v,Ch,d,aCx,p,q,rfl,rfl,rfl,aN,I⟩:=trodAll_cons h
   simp only [List.all_cons,Bool.and_eq_true] at ay
   exact trodAll_cons_mk (WideElems.Trod_stays ak ay.1.1 (Nat.le_of_ble_eq_true ay.1.2) aN (fun x ad=>ao x (List.mem_append_left _ ad)) (fun x ad=>aD x (List.mem_append_left _ ad)))
    (VR ak I ay.2 (fun x ad=>ao x (List.mem_append_right _ ad)) (fun x ad=>aD x (List.mem_append_right _ ad)))
theorem auo {f:Func} {s:ChangeSpec} {W cy:World} {args:Array Value} {ds gs:List (DataW H)} {before:List MemPlace} {tb:TypeId}
 (fJ:DataW.Whole enc P f.params.toList s.vars false W args.toList ds gs before) (ak:laidOutB P=true) (ay:(f.params.toList.all fun t=>P.readableRec t && Nat.blt t P.types.size)=true)
 (ag:s.vars= []) (ht:s.fn H ds= { results:=[.lit (.bool true)],args:=ds }) (ah:P.underlying tb=some .bool) (YY:f.resultTypes= #[tb]) (jD:bp [] W cy) :
 s.post enc P f false true false false W args (.bool true) cy:=by
 have sr:=jD.below
 have bs:∀ p ∈ before,p.block <W.heap.size:=fun p aD=>fJ.lt p aD
 have aoJ:=fJ
 obtain ⟨p,q,dB,qG,Bd,aj,aA⟩:=fJ
 rw [ag] at qG
 obtain ⟨rfl,rfl⟩:=trodVars_none qG
 simp only [List.append_nil] at Bd
 subst Bd
 have hold:∀ x ∈ before,(fun b=>decide (b <W.heap.size)) x.block=true:=fun x ad=>by simpa using bs x ad
 have OI:∀ g0:Nat->Bool,(∀ x ∈ before,g0 x.block=true)->DataW.TrodAll enc P cy 0 g0 true f.params.toList args.toList ds before:=
  fun g0 yF=>VR ak dB ay (fun x ad=>sr.same (bs x ad)) yF
 have qS:∀ (b:Nat) (g0:Nat->Bool) (aL:Bool),DataW.TrodAll enc P cy b g0 aL f.resultTypes.toList ((Value.bool true).resultList f.resultTypes.size) [.lit (.bool true)] []:=fun b g0 aL=>by
  rw [YY];exact trodAll_cons_mk (p:=[]) (shut_bool ah true) trodAll_mk0
 have Iv:∀ g0:Nat->Bool,DataW.TrodVars enc P cy g0 s.vars [] []:=fun g0=>by rw [ag];rfl
 refine ⟨ds,[],before,[],before,[],aoJ,?_,?_,?_,World.keptBut_mono (fun x ad=>⟨ad,Or.inr (by simpa using ad)⟩) (sr.frame (· ∈ before)),fun _=>?_⟩
 · simp only [List.append_nil,ht];exact qS _ _ _
 · simp only [List.append_nil,ht];exact OI _ hold
 · simp only [List.append_nil,ht];exact Iv _
 · refine ⟨ok_one YY rfl (okWide_bool_mk ah true),_,_,([]++before)++[],⟨[]++before,[],trodAll_append (OI (fun _=>true) (fun _ _=>rfl)) (qS _ _ _),Iv _,rfl,?_,?_⟩,?_⟩
   · intro b off aD
     have gm:MemPlace.cell b off ∈ before:=by simpa using aD
     rw [sr.frozen (bs _ gm)]
     exact aj b off gm
   · intro aK;simpa using aA aK
   · intro x ad _;simpa using ad
theorem abS {α:Type} {T:db α} {F:Nat->Prop} {W:World} {b o:Nat} {R:α->Prop}:∀ m:Nat,(∀ i,i <m-> ∃ cs d,eT W ⟨b,o+i*T.size,none⟩ cs/\T.rd F W cs d/\R d) ->
 ∃ (l:List α) (xs:List Value),l.length=m/\dO T F W xs l/\eT W ⟨b,o,none⟩ xs/\ ∀ d ∈ l,R d
 | 0,_=>⟨[],[],rfl,rfl,fun j u aC=>by simp at aC,fun d aL=>by cases aL⟩
 | m+ 1,h=>by
   obtain ⟨l,xs,I,aa,aq,a'⟩:=abS m (fun i hi=>h i (by omega))
   obtain ⟨cs,d,c1,c2,c3⟩:=h m (by omega)
   refine ⟨l++[d],xs++cs,by simp [I],abv (T:=T) c2 aa,fun j u aC=>?_,fun e he=>?_⟩
   · have ak:=tw (T:=T) aa
     rcases Nat.lt_or_ge j xs.length with bs | H_
     · exact aq j u (by simpa [List.getElem?_append,bs] using aC)
     · rw [List.getElem?_append_right H_] at aC
       have:=c1 (j - xs.length) u aC
       rw [ak,I] at this
       rw [show o+j=o+m*T.size+(j - m*T.size) by rw [ak,I] at H_;omega]
       simpa using this
   · rcases List.mem_append.1 he with e1 | e1
     · exact a' e e1
     · simp at e1;subst e1;exact c3
end
end av
namespace av
open Go Go.RowKit Go.ChangeShapes Go.WideShapes Go.Deep J
def g3 {H:Type} (P:Program) (enc:TypeId × Value->H) (N:Nat) (t:TypeId) {α:Type} (T:db α) (R:α->Prop):Prop:=
 ∀ (W:World) (n:Nat) (cs:List Value) (x:DataW H × List MemPlace),DataW.trod enc P W 0 (fun _=>true) true n t cs=some x->(∀ p ∈ x.2,p.block <W.heap.size)->(∀ m ∈ x.1.weights P t,m<=N)-> ∃ d,T.rd (hF [] W) W cs d/\R d
def iK (n:Int):Prop:=-9223372036854775808 <=n/\n<= 9223372036854775807
section
variable {H:Type} {enc:TypeId × Value->H} {P:Program} {N:Nat} {t e:TypeId}
theorem v_ (aJ:P.underlying t=some .string):g3 P enc N t iA (fun s=>s.length<=N):=by
 intro W n cs x h _ hw
 obtain ⟨s,rfl,rfl,_⟩:=DataW.trod_string aJ h
 exact ⟨s.data.toList,rfl,hw _ (by simp [DataW.weights])⟩
theorem mr (aJ:P.underlying t=some (.int .i64)):g3 P enc N t (eR .i64) iK:=by
 intro W n cs x h _ _
 obtain ⟨z,rfl,_,aj⟩:=DataW.trod_int aJ h
 exact ⟨z,rfl,by simpa [iK,Lit.wf,IntKind.min,IntKind.max,IntKind.signed,IntKind.bits] using aj⟩
theorem awG (aJ:P.underlying t=some .bool):g3 P enc N t ax4 (fun _=>True):=by
 intro W n cs x h _ _
 obtain ⟨b,rfl,_⟩:=DataW.trod_bool aJ h
 exact ⟨b,rfl,trivial⟩
theorem Z5 {d:DataW H} {m:Nat} (hm:m ∈ d.weights P e):∀ {l:List (DataW H)},d ∈ l->m ∈ DataW.weightsAll P e l
 | [],h=>by cases h
 | x::r,h=>by
   simp only [DataW.weightsAll,List.mem_append]
   rcases List.mem_cons.1 h with rfl | h
   · exact .inl hm
   · exact .inr (Z5 hm h)
theorem pX {α:Type} {T:db α} {R:α->Prop} (aJ:P.underlying t=some (.slice e)) (cX:P.cellsOf e=T.size) (gS:Nat.blt 0 T.size=true) (DJ:g3 P enc N e T R):g3 P enc N t (bZ T) (fun l=>l.length*P.bytesOf e<=N/\ ∀ d ∈ l,R d):=by
 have gS:0 <T.size:=Nat.le_of_ble_eq_true gS
 intro W n cs x h aD hw
 rcases open_slice aJ h with ⟨rfl,rfl⟩ | ⟨a,s8,cap,m,fD,D,akN,rfl,_,ak,hm,D5,ad,hi⟩
 · exact ⟨[],⟨none,0,rfl,Nat.le_refl _,Nat.zero_le _,fun _=>rfl,fun h=>absurd rfl h⟩,by simp,fun d aL=>by cases aL⟩
 · have dV:m=cap:=by simpa using D5
   subst dV
   have YV:x.2 =MemPlace.row a (m*P.cellsOf e)++(List.range m).flatMap akN:=congrArg Prod.snd ad
   have Yx:x.1 = .slice ((List.range s8).map D) ((List.range (m - s8)).map fun j=>D (s8+j)):=congrArg Prod.fst ad
   have vh:(s8+(m - s8))*P.bytesOf e<=N:=by
    refine hw _ ?_
    rw [Yx]
    simp only [DataW.weights,aJ,List.length_map,List.length_range]
    exact List.mem_cons_self
   have hlen:s8*P.bytesOf e<=N:=Nat.le_trans (Nat.mul_le_mul_right _ (Nat.le_add_right _ _)) vh
   by_cases aN:s8= 0
   · subst aN
     exact ⟨[],⟨some a,m,rfl,by simp,hm,fun h=>(by cases h),fun h=>absurd rfl h⟩,by simp,fun d aL=>by cases aL⟩
   · have ij:∀ i,i <s8-> ∃ cs d,(∀ j u,cs[j]? =some u->W.cell? (a.add (i*T.size+j))=some u)/\cs.length=T.size/\T.rd (hF [] W) W cs d/\R d:=fun i cA=>by
      have YI:i <m:=by omega
      obtain ⟨jz,hc,sG⟩:=hi i YI
      obtain ⟨d,aL,fa⟩:=DJ W fD jz _ sG (fun p Pq=>aD p (by
       rw [YV,List.mem_append]
       exact .inr (List.mem_flatMap.2 ⟨i,by simpa using YI,Pq⟩))) (fun k ai=>hw k (by
       rw [Yx]
       simp only [DataW.weights,aJ,List.mem_cons,List.mem_append]
       exact .inr (.inl (Z5 ai (List.mem_map.2 ⟨i,by simpa using cA,rfl⟩)))))
      rw [cX] at hc
      obtain ⟨_,jT,qH⟩:=World.cells?_some hc
      refine ⟨jz,d,fun j u aC=>?_,jT,aL,fa⟩
      have mY:j <T.size:=by rw [<-jT];exact (List.getElem?_eq_some_iff.1 aC).1
      have:=qH j mY
      rw [aC,Go.Deep.add_add] at this
      exact this
     have Y4:a.spot=none:=by
      obtain ⟨cs,d,I,aa,_⟩:=ij 0 (by omega)
      have:=I 0 _ (List.getElem?_eq_getElem (by omega))
      unfold World.cell? at this
      split at this
      · split at this
        · cases this
        · rename_i ao;simpa [Addr.add] using ao
      · cases this
     obtain ⟨ab,Vl,aCo⟩:=a
     simp only at Y4
     subst Y4
     obtain ⟨l,xs,I,aa,aq,a'⟩:=abS (T:=T) (F:=hF [] W) (W:=W) (b:=ab) (o:=Vl) (R:=R) s8 (fun i cA=>by
      obtain ⟨cs,d,c1,_,c3,c4⟩:=ij i cA
      exact ⟨cs,d,fun j u aC=>by have:=c1 j u aC;rw [jN] at this;simpa [Nat.add_assoc] using this,c3,c4⟩)
     subst I
     refine ⟨l,⟨_,m,rfl,ak,hm,fun h=>(by cases h),fun _=>⟨rfl,⟨by simp,?_⟩,xs,aa,aq⟩⟩,hlen,a'⟩
     have gm:MemPlace.cell ab Vl ∈ x.2 :=by
      rw [YV,List.mem_append]
      left
      have:0 <m*P.cellsOf e:=Nat.mul_pos (by omega) (by omega)
      simp only [MemPlace.row,List.mem_map,List.mem_range]
      exact ⟨0,this,by simp⟩
     exact aD _ gm
theorem Z6 {m:Nat}:∀ {tE:List TypeId} {l:List (DataW H)} {j:Nat} {u:TypeId} {d:DataW H},tE[j]? =some u->l[j]? =some d->m ∈ d.weights P u->m ∈ DataW.weightsEach P tE l
 | [],_,j,_,_,h,_,_=>by simp at h
 | _::_,[],j,_,_,_,h,_=>by simp at h
 | t::tE,x::l,0,u,d,I,aa,hm=>by
   simp only [List.getElem?_cons_zero,Option.some.injEq] at I aa
   subst I;subst aa
   simp only [DataW.weightsEach,List.mem_append]
   exact .inl hm
 | t::tE,x::l,j+ 1,u,d,I,aa,hm=>by
   simp only [DataW.weightsEach,List.mem_append]
   exact .inr (Z6 (j:=j) (by simpa using I) (by simpa using aa) hm)
theorem mP {cq:Array Go.Field} {W:World} {n:Nat} {cs:List Value} {x:DataW H × List MemPlace} (aJ:P.underlying t=some (.struct cq)) (h:DataW.trod enc P W 0 (fun _=>true) true n t cs=some x) (aD:∀ p ∈ x.2,p.block <W.heap.size) (hw:∀ m ∈ x.1.weights P t,m<=N) :
 ∃ fD,cs.length=P.cellsOf t/\ ∀ (j:Nat) (f:Go.Field),cq[j]? =some f-> ∃ y,DataW.trod enc P W 0 (fun _=>true) true fD f.type ((cs.drop f.offset).take (P.cellsOf f.type))=some y/\(∀ p ∈ y.2,p.block <W.heap.size)/\(∀ m ∈ y.1.weights P f.type,m<=N):=by
 obtain ⟨ys,fD,_,ad,ak,aCX,aw⟩:=DataW.trod_struct aJ h
 refine ⟨fD,ak,fun j f aC=>?_⟩
 have mY:j <cq.size:=(Array.getElem?_eq_some_iff.1 aC).1
 have hy:ys[j]? =some (ys[j]'(by omega)):=List.getElem?_eq_getElem _
 refine ⟨ys[j]'(by omega),by rw [aw j f aC,hy],fun p Pq=>aD p ?_,fun m hm=>hw m ?_⟩
 · rw [ad]
   exact List.mem_flatMap.2 ⟨_,List.getElem_mem _,Pq⟩
 · rw [ad]
   simp only [DataW.weights,aJ]
   refine Z6 (j:=j) (u:=f.type) (d:=(ys[j]'(by omega)).1) ?_ ?_ hm
   · rw [List.getElem?_map,Array.getElem?_toList,aC];rfl
   · rw [List.getElem?_map,hy];rfl
theorem e0 {cq:Array Go.Field} {W:World} {fD:Nat} {cs:List Value} (af:∀ (j:Nat) (f:Go.Field),cq[j]? =some f-> ∃ y,DataW.trod enc P W 0 (fun _=>true) true fD f.type ((cs.drop f.offset).take (P.cellsOf f.type))=some y/\(∀ p ∈ y.2,p.block <W.heap.size)/\(∀ m ∈ y.1.weights P f.type,m<=N))
 (j:Nat) {f:Go.Field} (aC:cq[j]? =some f) {t off k:Nat} (aJ:f.type=t) (ap:f.offset=off) (ai:P.cellsOf t=k) {r:List Value} (ay:(cs.drop off).take k=r):∃ y,DataW.trod enc P W 0 (fun _=>true) true fD t r=some y/\(∀ p ∈ y.2,p.block <W.heap.size)/\(∀ m ∈ y.1.weights P t,m<=N):=by
 obtain ⟨y,I,aa,aq⟩:=af j f aC
 rw [aJ,ap] at I
 rw [aJ] at aq
 rw [ai,ay] at I
 exact ⟨y,I,aa,aq⟩
theorem Vh {v:Array Value} {l:List Value} (h:(Value.agg v).cells.toList=l):v=l.toArray:=by
 have h:v.toList=l:=h
 rw [<-h]
theorem Mc {α:Type} {T:db α} {R:α->Prop} {W:World} {v:Value} {d:DataW H} {ps:List MemPlace} (ay:g3 P enc N t T R) (h:DataW.Trod enc P W 0 (fun _=>true) true t v d ps) (aD:∀ p ∈ ps,p.block <W.heap.size) (hw:∀ m ∈ d.weights P t,m<=N):∃ d',T.rd (hF [] W) W v.cells.toList d'/\R d':=by
 obtain ⟨n,aA⟩:=h
 exact ay W n _ _ aA aD hw
end
end av
namespace av
open Go Go.RowKit J
inductive lJ
 | i (k:IntKind)
 | b
 | s
 | cf
def lJ.ok (P:Program) (t:TypeId):lJ->Prop
 | .i k=>P.underlying t=some (.int k)
 | .b=>P.underlying t=some .bool
 | .s=>P.underlying t=some .string
 | .cf=>∃ e,P.underlying t=some (.slice e)
structure kP where
 mx:List (Nat × lJ)
 mP:List (Nat × Nat × Nat)
 Fu:List (Nat × Option Nat)
def Tf (P:Program):List (Nat × lJ)->Prop
 | []=>True
 | p::r=>p.2.ok P p.1 /\Tf P r
def LX (P:Program) (s j off:Nat):Prop:=∃ cq f sz,P.underlying s=some (.struct cq)/\cq[j]? =some f/\f.offset=off/\sz≠ 0 /\ ∀ w,(Go.sizeOf f.type).run P w= .ok sz w
def Nm (P:Program):List (Nat × Nat × Nat)->Prop
 | []=>True
 | p::r=>LX P p.1 p.2.1 p.2.2 /\Nm P r
def Vd (P:Program) (t:Nat):Option Nat->Prop
 | none=>∀ w,(isAgg t).run P w= .ok false w
 | some n=>(∀ w,(isAgg t).run P w= .ok true w)/\ ∀ w,(Go.sizeOf t).run P w= .ok n w
def SY (P:Program):List (Nat × Option Nat)->Prop
 | []=>True
 | p::r=>Vd P p.1 p.2 /\SY P r
structure qf (P:Program) (G:kP):Prop where
 mx:Tf P G.mx
 mP:Nm P G.mP
 Fu:SY P G.Fu
theorem et {P:Program} {s j off sz:Nat} {cq:Array Go.Field} {f:Go.Field} (h:P.underlying s=some (.struct cq)) (af:cq[j]? =some f) (ap:f.offset=off) (ao:∀ w,(Go.sizeOf f.type).run P w= .ok sz w) (aN:Nat.beq sz 0 =false):LX P s j off:=
 ⟨cq,f,sz,h,af,ap,(fun e=>by subst e;simp at aN),ao⟩
def nb {β:Type}:List (Nat × β)->Nat->Option β
 | [],_=>none
 | p::r,t=>match Nat.beq p.1 t with
   | true=>some p.2
   | false=>nb r t
def EG:List (Nat × Nat × Nat)->Nat->Nat->Option Nat
 | [],_,_=>none
 | p::r,s,j=>match Nat.beq p.1 s && Nat.beq p.2.1 j with
   | true=>some p.2.2
   | false=>EG r s j
theorem zC {P:Program} {l:List (Nat × lJ)} (h:Tf P l) {t:Nat} {k:lJ} (ak:nb l t=some k):k.ok P t:=by
 induction l with
 | nil=>simp [nb] at ak
 | cons p r ba=>
   simp only [nb] at ak
   cases ah:Nat.beq p.1 t with
   | true=>
     rw [ah] at ak
     simp only [Option.some.injEq] at ak
     rw [<-Nat.eq_of_beq_eq_true ah,<-ak];exact h.1
   | false=>rw [ah] at ak;exact ba h.2 ak
theorem ab8 {P:Program} {l:List (Nat × Option Nat)} (h:SY P l) {t:Nat} {k:Option Nat} (ak:nb l t=some k):Vd P t k:=by
 induction l with
 | nil=>simp [nb] at ak
 | cons p r ba=>
   simp only [nb] at ak
   cases ah:Nat.beq p.1 t with
   | true=>
     rw [ah] at ak
     simp only [Option.some.injEq] at ak
     rw [<-Nat.eq_of_beq_eq_true ah,<-ak];exact h.1
   | false=>rw [ah] at ak;exact ba h.2 ak
theorem anW {P:Program} {l:List (Nat × Nat × Nat)} (h:Nm P l) {s j off:Nat} (ak:EG l s j=some off):LX P s j off:=by
 induction l with
 | nil=>simp [EG] at ak
 | cons p r ba=>
   simp only [EG] at ak
   cases ah:Nat.beq p.1 s && Nat.beq p.2.1 j with
   | true=>
     rw [ah] at ak
     simp only [Option.some.injEq] at ak
     simp only [Bool.and_eq_true] at ah
     rw [<-Nat.eq_of_beq_eq_true ah.1,<-Nat.eq_of_beq_eq_true ah.2,<-ak];exact h.1
   | false=>rw [ah] at ak;exact ba h.2 ak
def i_ (w:World):List (Nat × Nat × List Value)->Prop
 | []=>True
 | m::r=>eT w ⟨m.1,m.2.1,none⟩ m.2.2 /\i_ w r
theorem g9 {w:World}:i_ w []:=trivial
theorem gK {w:World} {b p:Nat} {cs:List Value} {M:List (Nat × Nat × List Value)} (h:eT w ⟨b,p,none⟩ cs) (k:i_ w M):i_ w ((b,p,cs)::M):=⟨h,k⟩
theorem Z3 {w:World} {M:List (Nat × Nat × List Value)} (h:i_ w M) {i b p:Nat} {cs:List Value} (hi:M[i]? =some (b,p,cs)):eT w ⟨b,p,none⟩ cs:=by
 induction M generalizing i with
 | nil=>simp at hi
 | cons m r ba=>
   cases i with
   | zero=>
     simp only [List.getElem?_cons_zero,Option.some.injEq] at hi
     subst hi
     exact h.1
   | succ i=>exact ba h.2 (by simpa using hi)
theorem jO {w:World} {g:Nat} {t:TypeId} {cs:List Value} (h:(a7.dQ g t cs).ok w):eT w ⟨g,0,none⟩ cs:=fun j u aC=>by
 have:=uC h aC
 simpa using this
structure gj where
 t:Nat
 j:Nat
 want:Bool
 v:Value
def zv:List (Nat × Value)->Nat->List (Nat × Value)
 | [],_=>[]
 | p::r,d=>match Nat.beq p.1 d with
   | true=>zv r d
   | false=>p::zv r d
def p1:List gj->Nat->List gj
 | [],_=>[]
 | p::r,d=>match Nat.beq p.t d || Nat.beq p.j d with
   | true=>p1 r d
   | false=>p::p1 r d
def ym:List (Nat × Bool)->Nat->Bool->Bool
 | [],_,_=>false
 | p::r,j,b=>(Nat.beq p.1 j && (p.2 == b)) || ym r j b
def EH:List gj->List (Nat × Bool)->Nat->Option Value
 | [],_,_=>none
 | p::r,cur,t=>match Nat.beq p.t t && ym cur p.j p.want with
   | true=>some p.v
   | false=>EH r cur t
def k3 (a:Act):List gj->Prop
 | []=>True
 | p::r=>(a.tmps.getD p.j undef= .bool p.want->a.tmps.getD p.t undef=p.v)/\k3 a r
def iN (a:Act):List (Nat × Bool)->Prop
 | []=>True
 | p::r=>a.tmps.getD p.1 undef= .bool p.2 /\iN a r
theorem Yp {a:Act} {cur:List (Nat × Bool)} (h:iN a cur) {j:Nat} {b:Bool} (bu:ym cur j b=true):a.tmps.getD j undef= .bool b:=by
 induction cur with
 | nil=>simp [ym] at bu
 | cons p r ba=>
   simp only [ym,Bool.or_eq_true,Bool.and_eq_true,beq_iff_eq] at bu
   rcases bu with ⟨I,aa⟩ | bu
   · rw [<-Nat.eq_of_beq_eq_true I,<-aa];exact h.1
   · exact ba h.2 bu
theorem asJ {a:Act} {gs:List gj} (h:k3 a gs) {cur:List (Nat × Bool)} (hc:iN a cur) {t:Nat} {v:Value} (ak:EH gs cur t=some v):a.tmps.getD t undef=v:=by
 induction gs with
 | nil=>simp [EH] at ak
 | cons p r ba=>
   simp only [EH] at ak
   cases ah:Nat.beq p.t t && ym cur p.j p.want with
   | true=>
     rw [ah] at ak
     simp only [Option.some.injEq] at ak
     simp only [Bool.and_eq_true] at ah
     rw [<-Nat.eq_of_beq_eq_true ah.1,<-ak]
     exact h.1 (Yp hc ah.2)
   | false=>rw [ah] at ak;exact ba h.2 ak
def hB (a_:List (Nat × Value)) (gs:List gj) (cur:List (Nat × Bool)):Operand->Option Value
 | .const v=>some v
 | .global g=>some (.pointer (some ⟨g,0,none⟩))
 | .tmp t=>match eo a_ t with
   | some v=>some v
   | none=>EH gs cur t
 | .func _=>none
theorem JA {n:cI} {a_:List (Nat × Value)} {gs:List gj} {cur:List (Nat × Bool)} {a:Act} (af:Fr n a_ a) (aw:k3 a gs) (hc:iN a cur) {x:Operand} {v:Value} (h:hB a_ gs cur x=some v):a.eval x=v:=by
 cases x with
 | const u=>simp only [hB,Option.some.injEq] at h;rw [<-h];rfl
 | global g=>simp only [hB,Option.some.injEq] at h;rw [<-h];rfl
 | func f=>simp [hB] at h
 | tmp t=>
   simp only [hB] at h
   cases ak:eo a_ t with
   | some u=>rw [ak] at h;simp only [Option.some.injEq] at h;rw [<-h];exact af.g ak
   | none=>rw [ak] at h;exact asJ aw hc h
def BH (a_:List (Nat × Value)) (gs:List gj) (cur:List (Nat × Bool)):List Operand->Option (List Value)
 | []=>some []
 | x::r=>match hB a_ gs cur x,BH a_ gs cur r with
   | some v,some vs=>some (v::vs)
   | _,_=>none
theorem Q6 {n:cI} {a_:List (Nat × Value)} {gs:List gj} {cur:List (Nat × Bool)} {a:Act} (af:Fr n a_ a) (aw:k3 a gs) (hc:iN a cur):∀ {xs:List Operand} {vs:List Value},BH a_ gs cur xs=some vs->xs.map a.eval=vs
 | [],vs,h=>by simp only [BH,Option.some.injEq] at h;subst h;rfl
 | x::r,vs,h=>by
   simp only [BH] at h
   split at h
   · rename_i v us I aa
     simp only [Option.some.injEq] at h
     subst h
     rw [List.map_cons,JA af aw hc I,Q6 af aw hc aa]
   · cases h
def Et:Operand->Bool
 | .const (.int _ n)=>n != 0
 | _=>false
def k_:IntKind->IntKind->Bool
 | .i64,.i64 | .u8,.u8 | .i32,.i32 | .u64,.u64 | .u32,.u32 | .u16,.u16 | .i16,.i16 | .i8,.i8=>true
 | _,_=>false
theorem m8 {j k:IntKind} (h:k_ j k=true):j=k:=by cases j <;> cases k <;> simp_all [k_]
def ku (k:IntKind):Bool:=k_ k .i64
theorem kv {k:IntKind} (h:ku k=true):k= .i64:=m8 h
def Vz (m9:Option lJ) (gL:Bool) (op:BinOp) (j k:IntKind) (m n:Int):Option Value:=
 match op with
 | .add=>match ku j && ku k with | true=>some (.int .i64 (aE (m+n))) | false=>none
 | .sub=>match ku j && ku k with | true=>some (.int .i64 (aE (m - n))) | false=>none
 | .mul=>match ku j && ku k with | true=>some (.int .i64 (aE (m*n))) | false=>none
 | .quo=>match ku j && ku k && gL with | true=>some (.int .i64 (aE (m.tdiv n))) | false=>none
 | .rem=>match ku j && ku k && gL with | true=>some (.int .i64 (m.tmod n)) | false=>none
 | .or=>match ku j && ku k with | true=>some (.int .i64 (Q9 m n)) | false=>none
 | .and=>match ku j && ku k with | true=>some (.int .i64 (Mb m n)) | false=>none
 | .lss=>match k_ j k with | true=>some (.bool (decide (m <n))) | false=>none
 | .leq=>match k_ j k with | true=>some (.bool (decide (m<=n))) | false=>none
 | .gtr=>match k_ j k with | true=>some (.bool (decide (n <m))) | false=>none
 | .geq=>match k_ j k with | true=>some (.bool (decide (n<=m))) | false=>none
 | .eql=>match m9 with
   | some (.i i)=>match k_ i j && k_ j k with | true=>some (.bool (decide (m=n))) | false=>none
   | _=>none
 | .neq=>match m9 with
   | some (.i i)=>match k_ i j && k_ j k with | true=>some (.bool (!decide (m=n))) | false=>none
   | _=>none
 | _=>none
def VA (m9:Option lJ) (op:BinOp) (p q:List UInt8):Option Value:=
 match op,m9 with
 | .eql,some .s=>some (.bool (decide (p=q)))
 | .neq,some .s=>some (.bool (!decide (p=q)))
 | _,_=>none
def Vy (m9:Option lJ) (op:BinOp) (p q:Bool):Option Value:=
 match op,m9 with
 | .eql,some .b=>some (.bool (p == q))
 | .neq,some .b=>some (.bool (!(p == q)))
 | _,_=>none
def bin (m9:Option lJ) (gL:Bool) (op:BinOp):Value->Value->Option Value
 | .int j m,.int k n=>Vz m9 gL op j k m n
 | .string ⟨⟨p⟩⟩,.string ⟨⟨q⟩⟩=>VA m9 op p q
 | .bool p,.bool q=>Vy m9 op p q
 | _,_=>none
section
variable {P:Program} {o:Oper} {a:Act} {w:World} {x y:Operand} {t t':TypeId}
theorem VB {m9:Option lJ} (ai:∀ k,m9=some k->k.ok P t) {gL:Bool} (aj:gL=true-> ∀ k n,a.eval y= .int k n->n≠ 0) {op:BinOp} {u v r:Value} (h:bin m9 gL op u v=some r) (ap:o.op= .binOp op t x y t') (ad:a.eval x=u) (hy:a.eval y=v):bd P o a w r w:=by
 unfold bin at h
 split at h
 · rename_i j m k n
   unfold Vz at h
   split at h
   case h_1=>
    split at h
    · rename_i ah
      simp only [Bool.and_eq_true] at ah
      obtain ⟨I,aa⟩:=ah
      have I:=kv I;have aa:=kv aa
      subst I;subst aa
      simp only [Option.some.injEq] at h
      subst h
      exact aBA ap ad hy
    · cases h
   case h_2=>
    split at h
    · rename_i ah
      simp only [Bool.and_eq_true] at ah
      obtain ⟨I,aa⟩:=ah
      have I:=kv I;have aa:=kv aa
      subst I;subst aa
      simp only [Option.some.injEq] at h
      subst h
      exact aB7 ap ad hy
    · cases h
   case h_3=>
    split at h
    · rename_i ah
      simp only [Bool.and_eq_true] at ah
      obtain ⟨I,aa⟩:=ah
      have I:=kv I;have aa:=kv aa
      subst I;subst aa
      simp only [Option.some.injEq] at h
      subst h
      exact aBW ap ad hy
    · cases h
   case h_4=>
    split at h
    · rename_i ah
      simp only [Bool.and_eq_true] at ah
      obtain ⟨⟨I,aa⟩,aq⟩:=ah
      have I:=kv I;have aa:=kv aa
      subst I;subst aa
      simp only [Option.some.injEq] at h
      subst h
      have b2:=aj aq _ _ hy
      exact agN ap ad hy (by rw [Bool.not_eq_true',decide_eq_false_iff_not];exact b2)
    · cases h
   case h_5=>
    split at h
    · rename_i ah
      simp only [Bool.and_eq_true] at ah
      obtain ⟨⟨I,aa⟩,aq⟩:=ah
      have I:=kv I;have aa:=kv aa
      subst I;subst aa
      simp only [Option.some.injEq] at h
      subst h
      have b2:=aj aq _ _ hy
      exact agO ap ad hy (by rw [Bool.not_eq_true',decide_eq_false_iff_not];exact b2)
    · cases h
   case h_6=>
    split at h
    · rename_i ah
      simp only [Bool.and_eq_true] at ah
      obtain ⟨I,aa⟩:=ah
      have I:=kv I;have aa:=kv aa
      subst I;subst aa
      simp only [Option.some.injEq] at h
      subst h
      exact aB1 ap ad hy
    · cases h
   case h_7=>
    split at h
    · rename_i ah
      simp only [Bool.and_eq_true] at ah
      obtain ⟨I,aa⟩:=ah
      have I:=kv I;have aa:=kv aa
      subst I;subst aa
      simp only [Option.some.injEq] at h
      subst h
      exact aBB ap ad hy
    · cases h
   case h_8=>
    split at h
    · rename_i ah
      have ah:=m8 ah
      subst ah
      simp only [Option.some.injEq] at h
      subst h
      exact aBT ap ad hy
    · cases h
   case h_9=>
    split at h
    · rename_i ah
      have ah:=m8 ah
      subst ah
      simp only [Option.some.injEq] at h
      subst h
      exact aBS ap ad hy
    · cases h
   case h_10=>
    split at h
    · rename_i ah
      have ah:=m8 ah
      subst ah
      simp only [Option.some.injEq] at h
      subst h
      exact aBO ap ad hy
    · cases h
   case h_11=>
    split at h
    · rename_i ah
      have ah:=m8 ah
      subst ah
      simp only [Option.some.injEq] at h
      subst h
      exact aBN ap ad hy
    · cases h
   case h_12=>
    split at h
    · rename_i i
      have hi:=ai _ rfl
      split at h
      · rename_i ah
        simp only [Bool.and_eq_true] at ah
        have I:=m8 ah.1;have aa:=m8 ah.2
        subst I;subst aa
        simp only [Option.some.injEq] at h
        subst h
        exact aBL hi ap ad hy
      · cases h
    · cases h
   case h_13=>
    split at h
    · rename_i i
      have hi:=ai _ rfl
      split at h
      · rename_i ah
        simp only [Bool.and_eq_true] at ah
        have I:=m8 ah.1;have aa:=m8 ah.2
        subst I;subst aa
        simp only [Option.some.injEq] at h
        subst h
        exact aBY hi ap ad hy
      · cases h
    · cases h
   case h_14=>cases h
 · rename_i p q
   unfold VA at h
   split at h
   · simp only [Option.some.injEq] at h
     subst h
     exact aBM (ai _ rfl) ap ad hy
   · simp only [Option.some.injEq] at h
     subst h
     exact aBZ (ai _ rfl) ap ad hy
   · cases h
 · rename_i p q
   unfold Vy at h
   split at h
   · simp only [Option.some.injEq] at h
     subst h
     exact aBK (ai _ rfl) ap ad hy
   · simp only [Option.some.injEq] at h
     subst h
     exact aBX (ai _ rfl) ap ad hy
   · cases h
 · cases h
end
end av
namespace av
open Go Go.RowKit J
def nth {α:Type}:List α->Nat->Option α
 | [],_=>none
 | x::_,0 =>some x
 | _::r,i+ 1 =>nth r i
theorem cU {α:Type}:∀ (l:List α) (i:Nat),nth l i=l[i]?
 | [],i=>by simp [nth]
 | x::r,0 =>rfl
 | x::r,i+ 1 =>by simp [nth,cU r i]
def PW:Operand->Bool
 | .const (.bool b)=>b
 | _=>false
def PT:Operand->Bool
 | .const (.bool b)=>!b
 | _=>false
def JE (x y:Operand) (b:Bool):Value->Value->Option Value
 | .bool p,.bool q=>match PW x with
   | true=>some (.bool (b || q))
   | false=>match PT y with
     | true=>some (.bool (b && p))
     | false=>some (.bool (cond b p q))
 | .int j m,.int k n=>match k_ j k with
   | true=>some (.int j (cond b m n))
   | false=>none
 | .string ⟨⟨p⟩⟩,.string ⟨⟨q⟩⟩=>some (cg (cond b p q))
 | _,_=>none
theorem aq6 {a:Act} {x:Operand} (h:PW x=true):a.eval x= .bool true:=by
 unfold PW at h
 split at h
 · subst h;rfl
 · cases h
theorem aq2 {a:Act} {x:Operand} (h:PT x=true):a.eval x= .bool false:=by
 unfold PT at h
 split at h
 · rename_i b
   have:b=false:=by simpa using h
   subst this;rfl
 · cases h
theorem aaP {a:Act} {x y:Operand} {b:Bool} {u v r:Value} (h:JE x y b u v=some r) (ad:b=true->a.eval x=u) (hy:b=false->a.eval y=v):(if b then a.eval x else a.eval y)=r:=by
 unfold JE at h
 split at h
 · rename_i p q
   split at h
   · rename_i aJ
     simp only [Option.some.injEq] at h
     subst h
     cases b with
     | true=>rw [if_pos rfl,aq6 aJ];rfl
     | false=>rw [if_neg (by simp),hy rfl];rfl
   · split at h
     · rename_i af
       simp only [Option.some.injEq] at h
       subst h
       cases b with
       | true=>rw [if_pos rfl,ad rfl];rfl
       | false=>rw [if_neg (by simp),aq2 af];rfl
     · simp only [Option.some.injEq] at h
       subst h
       cases b with
       | true=>rw [if_pos rfl,ad rfl];rfl
       | false=>rw [if_neg (by simp),hy rfl];rfl
 · split at h
   · rename_i ai
     have:=m8 ai
     subst this
     simp only [Option.some.injEq] at h
     subst h
     cases b with
     | true=>rw [if_pos rfl,ad rfl];rfl
     | false=>rw [if_neg (by simp),hy rfl];rfl
   · cases h
 · simp only [Option.some.injEq] at h
   subst h
   cases b with
   | true=>rw [if_pos rfl,ad rfl];rfl
   | false=>rw [if_neg (by simp),hy rfl];rfl
 · cases h
abbrev Out:=Value × List Nat × List (Nat × Nat)
def jY (ao:List Nat) (v:Value):Option Out:=some (v,ao,[])
def AO (G:kP) (M:List (Nat × Nat × List Value)) (t m rel:Nat) (ao:List Nat) (E0 cY:Nat):Option Out:=
 match nth M m,nb G.Fu t with
 | some (b,off,cs),some none=>match nth cs rel with
   | some v=>some (v,ao,[(E0,b),(cY,off+rel)])
   | none=>none
 | some (b,off,cs),some (some n)=>match Nat.ble (rel+n) cs.length with
   | true=>some (.agg ((cs.drop rel).take n).toArray,ao,[(E0,b),(cY,off+rel)])
   | false=>none
 | _,_=>none
def Xs (G:kP) (s d:Nat) (ao:List Nat):Value->Option Out
 | .int k m=>match ku k,nb G.mx s,nb G.mx d with
   | true,some (.i .i64),some (.i .i64)=>jY ao (.int .i64 (aE m))
   | true,some (.i .i64),some (.i .u8)=>jY ao (.int .u8 ((kl m).toNat:Int))
   | _,_,_=>none
 | _=>none
def Xu (G:kP) (t:Nat) (ao:List Nat):Value->Option Out
 | .string ⟨⟨p⟩⟩=>match nb G.mx t with
   | some .s=>jY ao (.int .i64 (p.length:Int))
   | _=>none
 | .slice _ n _=>match nb G.mx t with
   | some .cf=>jY ao (.int .i64 (n:Int))
   | _=>none
 | _=>none
def Xw (a_:List (Nat × Value)) (gs:List gj) (cur:List (Nat × Bool)) (c x y:Operand):List Nat->Option Out
 | 0 ::ao=>match c with
   | .tmp kK=>match hB a_ gs cur (.tmp kK),hB a_ gs ((kK,true)::cur) x,hB a_ gs ((kK,false)::cur) y with
     | some (.bool b),some u,some v=>match JE x y b u v with
       | some r=>jY ao r
       | none=>none
     | _,_,_=>none
   | _=>none
 | _::ao=>match hB a_ gs cur c with
   | some (.bool b)=>match b with
     | true=>match hB a_ gs cur x with | some v=>jY ao v | none=>none
     | false=>match hB a_ gs cur y with | some v=>jY ao v | none=>none
   | _=>none
 | []=>none
def sg (G:kP) (M:List (Nat × Nat × List Value)) (ao:List Nat) (a_:List (Nat × Value)) (gs:List gj) (cur:List (Nat × Bool)):Op->Option Out
 | .move x=>match hB a_ gs cur x with | some v=>jY ao v | none=>none
 | .assign x=>match hB a_ gs cur x with | some v=>jY ao v | none=>none
 | .pick c x y=>Xw a_ gs cur c x y ao
 | .binOp op t x y _=>match hB a_ gs cur x,hB a_ gs cur y with
   | some u,some v=>match bin (nb G.mx t) (Et y) op u v with
     | some r=>jY ao r
     | none=>none
   | _,_=>none
 | .unOp .not _ x=>match hB a_ gs cur x with
   | some (.bool p)=>jY ao (.bool (!p))
   | _=>none
 | .convert s d x=>match hB a_ gs cur x with
   | some v=>Xs G s d ao v
   | none=>none
 | .load t x=>match hB a_ gs cur x,ao with
   | some (.pointer (some ⟨E0,cY,none⟩)),m::rel::b'=>AO G M t m rel b' E0 cY
   | _,_=>none
 | .fieldAddr s x j=>match hB a_ gs cur x,EG G.mP s j with
   | some (.pointer (some ⟨b,p,none⟩)),some off=>jY ao (.pointer (some ⟨b,p+off,none⟩))
   | _,_=>none
 | .nilCheck x=>match hB a_ gs cur x with
   | some (.pointer (some p))=>jY ao (.pointer (some p))
   | _=>none
 | .extract x i=>match hB a_ gs cur x with
   | some (.tuple ⟨vs⟩)=>match nth vs i with
     | some v=>jY ao v
     | none=>none
   | _=>none
 | .makeFunc fn ⟨xs⟩ ⟨ys⟩=>match BH a_ gs cur xs,BH a_ gs cur ys with
   | some us,some vs=>jY ao (.func fn us.toArray vs.toArray)
   | _,_=>none
 | .call ⟨.builtin .len,⟨[x]⟩,⟨[t]⟩⟩=>match hB a_ gs cur x with
   | some v=>Xu G t ao v
   | none=>none
 | _=>none
theorem k9 {ao b':List Nat} {u v:Value} {l:List (Nat × Nat)} (h:jY ao u=some (v,b',l)):u=v:=by
 simp only [jY,Option.some.injEq,Prod.mk.injEq] at h
 exact h.1
def lV:List (Nat × Nat)->Prop
 | []=>True
 | p::r=>p.1 =p.2 /\lV r
section
variable {P:Program} {G:kP} {M:List (Nat × Nat × List Value)} {w:World} {a:Act} {o:Oper}
theorem Xr {n:cI} {a_:List (Nat × Value)} {gs:List gj} {cur:List (Nat × Bool)} {ao b':List Nat} {v:Value} {l:List (Nat × Nat)} (en:qf P G) (eC:i_ w M) (af:Fr n a_ a) (aw:k3 a gs) (hc:iN a cur)
 {op:Op} (ap:o.op=op) (h:sg G M ao a_ gs cur op=some (v,b',l)) (ak:lV l):bd P o a w v w:=by
 have opn:∀ {x:Operand} {u:Value},hB a_ gs cur x=some u->a.eval x=u:=fun ad=>JA af aw hc ad
 unfold sg at h
 split at h
 · split at h
   · rename_i ad
     rw [<-k9 h];exact agK ap (opn ad)
   · cases h
 · split at h
   · rename_i ad
     rw [<-k9 h];exact agD ap (opn ad)
   · cases h
 · rename_i c x y
   unfold Xw at h
   split at h
   · split at h
     · rename_i kK
       split at h
       · rename_i b u fh I aa aq
         split at h
         · rename_i r ay
           rw [<-k9 h]
           have jS:a.eval (.tmp kK)= .bool b:=opn I
           have ad:b=true->a.eval x=u:=fun ah=>JA af aw (show iN a ((kK,true)::cur) from ⟨by subst ah;exact jS,hc⟩) aa
           have hy:b=false->a.eval y=fh:=fun ah=>JA af aw (show iN a ((kK,false)::cur) from ⟨by subst ah;exact jS,hc⟩) aq
           have aD:=aaP (a:=a) ay ad hy
           cases b with
           | true=>exact LH ap jS (by simpa using aD)
           | false=>exact LG ap jS (by simpa using aD)
         · cases h
       · cases h
     · cases h
   · split at h
     · rename_i b I
       split at h
       · split at h
         · rename_i u aa
           rw [<-k9 h];exact LH ap (opn I) (opn aa)
         · cases h
       · split at h
         · rename_i u aa
           rw [<-k9 h];exact LG ap (opn I) (opn aa)
         · cases h
     · cases h
   · cases h
 · rename_i op t x y t'
   split at h
   · rename_i u fh I aa
     split at h
     · rename_i r ay
       rw [<-k9 h]
       refine VB (fun k ai=>zC en.mx ai) (fun aj k n aA=>?_) ay ap (opn I) (opn aa)
       unfold Et at aj
       split at aj
       · rename_i k' fD
         have:a.eval (.const (.int k' fD))= .int k' fD:=rfl
         rw [this] at aA
         injection aA with _ e
         subst e
         simpa using aj
       · cases aj
     · cases h
   · cases h
 · rename_i x
   split at h
   · rename_i p I
     rw [<-k9 h];exact agM ap (opn I)
   · cases h
 · rename_i s d x
   split at h
   · rename_i u I
     unfold Xs at h
     split at h
     · rename_i k m
       split at h
       · rename_i aa aq a'
         have:=kv aa
         subst this
         rw [<-k9 h];exact aBF (zC en.mx aq) (zC en.mx a') ap (opn I)
       · rename_i aa aq a'
         have:=kv aa
         subst this
         rw [<-k9 h];exact aBG (zC en.mx aq) (zC en.mx a') ap (opn I)
       · cases h
     · cases h
   · cases h
 · rename_i t x
   split at h
   · rename_i E0 cY m rel iV I
     have ad:=opn I
     unfold AO at h
     split at h
     · rename_i b off cs aa aq
       split at h
       · rename_i u a'
         simp only [Option.some.injEq,Prod.mk.injEq] at h
         obtain ⟨rfl,_,rfl⟩:=h
         obtain ⟨e1,e2,_⟩:=ak
         simp only at e1 e2
         subst e1;subst e2
         rw [cU] at aa a'
         exact UF (ab8 en.Fu aq) ap ad (Z3 eC aa rel u a')
       · cases h
     · rename_i b off cs k aa aq
       split at h
       · rename_i ah
         simp only [Option.some.injEq,Prod.mk.injEq] at h
         obtain ⟨rfl,_,rfl⟩:=h
         obtain ⟨e1,e2,_⟩:=ak
         simp only at e1 e2
         subst e1;subst e2
         rw [cU] at aa
         have ao:=ab8 en.Fu aq
         have hle:=Nat.le_of_ble_eq_true ah
         refine agJ ao.1 ao.2 (by simp;omega) ap ad (fun j u aC=>?_)
         have pt:=Z3 eC aa
         rw [List.getElem?_take] at aC
         split at aC
         · rw [List.getElem?_drop] at aC
           have:=pt (rel+j) u aC
           simpa [Nat.add_assoc] using this
         · cases aC
       · cases h
     · cases h
   · cases h
 · rename_i s x j
   split at h
   · rename_i b p off I aa
     rw [<-k9 h]
     obtain ⟨cq,f,sz,dH,bB,fI,iP,an_⟩:=anW en.mP aa
     rw [<-fI]
     exact agF dH bB an_ (by cases aN:Nat.beq sz 0 with | false=>rfl | true=>exact absurd (Nat.eq_of_beq_eq_true aN) iP) ap (opn I)
   · cases h
 · rename_i x
   split at h
   · rename_i p I
     rw [<-k9 h];exact agL ap (opn I)
   · cases h
 · rename_i x i
   split at h
   · rename_i vs I
     split at h
     · rename_i u aa
       rw [<-k9 h]
       rw [cU] at aa
       exact agE (vs:=vs) ap (opn I) aa
     · cases h
   · cases h
 · rename_i fn xs ys
   split at h
   · rename_i us vs I aa
     rw [<-k9 h]
     have e1:=Q6 af aw hc I
     have e2:=Q6 af aw hc aa
     simp only [bd,execOp,ap,Instr.makeFunc]
     rw [show (Array.map a.eval ⟨xs⟩)=us.toArray by rw [<-e1];simp,show (Array.map a.eval ⟨ys⟩)=vs.toArray by rw [<-e2];simp]
     rfl
   · cases h
 · rename_i x t
   split at h
   · rename_i u I
     unfold Xu at h
     split at h
     · split at h
       · rename_i aa
         rw [<-k9 h];exact agI (zC en.mx aa) ap (opn I)
       · cases h
     · split at h
       · rename_i aa
         rw [<-k9 h]
         obtain ⟨e,he⟩:=zC en.mx aa
         exact agH he ap (opn I)
       · cases h
     · cases h
   · cases h
 · cases h
end
end av
namespace av
open Go Go.RowKit J
def Dr (ops:Array Oper) (j:Nat):Option Nat:=match nth ops.toList j with
 | some o=>o.dst
 | none=>none
theorem Yb {ops:Array Oper} {j br:Nat} (h:Dr ops j=some br):(ops[j]?).bind (·.dst)=some br:=by
 unfold Dr at h
 rw [cU,Array.getElem?_toList] at h
 split at h
 · rename_i o ap
   rw [ap];exact h
 · cases h
abbrev akK:=List (Nat × Value) × List gj × List (Nat × Nat)
def b6 (G:kP) (ops:Array Oper) (n:Nat) (M:List (Nat × Nat × List Value)):List Oper->List Nat->List (Nat × Value)->List gj->List (Nat × Nat)->Option akK
 | [],_,a_,gs,l=>some (a_,gs,l)
 | o::rest,ao,a_,gs,l=>match o.dst with
   | none=>none
   | some d=>match Nat.blt d n with
     | false=>none
     | true=>match o.guard with
       | none=>match sg G M ao a_ gs [] o.op with
         | some (v,b',l')=>b6 G ops n M rest b' ((d,v)::a_) (p1 gs d) (l'++l)
         | none=>none
       | some (j,want)=>match Dr ops j with
         | none=>none
         | some br=>match Nat.blt br n with
           | false=>none
           | true=>match ao with
             | 0 ::b'=>match Nat.beq br d with
               | true=>none
               | false=>match sg G M b' a_ gs [(br,want)] o.op with
                 | some (v,iV,l')=>b6 G ops n M rest iV (zv a_ d) (⟨d,br,want,v⟩::p1 gs d) (l'++l)
                 | none=>none
             | _::b'=>match eo a_ br with
               | some (.bool b)=>match b == want with
                 | true=>match sg G M b' a_ gs [] o.op with
                   | some (v,iV,l')=>b6 G ops n M rest iV ((d,v)::a_) (p1 gs d) (l'++l)
                   | none=>none
                 | false=>b6 G ops n M rest b' ((d,undef)::a_) (p1 gs d) l
               | some (.tuple ⟨[]⟩)=>b6 G ops n M rest b' ((d,undef)::a_) (p1 gs d) l
               | _=>none
             | []=>none
def AI (a_:List (Nat × Value)):List Nat->Option (List (Nat × Value))
 | []=>some []
 | t::r=>match eo a_ t,AI a_ r with
   | some v,some vs=>some ((t,v)::vs)
   | _,_=>none
def dup (l:List Nat):List (Nat × Nat):=l.map fun x=>(x,x)
def k1 (G:kP) (ops:Array Oper) (n:Nat) (M:List (Nat × Nat × List Value)) (os:List Oper) (ao:List Nat) (a_:List (Nat × Value)) (ff:List Nat):Option (List (Nat × Value) × List (Nat × Nat)):=
 match b6 G ops n M os ao a_ [] [] with
 | some (fr',_,l)=>match AI fr' ff with
   | some k=>some (k,l)
   | none=>none
 | none=>none
theorem Hs:∀ l:List Nat,lV (dup l)
 | []=>trivial
 | x::r=>⟨rfl,Hs r⟩
theorem uN:∀ {l l':List (Nat × Nat)},lV (l++l')->lV l/\lV l'
 | [],_,h=>⟨trivial,h⟩
 | _::_,_,h=>⟨⟨h.1,(uN h.2).1⟩,(uN h.2).2⟩
theorem Mv {a_:List (Nat × Value)}:∀ {ff:List Nat} {k:List (Nat × Value)},AI a_ ff=some k->FI a_ k
 | [],k,h=>by simp only [AI,Option.some.injEq] at h;subst h;trivial
 | t::r,k,h=>by
   simp only [AI] at h
   split at h
   · rename_i v vs I aa
     simp only [Option.some.injEq] at h
     subst h
     exact ⟨I,Mv aa⟩
   · cases h
theorem auv {a:Act} {n:cI} {d:Nat} {v:Value} (ao:a.tmps.size=n) (aL:Nat.blt d n=true):(a.put (some d) v).tmps.getD d undef=v:=by
 have bs:d <n:=Nat.le_of_ble_eq_true aL
 simp [Act.put,ao,bs]
theorem JN {a:Act} {d t:Nat} {v:Value} (h:t≠d):(a.put (some d) v).tmps.getD t undef=a.tmps.getD t undef:=by
 simp only [Act.put,Array.getD_eq_getD_getElem?]
 rw [Array.getElem?_setIfInBounds,if_neg (fun e=>h e.symm)]
theorem uS {a:Act} {d:Nat} {v:Value}:∀ {gs:List gj},k3 a gs->k3 (a.put (some d) v) (p1 gs d)
 | [],_=>trivial
 | p::r,h=>by
   simp only [p1]
   cases ah:Nat.beq p.t d || Nat.beq p.j d with
   | true=>exact uS h.2
   | false=>
     simp only [Bool.or_eq_false_iff] at ah
     have I:p.t≠d:=fun e=>by rw [e] at ah;simp at ah
     have aa:p.j≠d:=fun e=>by rw [e] at ah;simp at ah
     refine ⟨?_,uS h.2⟩
     rw [JN I,JN aa];exact h.1
theorem Qs {d t:Nat} {v:Value}:∀ {a_:List (Nat × Value)},eo (zv a_ d) t=some v->t≠d/\eo a_ t=some v
 | [],h=>by simp [zv,eo] at h
 | p::r,h=>by
   simp only [zv] at h
   cases ah:Nat.beq p.1 d with
   | true=>
     rw [ah] at h
     obtain ⟨I,aa⟩:=Qs h
     refine ⟨I,?_⟩
     have e:=Nat.eq_of_beq_eq_true ah
     simp only [eo]
     cases hc:Nat.beq p.1 t with
     | true=>exact absurd ((Nat.eq_of_beq_eq_true hc).symm.trans e) I
     | false=>exact aa
   | false=>
     rw [ah] at h
     simp only [eo] at h ⊢
     cases hc:Nat.beq p.1 t with
     | true=>
       rw [hc] at h
       refine ⟨fun e=>?_,h⟩
       rw [Nat.eq_of_beq_eq_true hc,e] at ah
       simp at ah
     | false=>
       rw [hc] at h
       exact Qs h
theorem Fr.J7 {n:cI} {d:Nat} {a_:List (Nat × Value)} {a:Act} {v:Value} (af:Fr n a_ a):Fr n (zv a_ d) (a.put (some d) v):=
 ⟨by simpa [Act.put] using af.size,af.defers,fun t u h=>by obtain ⟨I,aa⟩:=Qs h;rw [JN I];exact af.get t u aa⟩
def Bl:Op->Bool
 | .load _ _=>true
 | _=>false
theorem anq {G:kP} {M:List (Nat × Nat × List Value)} {ao:List Nat} {a_:List (Nat × Value)} {gs:List gj} {cur:List (Nat × Bool)} {op:Op} (h:Bl op=false):sg G M ao a_ gs cur op=sg G [] ao a_ gs cur op:=by
 cases op with
 | load t x=>simp [Bl] at h
 | unOp u t x=>cases u <;> rfl
 | call c=>
   unfold sg
   split <;> first | rfl | (rename_i e;cases e;done) | (rename_i e;cases e;rfl)
 | _=>rfl
theorem MQ {P:Program} {G:kP} {M:List (Nat × Nat × List Value)} {C:World->Prop} {a:Act} {o:Oper} {n:cI} {a_:List (Nat × Value)} {gs:List gj} {cur:List (Nat × Bool)} {ao b':List Nat} {v:Value} {l:List (Nat × Nat)} (en:qf P G) (eC:∀ w,C w->i_ w M) (af:Fr n a_ a) (aw:k3 a gs) (hc:iN a cur)
 (h:sg G M ao a_ gs cur o.op=some (v,b',l)) (ak:lV l):(∀ w,C w->bd P o a w v w)/\(Bl o.op=false-> ∀ w,bd P o a w v w):=
 ⟨fun w hr=>Xr en (eC w hr) af aw hc rfl h ak,fun aA w=>Xr en (M:=[]) trivial af aw hc rfl (by rw [<-anq aA];exact h) ak⟩
theorem ac1 {ops:Array Oper} {o:Oper} {a:Act} {n:cI} {l:List (Nat × Value)} {j br:Nat} {want:Bool} (af:Fr n l a) (aw:o.guard=some (j,want)) (aC:(ops[j]?).bind (·.dst)=some br) (aA:Nat.blt br n=true) :
 Region.wanted o (yielded ops a.tmps)=true ↔ a.tmps.getD br undef= .bool want:=by
 have bs:br <n:=Nat.le_of_ble_eq_true aA
 have ao:=af.size
 have aa:a.tmps[br]? =some (a.tmps.getD br undef):=by
  rw [Array.getElem?_eq_getElem (by omega)]
  simp [Array.getD_eq_getD_getElem?,ao,bs]
 simp only [Region.wanted,aw,yielded,aC,Option.bind_some,aa,beq_iff_eq]
 constructor
 · intro h
   split at h
   · rename_i b ah
     simp only [Option.some.injEq] at h ah
     rw [ah,h]
   · cases h
 · intro h
   rw [h]
def akQ (P:Program) (ops:Array Oper) (C:World->Prop) (o:Oper) (d:Nat) (a:Act) (u:Value):Prop:=
 o.dst=some d/\((Region.wanted o (yielded ops a.tmps)=true/\(∀ w,C w->bd P o a w u w)/\(Bl o.op=false-> ∀ w,bd P o a w u w))\/(Region.wanted o (yielded ops a.tmps)=false/\u=undef))
section
variable {P:Program} {G:kP} {ops:Array Oper} {n:cI} {M:List (Nat × Nat × List Value)} {C:World->Prop}
theorem Na (en:qf P G) (eC:∀ w,C w->i_ w M) {o:Oper} {rest:List Oper} {ao:List Nat} {a_:List (Nat × Value)} {gs:List gj} {l kz:List (Nat × Nat)} {fH:List (Nat × Value)} {kr:List gj} {a:Act}
 (af:Fr n a_ a) (aw:k3 a gs) (h:b6 G ops n M (o::rest) ao a_ gs l=some (fH,kr,kz)) (aj:lV kz)
 (Pj:∀ {os:List Oper} {ao:List Nat} {a_:List (Nat × Value)} {gs:List gj} {l:List (Nat × Nat)},b6 G ops n M os ao a_ gs l=some (fH,kr,kz)->lV l) :
 ∃ d u b' fr' yh l',akQ P ops C o d a u/\Fr n fr' (a.put (some d) u)/\k3 (a.put (some d) u) yh/\b6 G ops n M rest b' fr' yh l'=some (fH,kr,kz):=by
 rw [b6] at h
 split at h
 · cases h
 · rename_i d aL
   split at h
   · cases h
   · rename_i aA
     split at h
     · rename_i il
       split at h
       · rename_i v b' l' I
         have he:=(uN (Pj h)).1
         exact ⟨d,v,b',_,_,_,⟨aL,.inl ⟨KA il,MQ (cur:=[]) en eC af aw trivial I he⟩⟩,af.put aA,uS aw,h⟩
       · cases h
     · rename_i j want il
       split at h
       · cases h
       · rename_i br qN
         have yq:=Yb qN
         split at h
         · cases h
         · rename_i D8
           split at h
           · rename_i b'
             split at h
             · cases h
             · rename_i b2
               split at h
               · rename_i v iV l' I
                 have he:=(uN (Pj h)).1
                 have Pl:br≠d:=fun e=>by rw [e] at b2;simp at b2
                 by_cases H5:a.tmps.getD br undef= .bool want
                 · refine ⟨d,v,iV,_,_,_,⟨aL,.inl ⟨(ac1 af il yq D8).2 H5,MQ (cur:=[(br,want)]) en eC af aw ⟨H5,trivial⟩ I he⟩⟩,af.J7,(show k3 (a.put (some d) v) (⟨d,br,want,v⟩::p1 gs d) from ⟨fun _=>auv af.size aA,uS aw⟩),h⟩
                 · refine ⟨d,undef,iV,_,_,_,⟨aL,.inr ⟨by rw [Bool.eq_false_iff];exact fun hw=>H5 ((ac1 af il yq D8).1 hw),rfl⟩⟩,af.J7,(show k3 (a.put (some d) undef) (⟨d,br,want,v⟩::p1 gs d) from ⟨fun ad=>?_,uS aw⟩),h⟩
                   simp only at ad
                   rw [JN Pl] at ad
                   exact absurd ad H5
               · cases h
           · rename_i q b' aQ
             split at h
             · rename_i b ah
               split at h
               · rename_i sr
                 have sr:b=want:=by simpa using sr
                 subst sr
                 split at h
                 · rename_i v iV l' I
                   have he:=(uN (Pj h)).1
                   exact ⟨d,v,iV,_,_,_,⟨aL,.inl ⟨ayi af il yq ah D8,MQ (cur:=[]) en eC af aw trivial I he⟩⟩,af.put aA,uS aw,h⟩
                 · cases h
               · rename_i sr
                 exact ⟨d,undef,b',_,_,_,⟨aL,.inr ⟨ayh af il yq ah sr D8,rfl⟩⟩,af.put aA,uS aw,h⟩
             · rename_i ah
               exact ⟨d,undef,b',_,_,_,⟨aL,.inr ⟨ayj af il yq ah D8,rfl⟩⟩,af.put aA,uS aw,h⟩
             · cases h
           · cases h
theorem uO {fH:List (Nat × Value)} {kr:List gj} {kz:List (Nat × Nat)} (aj:lV kz):∀ {os:List Oper} {ao:List Nat} {a_:List (Nat × Value)} {gs:List gj} {l:List (Nat × Nat)},b6 G ops n M os ao a_ gs l=some (fH,kr,kz)->lV l
 | [],ao,a_,gs,l,h=>by
   simp only [b6,Option.some.injEq,Prod.mk.injEq] at h
   rw [h.2.2];exact aj
 | o::rest,ao,a_,gs,l,h=>by
   rw [b6] at h
   split at h
   · cases h
   · split at h
     · cases h
     · split at h
       · split at h
         · exact (uN (uO aj h)).2
         · cases h
       · split at h
         · cases h
         · split at h
           · cases h
           · split at h
             · split at h
               · cases h
               · split at h
                 · exact (uN (uO aj h)).2
                 · cases h
             · split at h
               · split at h
                 · split at h
                   · exact (uN (uO aj h)).2
                   · cases h
                 · exact uO aj h
               · exact uO aj h
               · cases h
             · cases h
theorem ab_ {w:World} {Q:Exit->Act->World->Prop} (en:qf P G) (eC:i_ w M) {fH:List (Nat × Value)} {kr:List gj} {kz:List (Nat × Nat)} (aj:lV kz):∀ (k:Nat) {rest:List Oper} {ao:List Nat} {a_:List (Nat × Value)} {gs:List gj} {l:List (Nat × Nat)} {a:Act},
 Fr n a_ a->k3 a gs->b6 G ops n M (rest.take k) ao a_ gs l=some (fH,kr,kz)->(∀ a2,Fr n fH a2->wpList P ops Q (rest.drop k) a2 w)->wpList P ops Q rest a w
 | 0,rest,ao,a_,gs,l,a,af,_,h,ai=>by
   simp only [List.take_zero,b6,Option.some.injEq,Prod.mk.injEq] at h
   have:=ai a (by rw [<-h.1];exact af)
   simpa using this
 | k+ 1,[],ao,a_,gs,l,a,af,_,h,ai=>by
   simp only [List.take_nil,b6,Option.some.injEq,Prod.mk.injEq] at h
   have:=ai a (by rw [<-h.1];exact af)
   simpa using this
 | k+ 1,o::rest,ao,a_,gs,l,a,af,aw,h,ai=>by
   rw [List.take_succ_cons] at h
   obtain ⟨d,u,b',fr',yh,l',⟨aL,fL⟩,dL,fC,h'⟩:=Na (C:=fun w'=>w'=w) en (fun w' e=>by subst e;exact eC) af aw h aj (uO aj)
   have next:=ab_ en eC aj k dL fC h' (by simpa using ai)
   refine wpList_step fun K cP=>?_
   rcases fL with ⟨hw,hy,_⟩ | ⟨hw,rfl⟩
   · rw [if_pos hw]
     unfold Oper.wp
     rw [show (execOp a.eval o).run P w=_ from hy w rfl]
     show K (a.put o.dst u) w
     rw [aL]
     exact cP _ _ next
   · rw [if_neg (by simp [hw]),aL]
     exact cP _ _ next
theorem abb {oW:Act->Prop} (en:qf P G) (eC:∀ w,C w->i_ w M) {fH:List (Nat × Value)} {kr:List gj} {kz:List (Nat × Nat)} (aj:lV kz):∀ (k:Nat) {rest:List Oper} {ao:List Nat} {a_:List (Nat × Value)} {gs:List gj} {l:List (Nat × Nat)} {a:Act},
 Fr n a_ a->k3 a gs->b6 G ops n M (rest.take k) ao a_ gs l=some (fH,kr,kz)->(∀ a2,Fr n fH a2->wpQuiet P ops C oW (rest.drop k) a2)->wpQuiet P ops C oW rest a
 | 0,rest,ao,a_,gs,l,a,af,_,h,ai=>by
   simp only [List.take_zero,b6,Option.some.injEq,Prod.mk.injEq] at h
   have:=ai a (by rw [<-h.1];exact af)
   simpa using this
 | k+ 1,[],ao,a_,gs,l,a,af,_,h,ai=>by
   simp only [List.take_nil,b6,Option.some.injEq,Prod.mk.injEq] at h
   have:=ai a (by rw [<-h.1];exact af)
   simpa using this
 | k+ 1,o::rest,ao,a_,gs,l,a,af,aw,h,ai=>by
   rw [List.take_succ_cons] at h
   obtain ⟨d,u,b',fr',yh,l',⟨aL,fL⟩,dL,fC,h'⟩:=Na (C:=C) en eC af aw h aj (uO aj)
   have next:=abb en eC aj k dL fC h' (by simpa using ai)
   unfold wpQuiet
   rcases fL with ⟨hw,hy,_⟩ | ⟨hw,rfl⟩
   · rw [if_pos hw]
     refine ⟨u,fun w hc=>?_,?_⟩
     · unfold Oper.quietAt
       rw [show (execOp a.eval o).run P w=_ from hy w hc]
       exact ⟨rfl,rfl⟩
     · rw [aL];exact next
   · rw [if_neg (by simp [hw]),aL]
     exact next
theorem Nb {os:List Oper} {ao:List Nat} {a_:List (Nat × Value)} {ff:List Nat} {k:List (Nat × Value)} {L:List (Nat × Nat)} (h:k1 G ops n M os ao a_ ff=some (k,L)):∃ fH kr,b6 G ops n M os ao a_ [] []=some (fH,kr,L)/\FI fH k:=by
 unfold k1 at h
 split at h
 · rename_i fr' yh l I
   split at h
   · rename_i k' aa
     simp only [Option.some.injEq,Prod.mk.injEq] at h
     obtain ⟨rfl,rfl⟩:=h
     exact ⟨fr',yh,I,Mv aa⟩
   · cases h
 · cases h
theorem g0 (k:Nat) (ff ao:List Nat) {w:World} {Q:Exit->Act->World->Prop} {rest:List Oper} {a_ fr':List (Nat × Value)} {L:List Nat} {a:Act} (en:qf P G) (eC:i_ w M) (af:Fr n a_ a) (he:k1 G ops n M (rest.take k) ao a_ ff=some (fr',dup L))
 (next:∀ a2,Fr n fr' a2->wpList P ops Q (rest.drop k) a2 w):wpList P ops Q rest a w:=by
 obtain ⟨fH,kr,I,aa⟩:=Nb he
 exact ab_ (gs:=[]) en eC (Hs L) k af trivial I fun a2 dL=>next a2 (dL.sub aa)
theorem auS (k:Nat) (ff ao:List Nat) {oW:Act->Prop} {rest:List Oper} {a_ fr':List (Nat × Value)} {L:List Nat} {a:Act} (en:qf P G) (eC:∀ w,C w->i_ w M) (af:Fr n a_ a) (he:k1 G ops n M (rest.take k) ao a_ ff=some (fr',dup L))
 (next:∀ a2,Fr n fr' a2->wpQuiet P ops C oW (rest.drop k) a2):wpQuiet P ops C oW rest a:=by
 obtain ⟨fH,kr,I,aa⟩:=Nb he
 exact abb (gs:=[]) en eC (Hs L) k af trivial I fun a2 dL=>next a2 (dL.sub aa)
end
def fy:List Nat->Nat->Bool
 | [],_=>false
 | i::r,j=>Nat.beq i j || fy r j
section
variable {P:Program} {ops:Array Oper} {Q:Exit->Act->World->Prop} {md:Region.Mode} {S:World->Prop} {p:Nat}
def tI (P:Program) (md:Region.Mode) (ops:Array Oper) (Q:Exit->Act->World->Prop) (p:Nat) (S:World->Prop):Nat->Array Bool->Act->World->Prop
 | 0,listed,a,w=>Region.ready md ops listed= []/\Q .normal a w
 | cx+ 1,listed,a,w=>
   (Region.ready md ops listed= []->Q .normal a w) /\
   ∀ i ∈ Region.ready md ops listed,wpOp P ops Q i (fun a2 w'=>((listed.setIfInBounds i true).getD p false=false->S w')/\tI P md ops Q p S cx (listed.setIfInBounds i true) a2 w') a w
theorem ac':∀ (cx:Nat) (listed:Array Bool) (a:Act) (w:World),tI P md ops Q p S cx listed a w->wpAny P md ops Q cx listed a w
 | 0,_,_,_,h=>h
 | cx+ 1,_,_,_,h=>⟨h.1,fun i hi=>wpOp_mono (fun a2 w' h'=>ac' cx _ a2 w' h'.2) (h.2 i hi)⟩
theorem ab4 {b7:Array Bool} {i p:Nat} (h:b7.getD p false=true):(b7.setIfInBounds i true).getD p false=true:=by
 simp only [Array.getD_eq_getD_getElem?,Array.getElem?_setIfInBounds] at h ⊢
 split
 · rename_i e
   subst e
   split
   · rfl
   · rename_i bs
     rw [Array.getElem?_eq_none (by omega)] at h
     cases h
 · exact h
theorem ac9 {rh:Nat} {Aq:World->Prop}:∀ (cx:Nat) (listed:Array Bool) (a:Act) (w:World),listed.getD p false=true->tI P md ops Q rh Aq cx listed a w->tI P md ops Q p S cx listed a w
 | 0,_,_,_,_,h=>h
 | cx+ 1,_,_,_,aD,h=>⟨h.1,fun i hi=>wpOp_mono (fun a2 w' h'=>⟨fun af=>absurd ((ab4 aD).symm.trans af) (by simp),ac9 cx _ a2 w' (ab4 aD) h'.2⟩) (h.2 i hi)⟩
def lR:List Oper->Nat->Nat->List Nat->List Nat
 | [],_,_,acc=>acc
 | o::r,k,i,acc=>lR r (k+ 1) i (match o.after.toList.any fun e=>Region.binds .any e && (Nat.beq e.on i || fy acc e.on) with | true=>k::acc | false=>acc)
theorem vk {l:List Nat} {j:Nat} (h:fy l j=true):j ∈ l:=by
 induction l with
 | nil=>simp [fy] at h
 | cons i r ba=>
   simp only [fy,Bool.or_eq_true] at h
   rcases h with h | h
   · rw [Nat.eq_of_beq_eq_true h];simp
   · exact List.mem_cons_of_mem _ (ba h)
def z8 (ops:Array Oper) (i:Nat) (U:List Nat):Prop:=∀ u ∈ U,∃ o,ops[u]? =some o/\ ∃ e ∈ o.after,Region.binds .any e=true/\(e.on=i\/e.on ∈ U)
theorem My {ops:Array Oper} {i:Nat}:∀ {l:List Oper} {k:Nat} {acc:List Nat},(∀ m o,l[m]? =some o->ops[k+m]? =some o)->z8 ops i acc->z8 ops i (lR l k i acc)
 | [],_,_,_,h=>h
 | o::r,k,acc,ak,h=>by
   rw [lR]
   refine My (fun m cQ hm=>by have:=ak (m+ 1) cQ (by simpa using hm);rwa [show k+(m+ 1)=k+ 1 +m by omega] at this) ?_
   split
   · rename_i ah
     intro u hu
     rcases List.mem_cons.1 hu with rfl | hu
     · simp only [List.any_eq_true,Bool.and_eq_true,Bool.or_eq_true] at ah
       obtain ⟨e,he,I,aa⟩:=ah
       refine ⟨o,by simpa using ak 0 o rfl,e,by simpa using he,I,?_⟩
       rcases aa with aa | aa
       · exact .inl (Nat.eq_of_beq_eq_true aa)
       · exact .inr (List.mem_cons_of_mem _ (vk aa))
     · obtain ⟨cQ,iU,e,he,I,aa⟩:=h u hu
       exact ⟨cQ,iU,e,he,I,aa.imp id (List.mem_cons_of_mem _)⟩
   · exact h
def Tk (ops:Array Oper) (p i:Nat) (ds:List Nat):Bool:=(match nth ops.toList p with
 | none=>true
 | some _=>fy (lR ops.toList 0 i []) p) && (lR ops.toList 0 i []).all fun u=>!(dC ops.size ds).getD u false
theorem Tl {ops:Array Oper} {p i:Nat} {ds:List Nat} (h:Tk ops p i ds=true):z8 ops i (lR ops.toList 0 i [])/\(ops[p]? =none\/p ∈ lR ops.toList 0 i [])/\ ∀ u ∈ lR ops.toList 0 i [],(dC ops.size ds).getD u false=false:=by
 unfold Tk at h
 rw [Bool.and_eq_true] at h
 refine ⟨My (fun m o hm=>by simpa using hm) (fun u hu=>by simp at hu),?_,fun u hu=>?_⟩
 · have I:=h.1
   rw [cU,Array.getElem?_toList] at I
   split at I
   · rename_i aA;exact .inl aA
   · exact .inr (vk I)
 · have:=List.all_eq_true.1 h.2 u hu
   simpa using this
theorem ayo {i:Nat} {cV:Oper} {v:Value} (hi:ops[i]? =some cV) (k7:∀ (j:Nat) (o:Oper) cs b,ops[j]? =some o->o.op≠ .select cs b) (sE:p≠i)
 (eu:∀ c a w,Q (.panic c) (a.put cV.dst v) w->Q (.panic c) a w) {U:List Nat} (DC:z8 ops i U) (ap4:ops[p]? =none\/p ∈ U) :
 ∀ (cx:Nat) (listed:Array Bool) (a:Act) (w:World),
   (∀ j dD,ops[j]? =some dD->j≠i->listed.getD j true=false->(∀ e ∈ dD.after,Region.binds .any e=true->e.on≠i)->cV.apart ops dD=true) ->
   listed.getD p false=false->(∀ u ∈ U,listed.getD u false=false)->i ∈ Region.ready .any ops listed->YieldsIf P ops S cV v a->S w ->
   tI P .any ops Q p S cx (listed.setIfInBounds i true) (a.put cV.dst v) w->tI P .any ops Q p S (cx+ 1) listed a w:=by
 intro cx
 induction cx with
 | zero=>
   intro listed a w _ _ _ ay hy hs H
   refine ⟨fun h=>(by rw [h] at ay;cases ay),fun j aC=>?_⟩
   by_cases fb:j=i
   · subst fb;exact hy.wpOp hi hs ⟨fun _=>hs,H⟩
   · have:=ready_mono aC fb
     rw [H.1] at this
     cases this
 | succ cx ba=>
   intro listed a w mX l9 jl ay hy hs H
   refine ⟨fun h=>(by rw [h] at ay;cases ay),fun j aC=>?_⟩
   by_cases fb:j=i
   · subst fb;exact hy.wpOp hi hs ⟨fun _=>hs,H⟩
   · have I:=H.2 j (ready_mono aC fb)
     obtain ⟨u7,dD,l8,iR⟩:=mem_ready.1 aC
     have qR:∀ e ∈ dD.after,Region.binds .any e=true->e.on≠i:=fun e he ah heq=>by
      have I:=iR e he ah
      have aN:=(mem_ready.1 ay).1
      rw [heq] at I
      rcases Nat.lt_or_ge i listed.size with h' | h'
      · simp [h'] at aN I;rw [aN] at I;cases I
      · simp [Array.getElem?_eq_none h'] at I
     have DT:j ∉ U:=fun DV=>by
      obtain ⟨cQ,iU,e,he,ah,aa⟩:=DC j DV
      rw [l8] at iU
      simp only [Option.some.injEq] at iU
      subst iU
      rcases aa with aa | aa
      · exact qR e he ah aa
      · have aq:=iR e he ah
        rw [jl _ aa] at aq
        cases aq
     have YL:j≠p:=fun e=>by
      subst e
      rcases ap4 with h | h
      · rw [l8] at h;cases h
      · exact DT h
     have PC:∀ u ∈ U,(listed.setIfInBounds j true).getD u false=false:=fun u hu=>by
      have:=jl u hu
      have b2:j≠u:=fun e=>DT (e ▸ hu)
      simp only [Array.getD_eq_getD_getElem?,Array.getElem?_setIfInBounds,if_neg b2] at this ⊢
      exact this
     have Pr:(listed.setIfInBounds j true).getD p false=false:=by
      simp only [Array.getD_eq_getD_getElem?,Array.getElem?_setIfInBounds,if_neg YL] at l9 ⊢
      exact l9
     have YW:((listed.setIfInBounds i true).setIfInBounds j true).getD p false=false:=by
      simp only [Array.getD_eq_getD_getElem?,Array.getElem?_setIfInBounds,if_neg YL,if_neg (Ne.symm sE)] at l9 ⊢
      exact l9
     have aa:=wpOp_putIf l8 (mX j dD l8 fb u7 qR) (fun cs b=>k7 i cV cs b hi) (fun cs b=>k7 j dD cs b l8) eu hy I
     have DL:∀ k ok,ops[k]? =some ok->k≠i->(listed.setIfInBounds j true).getD k true=false ->
      (∀ e ∈ ok.after,Region.binds .any e=true->e.on≠i)->cV.apart ops ok=true:=fun k ok ai DX jl iS=>by
      refine mX k ok ai DX ?_ iS
      by_cases qQ:j=k
      · subst qQ;exact u7
      · rw [getD_set_ne true qQ] at jl;exact jl
     refine wpOp_mono (fun a2 w' aq=>⟨fun _=>aq.2.1 YW,ba (listed.setIfInBounds j true) a2 w' DL Pr PC (ready_mono ay (Ne.symm fb)) aq.1 (aq.2.1 YW) ?_⟩) aa
     rw [Array.setIfInBounds_comm _ _ fb]
     exact aq.2.2
theorem ac8 {i:Nat} {cV:Oper} {v:Value} (hi:ops[i]? =some cV) (k7:∀ (j:Nat) (o:Oper) cs b,ops[j]? =some o->o.op≠ .select cs b) (sE:p≠i)
 (eu:∀ c a w,Q (.panic c) (a.put cV.dst v) w->Q (.panic c) a w) :
 ∀ (cx:Nat) (listed:Array Bool) (a:Act) (w:World),
   (∀ j dD,ops[j]? =some dD->j≠i->listed.getD j true=false->(∀ e ∈ dD.after,Region.binds .any e=true->e.on≠i)->cV.apart ops dD=true) ->
   (listed.getD p false=false->S w)->i ∈ Region.ready .any ops listed->YieldsIf P ops (fun _=>True) cV v a ->
   tI P .any ops Q p S cx (listed.setIfInBounds i true) (a.put cV.dst v) w->tI P .any ops Q p S (cx+ 1) listed a w:=by
 have Ec:∀ (b7:Array Bool) (b:Bool),(b7.setIfInBounds i true).getD p b=b7.getD p b:=fun b7 b=>by
  simp only [Array.getD_eq_getD_getElem?,Array.getElem?_setIfInBounds,if_neg (Ne.symm sE)]
 intro cx
 induction cx with
 | zero=>
   intro listed a w _ hs ay hy H
   refine ⟨fun h=>(by rw [h] at ay;cases ay),fun j aC=>?_⟩
   by_cases fb:j=i
   · subst fb;exact hy.wpOp hi trivial ⟨fun h=>hs (by rwa [Ec] at h),H⟩
   · have:=ready_mono aC fb
     rw [H.1] at this
     cases this
 | succ cx ba=>
   intro listed a w mX hs ay hy H
   refine ⟨fun h=>(by rw [h] at ay;cases ay),fun j aC=>?_⟩
   by_cases fb:j=i
   · subst fb;exact hy.wpOp hi trivial ⟨fun h=>hs (by rwa [Ec] at h),H⟩
   · have I:=H.2 j (ready_mono aC fb)
     obtain ⟨u7,dD,l8,iR⟩:=mem_ready.1 aC
     have qR:∀ e ∈ dD.after,Region.binds .any e=true->e.on≠i:=fun e he ah heq=>by
      have I:=iR e he ah
      have aN:=(mem_ready.1 ay).1
      rw [heq] at I
      rcases Nat.lt_or_ge i listed.size with h' | h'
      · simp [h'] at aN I;rw [aN] at I;cases I
      · simp [Array.getElem?_eq_none h'] at I
     have aa:=wpOp_putIf l8 (mX j dD l8 fb u7 qR) (fun cs b=>k7 i cV cs b hi) (fun cs b=>k7 j dD cs b l8) eu hy I
     have DL:∀ k ok,ops[k]? =some ok->k≠i->(listed.setIfInBounds j true).getD k true=false ->
      (∀ e ∈ ok.after,Region.binds .any e=true->e.on≠i)->cV.apart ops ok=true:=fun k ok ai DX jl iS=>by
      refine mX k ok ai DX ?_ iS
      by_cases qQ:j=k
      · subst qQ;exact u7
      · rw [getD_set_ne true qQ] at jl;exact jl
     have H3:∀ w',(((listed.setIfInBounds i true).setIfInBounds j true).getD p false=false->S w')->(listed.setIfInBounds j true).getD p false=false->S w':=fun w' ad u'=>
      ad (by rw [Array.setIfInBounds_comm _ _ (Ne.symm fb),Ec];exact u')
     refine wpOp_mono (fun a2 w' aq=>⟨H3 w' aq.2.1,ba (listed.setIfInBounds j true) a2 w' DL (H3 w' aq.2.1) (ready_mono ay (Ne.symm fb)) aq.1 ?_⟩) aa
     rw [Array.setIfInBounds_comm _ _ fb]
     exact aq.2.2
end
def eS (P:Program) (ops:Array Oper) (Q:Exit->Act->World->Prop) (p:Nat) (S:World->Prop) (f:Nat) (ds:List Nat) (a:Act) (w:World):Prop:=((dC ops.size ds).getD p false=false->S w)/\tI P .any ops (NoPanic Q) p S f (dC ops.size ds) a w
def zq (ops:List Oper):List Nat->Option (List Oper)
 | []=>some []
 | i::r=>match nth ops i,zq ops r with
   | some o,some os=>some (o::os)
   | _,_=>none
def aaq (ops:Array Oper) (i:Nat):Bool:=match nth ops.toList i with
 | some o=>!Bl o.op
 | none=>false
def B_ (ops:Array Oper) (p:Nat):List Nat->List Nat->Bool
 | _,[]=>true
 | ds,i::r=>Kp ops ds i && (Tk ops p i ds || aaq ops i) && !Nat.beq p i && B_ ops p (i::ds) r
def Fl:List Nat->List Nat->List Nat
 | [],ds=>ds
 | i::r,ds=>Fl r (i::ds)
section
variable {P:Program} {G:kP} {ops:Array Oper} {n:cI} {M:List (Nat × Nat × List Value)} {S:World->Prop} {Q:Exit->Act->World->Prop} {a:Act} {w:World} {f p:Nat} {ds:List Nat}
theorem as0 (i:Nat):dC ops.size (i::ds)=(dC ops.size ds).setIfInBounds i true:=rfl
theorem eS.wpAny (h:eS P ops Q p S f ds a w):Go.wpAny P .any ops (NoPanic Q) f (dC ops.size ds) a w:=ac' f _ a w h.2
theorem GY (hc:(Region.ready .any ops (dC ops.size ds)).isEmpty=true) (h:Q .normal a w) (hs:(dC ops.size ds).getD p false=false->S w):eS P ops Q p S f ds a w:=by
 refine ⟨hs,?_⟩
 have ay:=List.isEmpty_iff.1 hc
 cases f with
 | zero=>exact ⟨ay,NoPanic.normal h⟩
 | succ f=>exact ⟨fun _=>NoPanic.normal h,by rw [ay];simp⟩
theorem eS.next (rh:Nat) (Aq:World->Prop) (aD:(dC ops.size ds).getD p false=true) (h:eS P ops Q rh Aq f ds a w):eS P ops Q p S f ds a w:=
 ⟨fun af=>absurd (aD.symm.trans af) (by simp),ac9 f _ a w aD h.2⟩
theorem Vm (en:qf P G) (eC:∀ w,S w->i_ w M) (mT:S w) {fH:List (Nat × Value)} {kr:List gj} {kz:List (Nat × Nat)} (aj:lV kz):∀ (is:List Nat) {os:List Oper} {ao ds:List Nat} {a_:List (Nat × Value)} {gs:List gj} {l:List (Nat × Nat)} {a:Act},
 (dC ops.size ds).getD p false=false->zq ops.toList is=some os->B_ ops p ds is=true->Fr n a_ a->k3 a gs->b6 G ops n M os ao a_ gs l=some (fH,kr,kz)->(∀ a2,Fr n fH a2->eS P ops Q p S f (Fl is ds) a2 w)->eS P ops Q p S (f+is.length) ds a w
 | [],os,ao,ds,a_,gs,l,a,_,ap,_,af,_,h,ai=>by
   simp only [zq,Option.some.injEq] at ap
   subst ap
   simp only [b6,Option.some.injEq,Prod.mk.injEq] at h
   exact ai a (by rw [<-h.1];exact af)
 | i::is,os,ao,ds,a_,gs,l,a,l9,ap,aJ,af,aw,h,ai=>by
   simp only [zq] at ap
   split at ap
   · rename_i o aC2 I aa
     simp only [Option.some.injEq] at ap
     subst ap
     rw [cU,Array.getElem?_toList] at I
     simp only [B_,Bool.and_eq_true,Bool.not_eq_true'] at aJ
     obtain ⟨⟨⟨oa,vh⟩,sE⟩,aqp⟩:=aJ
     have D':p≠i:=fun e=>by rw [e] at sE;simp at sE
     obtain ⟨d,u,b',fr',yh,l',⟨aL,fL⟩,dL,fC,h'⟩:=Na (C:=S) en eC af aw h aj (uO aj)
     have Pr:(dC ops.size (i::ds)).getD p false=false:=by
      rw [as0]
      simp only [Array.getD_eq_getD_getElem?,Array.getElem?_setIfInBounds,if_neg (Ne.symm D')] at l9 ⊢
      exact l9
     have next:=Vm en eC mT aj is Pr aa aqp dL fC h' ai
     simp only [Kp,Bool.and_eq_true] at oa
     refine ⟨fun _=>mT,?_⟩
     have:=next.2
     rw [show f+(i::is).length=f+is.length+ 1 by simp [Nat.add_assoc]]
     rw [Bool.or_eq_true] at vh
     rcases vh with vh | D9
     · refine ayo (v:=u) I (Region.noSelect_spec oa.1.1) D' (fun c a w h=>h) (Tl vh).1 (Tl vh).2.1 (f+is.length) _ a w (Region.free_spec I oa.1.2) l9 (Tl vh).2.2 (by simpa using oa.2) (fL.imp (fun ⟨x,y,_⟩=>⟨x,y⟩) id) mT ?_
       rw [aL]
       exact this
     · have apW:Bl o.op=false:=by
        unfold aaq at D9
        rw [cU,Array.getElem?_toList,I] at D9
        simpa using D9
       refine ac8 (v:=u) I (Region.noSelect_spec oa.1.1) D' (fun c a w h=>h) (f+is.length) _ a w (Region.free_spec I oa.1.2) (fun _=>mT) (by simpa using oa.2) (fL.imp (fun ⟨x,_,y⟩=>⟨x,fun w _=>y apW w⟩) id) ?_
       rw [aL]
       exact this
   · cases ap
theorem akU (is:List Nat) (k:Nat) (ff ao:List Nat) {os:List Oper} {a_ fr':List (Nat × Value)} {L:List Nat} (en:qf P G) (eC:∀ w,S w->i_ w M) (af:Fr n a_ a) (ai:Nat.beq is.length k=true) (l9:(dC ops.size ds).getD p false=false) (hi:zq ops.toList is=some os) (aJ:B_ ops p ds is=true)
 (he:k1 G ops n M os ao a_ ff=some (fr',dup L)) (mT:S w) (next:∀ a2,Fr n fr' a2->eS P ops Q p S f (Fl is ds) a2 w):eS P ops Q p S (f+k) ds a w:=by
 have ai:=Nat.eq_of_beq_eq_true ai
 subst ai
 obtain ⟨fH,kr,I,aa⟩:=Nb he
 exact Vm (gs:=[]) en eC mT (Hs L) is l9 hi aJ af trivial I fun a2 dL=>next a2 (dL.sub aa)
theorem kY (i:Nat) {o:Oper} (hi:ops[i]? =some o) (hc:(Region.ready .any ops (dC ops.size ds) == [i])=true) (hs:(dC ops.size ds).getD p false=false->S w) (h:wpList P ops (Ab (eS P ops Q p S f (i::ds)) (NoPanic Q)) [o] a w):eS P ops Q p S (f+ 1) ds a w:=by
 have ay:=eq_of_beq hc
 refine ⟨hs,⟨fun aN=>(by rw [ay] at aN;cases aN),fun j aC=>?_⟩⟩
 rw [ay] at aC
 have:j=i:=by simpa using aC
 subst this
 exact Tq hi h
theorem Vi (i j:Nat) {o cQ:Oper} (hi:ops[i]? =some o) (aC:ops[j]? =some cQ) (hc:(Region.ready .any ops (dC ops.size ds) == [i,j])=true) (hs:(dC ops.size ds).getD p false=false->S w) (h:wpList P ops (Ab (eS P ops Q p S f (i::ds)) (NoPanic Q)) [o] a w)
 (h':wpList P ops (Ab (eS P ops Q p S f (j::ds)) (NoPanic Q)) [cQ] a w):eS P ops Q p S (f+ 1) ds a w:=by
 have ay:=eq_of_beq hc
 refine ⟨hs,⟨fun aN=>(by rw [ay] at aN;cases aN),fun q aQ=>?_⟩⟩
 rw [ay] at aQ
 have:q=i\/q=j:=by simpa using aQ
 rcases this with rfl | rfl
 · exact Tq hi h
 · exact Tq aC h'
theorem jj (h:eS P ops Q p S f ds a w):wpList P ops (Ab (eS P ops Q p S f ds) (NoPanic Q)) [] a w:=h
end
end av
namespace av
open Go Go.RowKit J
theorem Mf (p q:List UInt8):((⟨⟨p⟩⟩:ByteArray) == ⟨⟨q⟩⟩)=decide (p=q):=by
 show ((⟨p⟩:Array UInt8) == ⟨q⟩)=_
 rw [Bool.eq_iff_iff];simp
structure kd (cD:Type) [DecidableEq cD] where
 enc:cD->Value
 desc:TypeDesc
 same:∀ a b,Instr.sameNow desc (enc a) (enc b)=some (decide (b=a))
 bits:∀ a,Instr.sameBits 10000 (enc a) (enc a)=true
 check:∀ (P:Program) (w:World) (e:Bool) (t:TypeId) (a:cD),P.underlying t=some desc->(Instr.checkKey e 10000 t (enc a)).run P w= .ok () w
def arm:kd Int where
 enc n:=.int .i64 n
 desc:=.int .i64
 same a b:=by
  simp only [Instr.sameNow,if_true,Option.some.injEq]
  rw [Bool.eq_iff_iff]
  simp only [beq_iff_eq,decide_eq_true_iff]
  exact eq_comm
 bits a:=by
  have h:∀ n,Instr.sameBits n (.int .i64 a) (.int .i64 a)=true:=fun n=>by cases n <;> simp [Instr.sameBits]
  exact h 10000
 check P w e t a h:=by
  have h':∀ n:Nat,(Instr.checkKey e (n+ 1) t (.int .i64 a)).run P w= .ok () w:=fun n=>by simp [Instr.checkKey,run_underlying h]
  exact h' 9999
def la:kd (List UInt8) where
 enc s:=cg s
 desc:=.string
 same a b:=by
  simp only [Instr.sameNow,Option.some.injEq]
  have e:decide (a=b)=decide (b=a):=by rw [decide_eq_decide];exact eq_comm
  exact (Mf a b).trans e
 bits a:=by
  have h:∀ n,Instr.sameBits n (cg a) (cg a)=true:=fun n=>by
   have e:((⟨⟨a⟩⟩:ByteArray) == ⟨⟨a⟩⟩)=true:=(Mf a a).trans (by simp)
   cases n <;> (simp only [Instr.sameBits];exact e)
  exact h 10000
 check P w e t a h:=by
  have h':∀ n:Nat,(Instr.checkKey e (n+ 1) t (cg a)).run P w= .ok () w:=fun n=>by simp [Instr.checkKey,run_underlying h]
  exact h' 9999
section
variable {cD β:Type} [DecidableEq cD] (K:kd cD) (b6:β->Value)
def LV (es:List MapEntry) (d:List (cD × β)):Prop:=es.map (fun e=>(e.key,e.val))=d.map (fun p=>(K.enc p.1,b6 p.2))
def U_ (w:World) (r:Nat) (d:List (cD × β)):Prop:=∃ es clock,w.heap[r]? =some (.map es clock)/\LV K b6 es.toList d/\(es.toList.map (·.born)).Pairwise (· < ·)/\ ∀ e ∈ es.toList,e.born <clock
def a7.map (r:Nat) (d:List (cD × β)):a7 where
 bw:=[r]
 ok w:=U_ K b6 w r d
 law w w' h ai:=by
  obtain ⟨es,c,I,aa⟩:=ai
  exact ⟨es,c,(h r (by simp)).trans I,aa⟩
def bt.map (r:Nat) (d:List (cD × β)):bt where
 ok M w:=r ∉ M/\r <w.heap.size/\U_ K b6 w r d
 law M iM w w' ag hm h:=by
  obtain ⟨I,aa,es,c,aq,a'⟩:=h
  exact ⟨fun ad=>by rcases hm r ad with e | e;exact I e;omega,Nat.lt_of_lt_of_le aa ag.size,es,c,(ag.block r aa I).trans aq,a'⟩
end
section
variable {cD β:Type} [DecidableEq cD] {K:kd cD} {b6:β->Value}
variable {P:Program} {o:Oper} {a:Act} {w:World} {x y z:Operand} {t bP Dd:TypeId} {r:Nat} {d:List (cD × β)} {k:cD} {v:β}
theorem aBU (ap:o.op= .makeMap t none):bd P o a w (.map (some w.heap.size)) (w.alloc (.map #[] 0)):=by
 simp only [bd,execOp,ap,Sem.run_bind]
 rfl
end
end av
namespace av
open Go Go.RowKit J
def U3 (E:List a7):Prop:=∀ (i:Nat) (x:a7),E[i]? =some x->x.bw.Nodup/\ ∀ (j:Nat) (y:a7),E[j]? =some y->i≠j-> ∀ k ∈ x.bw,k ∉ y.bw
theorem Nf:∀ {E:List a7},(b4 E).Nodup->U3 E
 | [],_=>fun i x h=>by simp at h
 | e::E,h=>by
   have h':(e.bw++b4 E).Nodup:=by simpa [b4] using h
   rw [List.nodup_append] at h'
   obtain ⟨I,aa,aq⟩:=h'
   have ba:=Nf aa
   intro i x ad
   cases i with
   | zero=>
     simp only [List.getElem?_cons_zero,Option.some.injEq] at ad
     subst ad
     refine ⟨I,fun j y hy b2 k ai cM=>?_⟩
     cases j with
     | zero=>exact b2 rfl
     | succ j=>exact aq k ai k (List.mem_flatMap.2 ⟨y,List.mem_of_getElem? (by simpa using hy),cM⟩) rfl
   | succ i=>
     have ad:E[i]? =some x:=by simpa using ad
     refine ⟨(ba i x ad).1,fun j y hy b2 k ai cM=>?_⟩
     cases j with
     | zero=>
       simp only [List.getElem?_cons_zero,Option.some.injEq] at hy
       subst hy
       exact aq k cM k (List.mem_flatMap.2 ⟨x,List.mem_of_getElem? ad,ai⟩) rfl
     | succ j=>exact (ba i x ad).2 j y (by simpa using hy) (by omega) k ai cM
theorem aaw:∀ {E:List a7},U3 E->(b4 E).Nodup
 | [],_=>by simp [b4]
 | e::E,h=>by
   have e1:b4 (e::E)=e.bw++b4 E:=by simp [b4]
   rw [e1,List.nodup_append]
   refine ⟨(h 0 e rfl).1,aaw fun i x ad=>⟨(h (i+ 1) x (by simpa using ad)).1,fun j y hy b2 k ai=>(h (i+ 1) x (by simpa using ad)).2 (j+ 1) y (by simpa using hy) (by omega) k ai⟩,fun a aK b ah DE=>?_⟩
   subst DE
   obtain ⟨x,ad,ai⟩:=List.mem_flatMap.1 ah
   obtain ⟨i,hi,rfl⟩:=List.mem_iff_getElem.1 ad
   exact (h 0 e rfl).2 (i+ 1) E[i] (by simp [hi]) (by omega) a aK ai
def B5 (E:List a7):List Nat->Option (List a7)
 | []=>some []
 | i::r=>match nth E i,B5 E r with
   | some x,some xs=>some (x::xs)
   | _,_=>none
def IA:List Nat->Nat->Bool
 | [],_=>false
 | i::r,j=>Nat.beq i j || IA r j
def EP:List Nat->Bool
 | []=>true
 | i::r=>!IA r i && EP r
theorem aqV {l:List Nat} {j:Nat} (h:IA l j=false):j ∉ l:=by
 induction l with
 | nil=>simp
 | cons i r ba=>
   simp only [IA,Bool.or_eq_false_iff] at h
   intro hm
   rcases List.mem_cons.1 hm with rfl | e
   · simp at h
   · exact ba h.2 e
theorem aad:∀ {l:List Nat},EP l=true->l.Nodup
 | [],_=>by simp
 | i::r,h=>by
   simp only [EP,Bool.and_eq_true,Bool.not_eq_true'] at h
   exact List.nodup_cons.2 ⟨aqV h.1,aad h.2⟩
theorem Kd {E:List a7}:∀ {is:List Nat} {kc:List a7},B5 E is=some kc-> ∀ (m:Nat) (x:a7),kc[m]? =some x-> ∃ i:Nat,is[m]? =some i/\E[i]? =some x
 | [],kc,h,m,x,ad=>by simp only [B5,Option.some.injEq] at h;subst h;simp at ad
 | i::r,kc,h,m,x,ad=>by
   simp only [B5] at h
   split at h
   · rename_i y ys I aa
     simp only [Option.some.injEq] at h
     subst h
     cases m with
     | zero=>
       simp only [List.getElem?_cons_zero,Option.some.injEq] at ad
       subst ad
       exact ⟨i,rfl,by rw [<-cU];exact I⟩
     | succ m=>obtain ⟨q,bk,bH⟩:=Kd aa m x (by simpa using ad);exact ⟨q,by simpa using bk,bH⟩
   · cases h
section
variable {W w w':World} {M0 X:List Nat} {E:List a7} {D:List bt}
theorem bn.sel (h:bn W M0 X w E D) (is:List Nat) {kc:List a7} (aA:EP is=true) (ao:B5 E is=some kc):bn W M0 X w kc D:=by
 have hZ:∀ x ∈ kc,x ∈ E:=fun x ad=>by
  obtain ⟨m,hm,rfl⟩:=List.mem_iff_getElem.1 ad
  obtain ⟨i,_,hi⟩:=Kd ao m _ (List.getElem?_eq_getElem hm)
  exact List.mem_of_getElem? hi
 have af:∀ k ∈ b4 kc,k ∈ b4 E:=fun k ai=>by
  obtain ⟨x,ad,Ih⟩:=List.mem_flatMap.1 ai
  exact List.mem_flatMap.2 ⟨x,hZ x ad,Ih⟩
 have aL:=Nf h.br
 have sD:=aad aA
 refine ⟨h.b6,h.hz,fun k ai=>h.lt k (af k ai),fun x ad=>h.ok x (hZ x ad),aaw fun m x ad=>?_,fun y hy=>y.law _ _ w w (bp.refl _ _) (fun k ai=>.inl ?_) (h.rd y hy)⟩
 · obtain ⟨i,hi,Iw⟩:=Kd ao m x ad
   refine ⟨(aL i x Iw).1,fun eI y hy b2 k ai=>?_⟩
   obtain ⟨j,aC,Ek⟩:=Kd ao eI y hy
   refine (aL i x Iw).2 j y Ek (fun e=>?_) k ai
   subst e
   obtain ⟨l1,e1⟩:=List.getElem?_eq_some_iff.1 hi
   obtain ⟨cj,e2⟩:=List.getElem?_eq_some_iff.1 aC
   rcases Nat.lt_or_gt_of_ne b2 with bs | bs
   · exact (List.pairwise_iff_getElem.1 sD m eI l1 cj bs) (e1.trans e2.symm)
   · exact (List.pairwise_iff_getElem.1 sD eI m cj l1 bs) (e2.trans e1.symm)
 · rcases List.mem_append.1 ai with e | e
   · exact List.mem_append.2 (.inl e)
   · exact List.mem_append.2 (.inr (af k e))
theorem AV (A B:List a7):b4 (A++B)=b4 A++b4 B:=by simp [b4]
theorem bn.into (h:bn W M0 X w E D) (m:Nat):bn w (b4 (E.take m)) (X++b4 (E.drop m)) w (E.take m) D:=by
 have a5:b4 E=b4 (E.take m)++b4 (E.drop m):=by rw [<-AV,List.take_append_drop]
 have aL:=h.br
 rw [a5,List.nodup_append] at aL
 refine ⟨bp.refl _ _,fun k ai=>?_,fun k ai=>⟨(h.lt k (by rw [a5];simp [ai])).1,.inl ai⟩,fun x ad=>h.ok x (List.mem_of_mem_take ad),aL.1,fun y hy=>y.law _ _ w w (bp.refl _ _) (fun k ai=>.inl ?_) (h.rd y hy)⟩
 · rcases List.mem_append.1 ai with e | e
   · refine ⟨Nat.lt_of_lt_of_le (h.hz k e).1 h.b6.size,fun cM=>?_⟩
     have:=(h.lt k (by rw [a5];simp [cM])).2
     rcases this with e2 | e2
     · exact (h.hz k e).2 e2
     · have:=(h.hz k e).1;omega
   · exact ⟨(h.lt k (by rw [a5];simp [e])).1,fun cM=>aL.2.2 k cM k e rfl⟩
 · rw [a5]
   simp only [List.mem_append] at ai ⊢
   rcases ai with (e | e) | e <;> simp [e]
def LY:List bt->Prop
 | []=>True
 | y::r=>(∀ M iM w w',y.ok M w->y.ok iM w')/\LY r
theorem U4:∀ {D:List bt},LY D-> ∀ y ∈ D,∀ M iM w w',y.ok M w->y.ok iM w'
 | [],_,y,hy=>by simp at hy
 | z::r,h,y,hy=>by
   rcases List.mem_cons.1 hy with rfl | e
   · exact h.1
   · exact U4 h.2 y e
theorem bn.Vr (h:bn W M0 X w E D) (m:Nat) {r1:List Nat} {qh:List a7} {fS:List bt} (k:bn w (b4 (E.take m)) r1 w' qh fS) (dU:∀ y ∈ fS,y.ok (X++b4 (qh++E.drop m)) w'):bn W M0 X w' (qh++E.drop m) (fS++D):=by
 have a5:b4 E=b4 (E.take m)++b4 (E.drop m):=by rw [<-AV,List.take_append_drop]
 have aL:=h.br
 rw [a5,List.nodup_append] at aL
 have l3:∀ b ∈ b4 (E.take m),b <w.heap.size/\(b ∈ M0\/W.heap.size<=b):=fun b ah=>h.lt b (by rw [a5];simp [ah])
 have fa:∀ b ∈ b4 (E.drop m),b <w.heap.size/\(b ∈ M0\/W.heap.size<=b):=fun b ah=>h.lt b (by rw [a5];simp [ah])
 have ag:=k.b6
 have sn:∀ b ∈ b4 qh,b ∉ b4 (E.drop m):=fun b ah fK=>by
  rcases (k.lt b ah).2 with e | e
  · exact aL.2.2 b e b fK rfl
  · have:=(fa b fK).1;omega
 refine ⟨h.b6.trans ag (fun b ah=>(l3 b ah).2),h.hz,fun b ah=>?_,fun x ad=>?_,?_,fun y hy=>?_⟩
 · rw [AV] at ah
   rcases List.mem_append.1 ah with e | e
   · refine ⟨(k.lt b e).1,?_⟩
     rcases (k.lt b e).2 with e2 | e2
     · exact (l3 b e2).2
     · exact .inr (Nat.le_trans h.b6.size e2)
   · exact ⟨Nat.lt_of_lt_of_le (fa b e).1 ag.size,(fa b e).2⟩
 · rcases List.mem_append.1 ad with e | e
   · exact k.ok x e
   · refine x.law w w' (fun b ah=>?_) (h.ok x (List.mem_of_mem_drop e))
     have fK:b ∈ b4 (E.drop m):=List.mem_flatMap.2 ⟨x,e,ah⟩
     exact ag.block b (fa b fK).1 (fun ai=>aL.2.2 b ai b fK rfl)
 · rw [AV,List.nodup_append]
   exact ⟨k.br,aL.2.1,fun a aK b ah e=>by subst e;exact sn a aK ah⟩
 · rcases List.mem_append.1 hy with e | e
   · exact dU y e
   · refine y.law _ _ w w' (ag.mono fun b ah=>?_) (fun b ah=>?_) (h.rd y e)
     · rw [a5];simp [ah]
     · rw [AV] at ah
       rw [a5]
       simp only [List.mem_append] at ah ⊢
       rcases ah with e1 | e1 | e1
       · simp [e1]
       · rcases (k.lt b e1).2 with e2 | e2
         · simp [e2]
         · exact .inr e2
       · simp [e1]
theorem bn.back (h:bn W M0 X w E D) (m:Nat) {qh:List a7} {fS:List bt} (k:bn w (b4 (E.take m)) (X++b4 (E.drop m)) w' qh fS):bn W M0 X w' (qh++E.drop m) (fS++D):=
 h.Vr m k fun y hy=>y.law _ _ w' w' (bp.refl _ _) (fun b ah=>.inl (by
   rw [AV] at ah
   simp only [List.mem_append] at ah ⊢
   rcases ah with e | e | e <;> simp [e])) (k.rd y hy)
theorem bn.fV (h:bn W M0 X w E D) (m:Nat) {r1:List Nat} {qh:List a7} {fS:List bt} (az:LY fS) (k:bn w (b4 (E.take m)) r1 w' qh fS):bn W M0 X w' (qh++E.drop m) (fS++D):=
 h.Vr m k fun y hy=>U4 az y hy _ _ _ _ (k.rd y hy)
end
end av
namespace av
open Go Go.RowKit J
section
variable {P:Program} {ops:Array Oper} {Q:Exit->Act->World->Prop} {a:Act} {w:World} {rest:List Oper} {o:Oper} {n:cI} {d:Nat} {l:List (Nat × Value)}
 {W:World} {M0 X:List Nat} {E:List a7} {D:List bt}
theorem bn.abQ (h:bn W M0 X w E D) {α:Type} {T:db α} {xs:List Value} {li:List α} (ay:dO T (hF (X++b4 E) w) w xs li):bn W M0 X w E (bt.rows T xs li::D):=h.more ay
theorem Kc {α:Type} {T:db α} {t e:TypeId} {x y:Operand} {z:Value} {bytes m c:Nat} {v:Value} {li ml l':List α} {xs cs:List Value} {ea:Addr} (i:Nat) (hm:bn W M0 X w E D) (hi:E[i]? =some (a7.row e T.size v li xs))
 (fx:P.underlying t=some (.slice e)) (jF:(P.info? e).map (fun i=>(i.zero,i.size,i.bytes))=some (some z,T.size,bytes)) (aj:z.cells.size=T.size) (cX:0 <T.size)
 (ay:bR bytes li ml=some l') (u9:ml.length=m) (l5:0 <bytes)
 (jm:dO T (hF (X++b4 E) w) w xs li) (hcs:dO T (hF (X++b4 E) w) w cs ml) (ij:∀ j u,cs[j]? =some u->w.cell? (ea.add j)=some u)
 (hw:Region.wanted o (yielded ops a.tmps)=true)
 (ap:o.op= .call { callee:=.builtin .append,args:=#[x,y],argTypes:=#[t,t] }) (ad:a.eval x=v) (hy:a.eval y= .slice (some ea) m c) (af:Fr n l a) (aL:o.dst=some d) (aA:Nat.blt d n=true)
 (k:∀ a2 A bC w',bp v.ownBlock.toList w w'->Fr n ((d,.slice A l'.length bC)::l) a2->bn W M0 X w' (E.set i (a7.row e T.size (.slice A l'.length bC) l' (xs++cs))) (bt.rows T (xs++cs) l'::D)->wpList P ops Q rest a2 w'):wpList P ops Q (o::rest) a w:=by
 obtain ⟨i0,DR,Zd,yE,qI⟩:=Zi jF
 obtain ⟨OH,rfl⟩:=G0 ay
 have jV:w.ownsRow 0 e T.size v li.length xs:=hm.e i hi
 subst u9
 have aoV:li.length+ml.length<=maxLen:=by
  have aa:=Nat.le_mul_of_pos_right (li.length+ml.length) l5
  simp only [maxLen]
  omega
 obtain ⟨fh,w',g8,aa,aq,_,c8⟩:=run_append_own_at (P:=P) w 0 t o.type e i0 z T.size bytes fx DR Zd yE qI aj cX v li.length xs jV ea ml.length c cs (tw T hcs)
  ij (BW T hcs) aoV OH (Nat.zero_le _)
 have n':(a7.row e T.size fh (li++ml) (xs++cs)).ok w':=by
  show w'.ownsRow 0 e T.size fh (li++ml).length (xs++cs)
  rw [List.length_append];exact aa
 obtain ⟨A,bC,rfl,_⟩:=Fm n'
 have m3:bd P o a w (.slice A (li++ml).length bC) w':=by
  simp only [bd,execOp,ap,resolve,invoke,builtin,Sem.run_bind,Sem.run_pure,Result.andThen_ok,List.map_toArray,List.map_cons,List.map_nil,ad,hy,g8]
 have D1:=hm.abQ (Fc T hcs jm)
 refine nr hw m3 af aL aA fun a2 dL=>k a2 A bC w' (bp.grown aq) dL (D1.Kt i hi (bp.grown aq) n' (at' _) fun q aQ=>?_)
 have sF:(Value.slice A (li++ml).length bC).ownBlock=some q:=by simpa [a7.row] using aQ
 rcases c8 with e5 | e5
 · left;simpa [a7.row,<-e5] using sF
 · right
   rw [e5] at sF
   injection sF with sF
   subst sF
   refine ⟨Nat.le_refl _,?_⟩
   rcases aa.2 with ⟨ag,_⟩ | ⟨g',cap,cur,ag,_,fC,_⟩
   · rw [ag] at e5;simp [Value.ownBlock] at e5
   · rw [ag] at e5
     have:g'=w.heap.size:=by simpa [Value.ownBlock] using e5
     subst this
     exact (Array.getElem?_eq_some_iff.1 fC).1
theorem Fq {α:Type} {T:db α} {t e:TypeId} {x y:Operand} {z:Value} {bytes g m c:Nat} {v:Value} {li ml l':List α} {xs cs:List Value} (i j q:Nat) (hm:bn W M0 X w E D) (hi:E[i]? =some (a7.row e T.size v li xs)) (aC:E[j]? =some (a7.dQ g e cs)) (aQ:D[q]? =some (bt.rows T xs li))
 (fx:P.underlying t=some (.slice e)) (jF:(P.info? e).map (fun i=>(i.zero,i.size,i.bytes))=some (some z,T.size,bytes)) (aj:z.cells.size=T.size) (cX:Nat.blt 0 T.size=true)
 (ay:bR bytes li ml=some l') (u9:ml.length=m) (l5:Nat.blt 0 bytes=true) (hcs:dO T (hF (X++b4 E) w) w cs ml)
 (hw:Region.wanted o (yielded ops a.tmps)=true)
 (ap:o.op= .call { callee:=.builtin .append,args:=#[x,y],argTypes:=#[t,t] }) (ad:a.eval x=v) (hy:a.eval y= .slice (some ⟨g,0,none⟩) m c) (af:Fr n l a) (aL:o.dst=some d) (aA:Nat.blt d n=true)
 (k:∀ a2 A bC eL w',Fr n ((d,.slice A l'.length bC)::l) a2->bn W M0 X w' ((E.set i (a7.row e T.size (.slice A l'.length bC) l' eL)).eraseIdx j) (bt.rows T eL l'::D)->wpList P ops Q rest a2 w'):wpList P ops Q (o::rest) a w:=by
 have ah:=hm.e j aC
 exact Kc i hm hi fx jF aj (Nat.le_of_ble_eq_true cX) ay u9 (Nat.le_of_ble_eq_true l5) (hm.d q aQ) hcs (fun j u hu=>by rw [jN];simpa using uC ah hu) hw ap ad hy af aL aA
  fun a2 A bC w' _ dL dV=>k a2 A bC _ w' dL (dV.Ht j)
theorem SV {α:Type} {T:db α} {t e:TypeId} {x y:Operand} {z:Value} {bytes g m c:Nat} {v:Value} {li ml l':List α} {xs cs:List Value} (i j q:Nat) (hm:bn W M0 X w E D) (hi:E[i]? =some (a7.row e T.size v li xs)) (aC:E[j]? =some (a7.dQ g e cs)) (aQ:D[q]? =some (bt.rows T xs li))
 (fx:P.underlying t=some (.slice e)) (jF:(P.info? e).map (fun i=>(i.zero,i.size,i.bytes))=some (some z,T.size,bytes)) (aj:z.cells.size=T.size) (cX:Nat.blt 0 T.size=true)
 (ay:bR bytes li ml=some l') (u9:ml.length=m) (l5:Nat.blt 0 bytes=true) (hcs:dO T (hF (X++b4 E) w) w cs ml)
 (hw:Region.wanted o (yielded ops a.tmps)=true)
 (ap:o.op= .call { callee:=.builtin .append,args:=#[x,y],argTypes:=#[t,t] }) (ad:a.eval x=v) (hy:a.eval y= .slice (some ⟨g,0,none⟩) m c) (af:Fr n l a) (aL:o.dst=some d) (aA:Nat.blt d n=true)
 (k:∀ a2 A bC eL w',bp v.ownBlock.toList w w'->Fr n ((d,.slice A l'.length bC)::l) a2->bn W M0 X w' ((E.set i (a7.row e T.size (.slice A l'.length bC) l' eL)).eraseIdx j) (bt.rows T eL l'::D)->wpList P ops Q rest a2 w'):wpList P ops Q (o::rest) a w:=by
 have ah:=hm.e j aC
 exact Kc i hm hi fx jF aj (Nat.le_of_ble_eq_true cX) ay u9 (Nat.le_of_ble_eq_true l5) (hm.d q aQ) hcs (fun j u hu=>by rw [jN];simpa using uC ah hu) hw ap ad hy af aL aA
  fun a2 A bC w' ag dL dV=>k a2 A bC _ w' ag dL (dV.Ht j)
theorem aBC {t e:TypeId} {x y:Operand} {v:Value} {sz k:Nat} {xs:List Value} {z:Value} {bytes:Nat} (fx:P.underlying t=some (.slice e)) (jF:(P.info? e).map (fun i=>(i.zero,i.size,i.bytes))=some (some z,sz,bytes)) (jV:w.ownsRow 0 e sz v k xs)
 (ap:o.op= .call { callee:=.builtin .append,args:=#[x,y],argTypes:=#[t,t] }) (ad:a.eval x=v) (hy:a.eval y= .slice none 0 0):bd P o a w v w:=by
 obtain ⟨i0,DR,Zd,yE,qI⟩:=Zi jF
 have g8:=run_append_owned_none (P:=P) (w:=w) 0 t o.type e i0 sz fx DR v k xs jV
 simp only [bd,execOp,ap,resolve,invoke,builtin,Sem.run_bind,Sem.run_pure,Result.andThen_ok,List.map_toArray,List.map_cons,List.map_nil,ad,hy,g8]
theorem axx {α:Type} {T:db α} {t e:TypeId} {x y:Operand} {z:Value} {bytes c:Nat} {v:Value} {li ml l':List α} {xs:List Value} {oR:Option Addr} (i q p:Nat) (hm:bn W M0 X w E D) (hi:E[i]? =some (a7.row e T.size v li xs)) (aQ:D[q]? =some (bt.rows T xs li)) (aD:D[p]? =some (bt.of (bZ T) [.slice oR ml.length c] ml))
 (fx:P.underlying t=some (.slice e)) (jF:(P.info? e).map (fun i=>(i.zero,i.size,i.bytes))=some (some z,T.size,bytes)) (aj:z.cells.size=T.size) (cX:Nat.blt 0 T.size=true)
 (ay:bR bytes li ml=some l') (l5:Nat.blt 0 bytes=true)
 (hw:Region.wanted o (yielded ops a.tmps)=true)
 (ap:o.op= .call { callee:=.builtin .append,args:=#[x,y],argTypes:=#[t,t] }) (ad:a.eval x=v) (hy:a.eval y= .slice oR ml.length c) (af:Fr n l a) (aL:o.dst=some d) (aA:Nat.blt d n=true)
 (k:∀ a2 A bC eL w',bp v.ownBlock.toList w w'->Fr n ((d,.slice A l'.length bC)::l) a2->bn W M0 X w' (E.set i (a7.row e T.size (.slice A l'.length bC) l' eL)) (bt.rows T eL l'::D)->wpList P ops Q rest a2 w'):wpList P ops Q (o::rest) a w:=by
 have jm:=hm.d q aQ
 have apl:(bZ T).rd (hF (X++b4 E) w) w [.slice oR ml.length c] ml:=hm.d p aD
 obtain ⟨dW,c1,e1,e2,e3,e4,e5⟩:=apl
 simp only [List.cons.injEq,Value.slice.injEq,and_true,true_and] at e1
 obtain ⟨rfl,rfl⟩:=e1
 by_cases u9:ml= []
 · subst u9
   cases oR with
   | none=>
     have l6:=e4 rfl
     subst l6
     have jV:w.ownsRow 0 e T.size v li.length xs:=hm.e i hi
     have n':(a7.row e T.size v li xs).ok w:=hm.e i hi
     obtain ⟨A,bC,rfl,_⟩:=Fm n'
     obtain ⟨_,rfl⟩:=G0 ay
     refine nr hw (aBC fx jF jV ap ad hy) af aL aA fun a2 dL=>?_
     have ak:li++[]=li:=List.append_nil li
     refine k a2 A bC xs w (bp.refl _ w) (by rw [ak];exact dL) ?_
     rw [ak]
     have a5:E.set i (a7.row e T.size (.slice A li.length bC) li xs)=E:=by
      obtain ⟨bs,he⟩:=List.getElem?_eq_some_iff.1 hi
      rw [<-he,List.set_getElem_self]
     rw [a5]
     exact hm.more jm
   | some ea=>
     exact Kc (cs:=[]) i hm hi fx jF aj (Nat.le_of_ble_eq_true cX) ay rfl (Nat.le_of_ble_eq_true l5) jm rfl (fun j u hu=>by simp at hu) hw ap ad hy af aL aA fun a2 A bC w' ag dL dV=>k a2 A bC _ w' ag dL dV
 · obtain ⟨dH,bB,cs,fI,iP⟩:=e5 u9
   rw [dH] at hy
   exact Kc (cs:=cs) i hm hi fx jF aj (Nat.le_of_ble_eq_true cX) ay rfl (Nat.le_of_ble_eq_true l5) jm fI (fun j u hu=>by rw [jN];exact iP j u hu) hw ap ad hy af aL aA fun a2 A bC w' ag dL dV=>k a2 A bC _ w' ag dL dV
theorem axw {α:Type} {T:db α} {t e:TypeId} {x y:Operand} {z:Value} {bytes c:Nat} {v:Value} {li ml l':List α} {xs:List Value} {oR:Option Addr} (i q p:Nat) (hm:bn W M0 X w E D) (hi:E[i]? =some (a7.row e T.size v li xs)) (aQ:D[q]? =some (bt.rows T xs li)) (aD:D[p]? =some (bt.of (bZ T) [.slice oR ml.length c] ml))
 (fx:P.underlying t=some (.slice e)) (jF:(P.info? e).map (fun i=>(i.zero,i.size,i.bytes))=some (some z,T.size,bytes)) (aj:z.cells.size=T.size) (cX:Nat.blt 0 T.size=true)
 (ay:bR bytes li ml=some l') (l5:Nat.blt 0 bytes=true)
 (hw:Region.wanted o (yielded ops a.tmps)=true)
 (ap:o.op= .call { callee:=.builtin .append,args:=#[x,y],argTypes:=#[t,t] }) (ad:a.eval x=v) (hy:a.eval y= .slice oR ml.length c) (af:Fr n l a) (aL:o.dst=some d) (aA:Nat.blt d n=true)
 (k:∀ a2 A bC eL w',Fr n ((d,.slice A l'.length bC)::l) a2->bn W M0 X w' (E.set i (a7.row e T.size (.slice A l'.length bC) l' eL)) (bt.rows T eL l'::D)->wpList P ops Q rest a2 w'):wpList P ops Q (o::rest) a w:=
 axx i q p hm hi aQ aD fx jF aj cX ay l5 hw ap ad hy af aL aA fun a2 A bC eL w' _=>k a2 A bC eL w'
theorem wa {x:Value} {y:Nat} {code:BoundsCode} {k:IntKind} {i:Int} (ad:x= .int k i) (h:0 <=i/\i<=y):(Instr.sliceBound x y code).run P w= .ok i.toNat w:=by
 subst ad
 simp [Instr.sliceBound,asIntOf,h]
end
end av
namespace av
open Go Go.RowKit J
section
variable {α:Type} {T:db α}
theorem SA {F:Nat->Prop} {w:World} {d':α} {jz:List Value} (h':T.rd F w jz d'):∀ {li:List α} {xs:List Value} {i:Nat},dO T F w xs li->i <li.length->dO T F w (xs.take (i*T.size)++jz++xs.drop (i*T.size+T.size)) (li.set i d')
 | [],_,i,_,hi=>by simp at hi
 | d::r,xs,0,h,_=>by
   obtain ⟨cs,ys,rfl,I,aa⟩:=h
   have ak:=T.len I
   refine ⟨jz,ys,?_,h',aa⟩
   simp [<-ak]
 | d::r,xs,i+ 1,h,hi=>by
   obtain ⟨cs,ys,rfl,I,aa⟩:=h
   have ak:=T.len I
   have ba:=SA h' aa (i:=i) (by simpa using hi)
   refine ⟨cs,_,?_,I,ba⟩
   have e1:(i+ 1)*T.size=cs.length+i*T.size:=by rw [Nat.add_mul];omega
   rw [e1,List.take_append,List.take_of_length_le (by omega),show cs.length+i*T.size - cs.length=i*T.size by omega,List.drop_append,List.drop_of_length_le (l:=cs) (by omega),
    show cs.length+i*T.size+T.size - cs.length=i*T.size+T.size by omega]
   simp
end
theorem S5 {β:Type} {L vs:List β} {p N:Nat} (I:p+vs.length<=N) (aa:N<=L.length):(L.take p++vs++L.drop (p+vs.length)).take N=(L.take N).take p++vs++(L.take N).drop (p+vs.length):=by
 have ak:(L.take p++vs).length=p+vs.length:=by rw [List.length_append,List.length_take];omega
 rw [List.take_append,List.take_of_length_le (by omega),ak,List.take_take,Nat.min_eq_left (by omega),List.drop_take]
section
variable {P:Program} {ops:Array Oper} {Q:Exit->Act->World->Prop} {a:Act} {w:World} {rest:List Oper} {o:Oper} {n:cI} {d:Nat} {l:List (Nat × Value)}
 {W:World} {M0 X:List Nat} {E:List a7} {D:List bt}
theorem XB {xs cs:List Value} {p:Nat} (h:∀ j u,cs[j]? =some u->xs[p+j]? =some u):(xs.drop p).take cs.length=cs:=by
 apply List.ext_getElem?
 intro j
 rw [List.getElem?_take]
 by_cases aC:j <cs.length
 · rw [if_pos aC,List.getElem?_drop,List.getElem?_eq_getElem aC]
   exact h j _ (List.getElem?_eq_getElem aC)
 · rw [if_neg aC,List.getElem?_eq_none (by omega)]
theorem axF {α:Type} {T:db α} {t e:TypeId} {x y:Operand} {A:Option Addr} {c kk sz:Nat} {li:List α} {xs cs0 vs:List Value} {z:Int} {d0 d':α} {v:Value} (i q:Nat) (hm:bn W M0 X w E D) (hi:E[i]? =some (a7.row e T.size (.slice A li.length c) li xs)) (aQ:D[q]? =some (bt.rows T xs li))
 (aj:idx li z=some d0) (hcs:T.rd (hF (X++b4 E) w) w cs0 d0) (jT:eT w ⟨di A,f_ A+z.toNat*T.size,none⟩ cs0) (hw:Region.wanted o (yielded ops a.tmps)=true)
 (ag:v.cells=vs.toArray) (ao:∀ w,(Go.sizeOf t).run P w= .ok sz w) (ak:Nat.beq vs.length sz=true) (I:vs.all (·.oneCell')=true) (hle:Nat.ble (kk+vs.length) cs0.length=true)
 (D7:T.rd (hF (X++b4 E) w) w (lay cs0 kk vs) d')
 (ap:o.op= .store t x y) (ad:a.eval x= .pointer (some ⟨di A,f_ A+z.toNat*T.size+kk,none⟩)) (hy:a.eval y=v) (aL:o.dst=none)
 (k:∀ eL w',bp (Value.slice A li.length c).ownBlock.toList w w'->bn W M0 X w' (E.set i (a7.row e T.size (.slice A li.length c) (li.set z.toNat d') eL)) (bt.rows T eL (li.set z.toNat d')::D)->wpList P ops Q rest a w'):wpList P ops Q (o::rest) a w:=by
 obtain ⟨hR,qa,w9⟩:=jW aj
 have hlen:vs.length=sz:=Nat.eq_of_beq_eq_true ak
 have Bb:kk+vs.length<=cs0.length:=Nat.le_of_ble_eq_true hle
 have l6:=T.len hcs
 have jV:w.ownsRow 0 e T.size (.slice A li.length c) li.length xs:=hm.e i hi
 have aqh:dO T (hF (X++b4 E) w) w xs li:=hm.d q aQ
 rcases jV.2 with ⟨_,cW⟩ | ⟨g,cap,cur,e1,_,aw,YT,qL,OS,aqq⟩
 · omega
 simp only [Value.slice.injEq,true_and] at e1
 obtain ⟨rfl,rfl⟩:=e1
 have aoW:di (some ⟨g,0,none⟩)=g:=rfl
 have ap0:f_ (some ⟨g,0,none⟩)= 0 :=rfl
 simp only [aoW,ap0,Nat.zero_add] at ad jT
 have hmul:(z.toNat+ 1)*T.size<=li.length*T.size:=Nat.mul_le_mul_right _ qa
 have aCQ:li.length*T.size<=c*T.size:=Nat.mul_le_mul_right _ YT
 have aCT:(z.toNat+ 1)*T.size=z.toNat*T.size+T.size:=by rw [Nat.add_mul,Nat.one_mul]
 have ob:xs.length=li.length*T.size:=jV.1
 have hold:(xs.drop (z.toNat*T.size)).take cs0.length=cs0:=XB fun j u aC=>by
  have:=jT j u aC
  have mY:j <cs0.length:=(List.getElem?_eq_some_iff.1 aC).1
  rw [World.ownsRow.cellAt jV (z.toNat*T.size+j) (by omega)] at this
  exact this
 have gn:=run_storeCells_at P g (z.toNat*T.size+kk) e vs 0 cur w aw (by omega) (fun u hu=>List.all_eq_true.1 I u hu)
 simp only [Nat.add_zero] at gn
 obtain ⟨p,aD⟩:∃ p,p=z.toNat*T.size+kk:=⟨_,rfl⟩
 rw [<-aD] at gn ad
 have aCK:cur.toList.length=c*T.size:=by simpa using OS
 obtain ⟨eL,PF⟩:∃ eL,eL=xs.take p++vs++xs.drop (p+vs.length):=⟨_,rfl⟩
 have apU:eL=xs.take (z.toNat*T.size)++lay cs0 kk vs++xs.drop (z.toNat*T.size+T.size):=by
  rw [PF,Qk _ _ _ Bb]
  have aqn:xs=xs.take (z.toNat*T.size)++(cs0++xs.drop (z.toNat*T.size+T.size)):=by
   conv=>lhs;rw [<-List.take_append_drop (z.toNat*T.size) xs]
   congr 1
   rw [<-List.take_append_drop cs0.length (xs.drop (z.toNat*T.size)),hold,List.drop_drop,l6]
  have Ii:(xs.take (z.toNat*T.size)).length=z.toNat*T.size:=by rw [List.length_take];omega
  conv=>lhs;rw [aqn]
  rw [List.take_append,List.take_of_length_le (by rw [Ii];omega),Ii,List.drop_append,List.drop_of_length_le (l:=xs.take (z.toNat*T.size)) (by rw [Ii];omega),Ii,
   show p - z.toNat*T.size=kk by omega,show p+vs.length - z.toNat*T.size=kk+vs.length by omega,List.take_append_of_le_length (by omega),List.drop_append_of_le_length (by omega)]
  simp
 have aqK:eL.length=li.length*T.size:=by
  rw [PF];simp only [List.length_append,List.length_take,List.length_drop];omega
 have n':(a7.row e T.size (.slice (some ⟨g,0,none⟩) li.length c) (li.set z.toNat d') eL).ok (w.setRow g (cur.toList.take p++vs++cur.toList.drop (p+vs.length)).toArray):=by
  show World.ownsRow _ 0 e T.size _ (li.set z.toNat d').length eL
  rw [List.length_set]
  refine ⟨aqK,.inr ⟨g,c,(cur.toList.take p++vs++cur.toList.drop (p+vs.length)).toArray,rfl,Nat.zero_le _,?_,YT,qL,?_,?_⟩⟩
  · simp only [World.setRow,Array.getElem?_modify,if_true,aw]
    rfl
  · simp only [List.size_toArray,List.length_append,List.length_take,List.length_drop];omega
  · rw [List.toList_toArray,PF,<-aqq]
    exact S5 (by omega) (by omega)
 have PI:o5 P o a w (w.setRow g (cur.toList.take p++vs++cur.toList.drop (p+vs.length)).toArray):=by
  simp only [o5,execOp,ap,ad,hy]
  simp only [List.append_assoc,hlen] at gn ⊢
  have fc:=ag
  unfold Value.cells at fc
  simp [go_sem,Instr.storeAt,storeVar,ao,fc,hlen,gn]
 have D1:=hm.abQ (T:=T) (xs:=eL) (li:=li.set z.toNat d') (by rw [apU];exact SA D7 aqh qa)
 have jD:bp (Value.slice (some ⟨g,0,none⟩) li.length c).ownBlock.toList w (w.setRow g (cur.toList.take p++vs++cur.toList.drop (p+vs.length)).toArray):=⟨rfl,rfl,rfl,by simp [World.setRow],fun b _ aA=>by
  simp only [World.setRow,Array.getElem?_modify]
  rw [if_neg (by simpa [Value.ownBlock,eq_comm] using aA)]⟩
 exact iz hw PI aL (k eL _ jD (D1.Kt i hi jD n' (by simp [a7.row,Value.ownBlock]) (fun b ah=>.inl (by simpa [a7.row] using ah))))
theorem axG {α:Type} {T:db α} {t e:TypeId} {x y:Operand} {A:Option Addr} {c kk sz:Nat} {li cj:List α} {xs cs0 vs:List Value} {z:Int} {d0 d':α} {v:Value} (i q:Nat) (DZ:some (li.set z.toNat d')=some cj) (hm:bn W M0 X w E D) (hi:E[i]? =some (a7.row e T.size (.slice A li.length c) li xs)) (aQ:D[q]? =some (bt.rows T xs li))
 (aj:idx li z=some d0) (hcs:T.rd (hF (X++b4 E) w) w cs0 d0) (jT:eT w ⟨di A,f_ A+z.toNat*T.size,none⟩ cs0) (hw:Region.wanted o (yielded ops a.tmps)=true)
 (ag:v.cells=vs.toArray) (ao:∀ w,(Go.sizeOf t).run P w= .ok sz w) (ak:Nat.beq vs.length sz=true) (I:vs.all (·.oneCell')=true) (hle:Nat.ble (kk+vs.length) cs0.length=true)
 (D7:T.rd (hF (X++b4 E) w) w (lay cs0 kk vs) d')
 (ap:o.op= .store t x y) (ad:a.eval x= .pointer (some ⟨di A,f_ A+z.toNat*T.size+kk,none⟩)) (hy:a.eval y=v) (aL:o.dst=none)
 (k:∀ eL w',li.length=cj.length->bp (Value.slice A li.length c).ownBlock.toList w w'->bn W M0 X w' (E.set i (a7.row e T.size (.slice A li.length c) cj eL)) (bt.rows T eL cj::D)->wpList P ops Q rest a w'):wpList P ops Q (o::rest) a w:=by
 obtain rfl:=Option.some.inj DZ
 exact axF i q hm hi aQ aj hcs jT hw ag ao ak I hle D7 ap ad hy aL fun eL w'=>k eL w' (by rw [List.length_set])
theorem axi {A:Option Addr} {m c sz:Nat} {t e:TypeId} {lo hi:Option Value} {i j:Int} (aJ:P.underlying t=some (.slice e)) (ao:∀ w,(Go.sizeOf e).run P w= .ok sz w)
 (m0:(lo=none/\i= 0)\/lo=some (.int .i64 i)) (jE:(hi=none/\j=m)\/hi=some (.int .i64 j)) (h:0 <=i/\i<=j/\j<=m) (YP:m<=c) :
 (Instr.slice t (.slice A m c) lo hi none).run P w= .ok (.slice (if c=i.toNat then A else A.map (·.add (i.toNat*sz))) (j.toNat - i.toNat) (c - i.toNat)) w:=by
 have ah:(Instr.sliceBounds true m c lo hi none).run P w= .ok (i.toNat,j.toNat,c) w:=by
  have bX:∀ code,(Instr.sliceBound (.int .i64 j) c code).run P w= .ok j.toNat w:=fun code=>wa rfl (by omega)
  have eb:∀ code,(Instr.sliceBound (.int .i64 i) j.toNat code).run P w= .ok i.toNat w:=fun code=>wa rfl (by omega)
  have gk:j=m-> ∀ code,(Instr.sliceBound (.int .i64 i) m code).run P w= .ok i.toNat w:=fun e code=>wa rfl (by omega)
  rcases m0 with ⟨rfl,rfl⟩ | rfl <;> rcases jE with ⟨rfl,aC⟩ | rfl
  · simp [Instr.sliceBounds,aC]
  · simp [Instr.sliceBounds,bX]
  · simp [Instr.sliceBounds,gk aC,aC]
  · simp [Instr.sliceBounds,bX,eb]
 simp [Instr.slice,run_underlying aJ,ah,ao]
theorem LC {A:Option Addr} {m c sz:Nat} {t e:TypeId} {x:Operand} {lo hi:Option Operand} {i j:Int} (aJ:P.underlying t=some (.slice e)) (ao:∀ w,(Go.sizeOf e).run P w= .ok sz w) (ap:o.op= .slice t x lo hi none) (ad:a.eval x= .slice A m c)
 (m0:(lo=none/\i= 0)\/ ∃ z,lo=some z/\a.eval z= .int .i64 i) (jE:(hi=none/\j=m)\/ ∃ z,hi=some z/\a.eval z= .int .i64 j) (h:0 <=i/\i<=j/\j<=m) (YP:m<=c) :
 bd P o a w (.slice (if c=i.toNat then A else A.map (·.add (i.toNat*sz))) (j.toNat - i.toNat) (c - i.toNat)) w:=by
 have ay:=axi (P:=P) (w:=w) (A:=A) (m:=m) (c:=c) (lo:=lo.map a.eval) (hi:=hi.map a.eval) aJ ao (i:=i) (j:=j)
  (m0.imp (fun h=>⟨by rw [h.1];rfl,h.2⟩) (fun ⟨z,I,aa⟩=>by rw [I,Option.map_some,aa])) (jE.imp (fun h=>⟨by rw [h.1];rfl,h.2⟩) (fun ⟨z,I,aa⟩=>by rw [I,Option.map_some,aa])) h YP
 simp only [bd,execOp,ap,ad,Instr.sliceAt,Sem.run_bind,run_underlying aJ,Result.andThen_ok,Option.map_none,ay]
 rfl
theorem Mw {α:Type} {l r:List α} {i j:Int} (h:cut l i j=some r):(0 <=i/\i<=j/\j<=l.length)/\r=(l.take j.toNat).drop i.toNat:=by
 unfold cut at h
 split at h
 · rename_i aN;exact ⟨aN,by simpa using h.symm⟩
 · cases h
theorem rm {α:Type} {T:db α} {F:Nat->Prop} {w:World}:∀ {l:List α} {xs:List Value} (i j:Nat),dO T F w xs l->dO T F w ((xs.take (j*T.size)).drop (i*T.size)) ((l.take j).drop i)
 | [],xs,i,j,h=>by
   have h:xs= []:=h
   subst h
   have e:(([]:List α).take j).drop i= []:=by simp
   rw [e]
   show List.drop _ (List.take _ _)= []
   simp
 | d::r,xs,i,0,h=>by
   have e:((d::r).take 0).drop i= []:=by simp
   rw [e]
   show List.drop _ (List.take _ _)= []
   simp
 | d::r,xs,0,j+ 1,h=>by
   obtain ⟨cs,ys,rfl,I,aa⟩:=h
   have ak:=T.len I
   have ba:=rm 0 j aa
   simp only [Nat.zero_mul,List.drop_zero] at ba ⊢
   rw [List.take_succ_cons,show (j+ 1)*T.size=cs.length+j*T.size by rw [Nat.add_mul];omega,List.take_append,List.take_of_length_le (by omega),show cs.length+j*T.size - cs.length=j*T.size by omega]
   exact ⟨cs,_,rfl,I,ba⟩
 | d::r,xs,i+ 1,j+ 1,h=>by
   obtain ⟨cs,ys,rfl,I,aa⟩:=h
   have ak:=T.len I
   have ba:=rm i j aa
   rw [List.take_succ_cons,List.drop_succ_cons,show (j+ 1)*T.size=cs.length+j*T.size by rw [Nat.add_mul];omega,List.take_append,List.take_of_length_le (by omega),show cs.length+j*T.size - cs.length=j*T.size by omega,
    show (i+ 1)*T.size=cs.length+i*T.size by rw [Nat.add_mul];omega,List.drop_append,List.drop_of_length_le (l:=cs) (by omega),show cs.length+i*T.size - cs.length=i*T.size by omega,List.nil_append]
   exact ba
end
end av
namespace av
open Go Go.RowKit J
section
variable {P:Program} {ops:Array Oper} {Q:Exit->Act->World->Prop} {a:Act} {w:World} {rest:List Oper} {o:Oper} {n:cI} {d:Nat} {l:List (Nat × Value)}
 {W:World} {M0 X:List Nat} {E:List a7} {D:List bt}
theorem Fr.km (af:Fr n l a) (t:Nat) {b c:Bool} (ak:eo l t=some (.bool b)) (ah:b=c):Fr n ((t,.bool c)::l) a:=
 ⟨af.size,af.defers,fun u v h=>by
  simp only [eo] at h
  cases OQ:Nat.beq t u with
  | true=>
    rw [OQ] at h
    simp only [Option.some.injEq] at h
    rw [<-Nat.eq_of_beq_eq_true OQ,<-h,<-ah]
    exact af.get t _ ak
  | false=>rw [OQ] at h;exact af.get u v h⟩
theorem vY {t:TypeId} {cs:List Value} (hw:Region.wanted o (yielded ops a.tmps)=true) (hy:bd P o a w (.pointer (some ⟨w.heap.size,0,none⟩)) (w.alloc (.cells cs.toArray t))) (af:Fr n l a) (hm:bn W M0 X w E D)
 (aL:o.dst=some d) (aA:Nat.blt d n=true) (k:∀ a2 g w',bp [] w w'->Fr n ((d,.pointer (some ⟨g,0,none⟩))::l) a2->bn W M0 X w' (a7.dQ g t cs::E) D->wpList P ops Q rest a2 w'):wpList P ops Q (o::rest) a w:=
 nr hw hy af aL aA fun a2 dL=>k a2 _ _ (bp.alloc _ _ _) dL (hm.new t cs)
theorem aai {t:TypeId} {cs:List Value} {m:Nat} (hw:Region.wanted o (yielded ops a.tmps)=true) (hy:bd P o a w (.slice (some ⟨w.heap.size,0,none⟩) m m) (w.alloc (.cells cs.toArray t))) (af:Fr n l a) (hm:bn W M0 X w E D)
 (aL:o.dst=some d) (aA:Nat.blt d n=true) (k:∀ a2 g w',bp [] w w'->Fr n ((d,.slice (some ⟨g,0,none⟩) m m)::l) a2->bn W M0 X w' (a7.dQ g t cs::E) D->wpList P ops Q rest a2 w'):wpList P ops Q (o::rest) a w:=
 nr hw hy af aL aA fun a2 dL=>k a2 _ _ (bp.alloc _ _ _) dL (hm.new t cs)
theorem aBE {t e:TypeId} {sz:Nat} (hu:P.underlying t=some (.slice e)) (ao:∀ w,(Go.sizeOf e).run P w= .ok sz w) (ap:o.op= .buildSlice t 0 (List.toArray [])) :
 bd P o a w (.slice (some ⟨w.heap.size,0,none⟩) 0 0) (w.alloc (.cells (List.toArray []) e)):=by
 simp only [bd,execOp,ap,Instr.buildSlice,Sem.run_bind,Sem.run_pure,ao,Result.andThen_ok,run_underlying hu]
 simp [Instr.fill,newRow,go_sem]
theorem akT {S:World->Prop} {f p:Nat} {ds:List Nat} {v:Value} (i:Nat) (hi:ops[i]? =some o) (aJ:(Kp ops ds i && !Nat.beq p i)=true) (hw:Region.wanted o (yielded ops a.tmps)=true) (hy:∀ w',bd P o a w' v w') (mT:S w)
 (af:Fr n l a) (aL:o.dst=some d) (aA:Nat.blt d n=true) (k:∀ a2,Fr n ((d,v)::l) a2->eS P ops Q p S f (i::ds) a2 w):eS P ops Q p S (f+ 1) ds a w:=by
 simp only [Bool.and_eq_true,Bool.not_eq_true'] at aJ
 obtain ⟨oa,sE⟩:=aJ
 have D':p≠i:=fun e=>by rw [e] at sE;simp at sE
 simp only [Kp,Bool.and_eq_true] at oa
 refine ⟨fun _=>mT,?_⟩
 refine ac8 (v:=v) hi (Region.noSelect_spec oa.1.1) D' (fun c a w h=>h) f _ a w (Region.free_spec hi oa.1.2) (fun _=>mT) (by simpa using oa.2) (.inl ⟨hw,fun w _=>hy w⟩) ?_
 rw [aL]
 exact (k _ (af.put aA)).2
end
section
variable {P:Program} {o:Oper} {a:Act} {w:World} {xs ys:Array Value}
theorem WZ {d sz:Nat} {f:Go.Field} {l:List Go.Field} {us vs:List Value} {e q:Prop} [Decidable e] [Decidable q] (aA:(f.name != "_")=true) (aw:∀ w,(isAgg f.type).run P w= .ok true w) (ao:∀ w,(Go.sizeOf f.type).run P w= .ok sz w)
 (ad:xs.extract f.offset (f.offset+sz)=us.toArray) (hy:ys.extract f.offset (f.offset+sz)=vs.toArray) (aQ:(Op.equalIn (d+ 1) f.type (.agg us.toArray) (.agg vs.toArray)).run P w= .ok (decide q) w)
 (h:(Op.eqFields (d+ 1) xs ys l).run P w= .ok (decide e) w):(Op.eqFields (d+ 1) xs ys (f::l)).run P w= .ok (decide (q/\e)) w:=by
 have pw:f.name≠ "_" :=by simpa using aA
 simp only [Op.eqFields,pw,if_true,ne_eq,not_false_iff,part,Sem.run_bind,aw,ao,Result.andThen_ok,ad,hy,Sem.run_pure,aQ]
 by_cases sC:q
 · simp [sC,h]
 · simp [sC]
theorem W0 {d:Nat} {t:TypeId} {cq:Array Go.Field} {q:Prop} [Decidable q] (aJ:P.underlying t=some (.struct cq)) (aD:P.stoodInHeld t=false) (h:(Op.eqFields d xs ys cq.toList).run P w= .ok (decide q) w):(Op.equalIn (d+ 1) t (.agg xs) (.agg ys)).run P w= .ok (decide q) w:=by
 have af:P.fieldsOf t=cq:=by simp [Program.fieldsOf,aJ]
 have h':=run_equalIn_struct (P:=P) w d t xs ys (by rw [af];exact aJ) aD
 rw [af,h] at h'
 exact h'
theorem uM {d:Nat} {f:Go.Field} {l:List Go.Field} {m n:List UInt8} {e:Prop} [Decidable e] (aA:(f.name != "_")=true) (hu:P.underlying f.type=some .string) (aw:∀ w,(isAgg f.type).run P w= .ok false w)
 (ad:xs[f.offset]? =some (cg m)) (hy:ys[f.offset]? =some (cg n)) (h:(Op.eqFields (d+ 1) xs ys l).run P w= .ok (decide e) w):(Op.eqFields (d+ 1) xs ys (f::l)).run P w= .ok (decide (m=n/\e)) w:=by
 have pw:f.name≠ "_" :=by simpa using aA
 have heq:(Op.equalIn (d+ 1) f.type (cg m) (cg n)).run P w= .ok (decide (m=n)) w:=by
  simp only [Op.equalIn,Sem.run_bind,run_underlying hu,Result.andThen_ok]
  rw [<-Mf m n]
  rfl
 simp only [Op.eqFields,pw,if_true,ne_eq,not_false_iff,part,Sem.run_bind,aw,Result.andThen_ok,ad,hy,Bool.false_eq_true,if_false,Sem.run_pure,heq]
 by_cases sC:m=n
 · subst sC;simp [h]
 · simp [sC]
end
section
variable {P:Program} {ops:Array Oper} {Q:Exit->Act->World->Prop} {a:Act} {w:World} {rest:List Oper} {o:Oper} {n:cI} {d:Nat} {l:List (Nat × Value)}
 {W:World} {M0 X:List Nat} {E:List a7} {D:List bt}
theorem abA {F:Nat->Prop} {w:World}:∀ s:List UInt8,dO Ku F w (s.map fun b=>Value.int .u8 (b.toNat:Int)) s
 | []=>rfl
 | b::r=>⟨[.int .u8 (b.toNat:Int)],_,rfl,rfl,abA r⟩
end
end av
namespace av
open Go Go.RowKit J
section
variable {P:Program} {Q:Exit->Act->World->Prop} {a:Act} {w:World}
theorem Hb {c:Operand} {x y:Code} {t:Bool} {ρ:Type} {p q:Option ρ} {r:ρ} (hc:a.eval c= .bool t) (h:cond t p q=some r) (aJ:t=true->p=some r->x.wp P Q a w) (af:t=false->q=some r->y.wp P Q a w):(Code.cond c x y).wp P Q a w:=
 wp_cond_split hc (fun e=>aJ e (Mt e h)) (fun e=>af e (Ms e h))
end
end av
namespace av
open Go Go.RowKit J
section
variable {P:Program} {ops:Array Oper} {Q:Exit->Act->World->Prop} {a:Act} {w w0 w':World} {rest:List Oper} {o:Oper} {n:cI} {d:Nat} {l:List (Nat × Value)}
 {W:World} {M0 X:List Nat} {E:List a7} {D:List bt}
theorem aB0 {t:TypeId} {x:Operand} {m:Int} (ap:o.op= .unOp .neg t x) (ad:a.eval x= .int .i64 m):bd P o a w (.int .i64 (aE (0 - m))) w:=by
 rw [<-tH]
 simp only [bd,execOp,ap,ad]
 simp [go_sem]
theorem bn.Jw (h:bn W M0 X w E D) {g:Nat} {t:TypeId} {cs:List Value} {x:a7} (i j:Nat) (hi:E[i]? =some (a7.dQ g t cs)) (aC:E[j]? =some x) (b2:i≠j):g ∉ x.bw:=fun ai=>
 (Nf h.br i _ hi).2 j x aC b2 g (by simp [a7.dQ]) ai
theorem HD {M:List Nat} {p:Addr} {cs:List Value} (h:bp M w w') (aA:p.block ∉ M) (bs:p.block <w.heap.size) (hc:eT w p cs):eT w' p cs:=hc.law (h.block p.block bs aA)
theorem ES {t:TypeId} {cs:List Value} {m:Nat} (hw:Region.wanted o (yielded ops a.tmps)=true) (hy:bd P o a w (.slice (some ⟨w.heap.size,0,none⟩) m m) (w.alloc (.cells cs.toArray t))) (af:Fr n l a) (hm:bn W M0 X w E D)
 (aL:o.dst=some d) (aA:Nat.blt d n=true) (k:∀ a2 g w',bp [] w w'->w.heap.size<=g->Fr n ((d,.slice (some ⟨g,0,none⟩) m m)::l) a2->bn W M0 X w' (a7.dQ g t cs::E) D->wpList P ops Q rest a2 w'):wpList P ops Q (o::rest) a w:=
 nr hw hy af aL aA fun a2 dL=>k a2 _ _ (bp.alloc _ _ _) (Nat.le_refl _) dL (hm.new t cs)
end
end av
namespace av
open Go Go.RowKit J
def oy:List Oper->Bool
 | []=>true
 | o::r=>(match o.op with
   | .defer _=>false
   | _=>true) && oy r
theorem Jt:∀ {l:List Oper},oy l=true-> ∀ o ∈ l,∀ c,o.op≠ .defer c
 | [],_,o,ap,_=>by simp at ap
 | p::r,h,o,ap,c=>by
   simp only [oy,Bool.and_eq_true] at h
   rcases List.mem_cons.1 ap with rfl | e
   · intro e2
     rw [e2] at h
     exact absurd h.1 (by simp)
   · exact Jt h.2 o e c
def ji (ro:Option Nat):Fence:={ Fence.wide with round:=ro }
theorem SB {ro:Option Nat} {q:Prop}:(ji ro).depth.isSome=true->q:=fun h=>by simp [ji,Fence.wide] at h
section
variable {P:Program} {ops:Array Oper} {Q:Exit->Act->World->Prop} {K:Act->World->Prop} {a:Act} {w:World} {o:Oper} {ro:Option Nat} {n:Nat}
theorem Q5 (aL:∀ c,o.op≠ .defer c) (h:o.wp P a w K Q):o.wpIn (ji ro) n P a w K Q:=by
 unfold Oper.wpIn
 refine ⟨fun _ _=>trivial,?_⟩
 rw [Oper.semAt_eq _ _ _ aL]
 unfold Oper.wp at h
 generalize (execOp a.eval o).run P w=r at *
 cases r with
 | ok x w'=>
   cases x <;> simp only [Oper.upon,Oper.uponIn] at h ⊢ <;> first
    | exact h
    | exact ⟨SB,(callsIn_wide (n:=n - 1)).2 h⟩
    | exact ⟨SB,fun c cs _=>let ⟨v,w',r,s⟩:=h c cs;⟨v,w',r,stepsIn_wide.2 s⟩⟩
 | halt x w'=>cases x <;> simp only [Oper.upon,Oper.uponIn] at h ⊢ <;> exact h
theorem IZ (eu:∀ a w,¬ Q .outgrown a w):∀ {os:List Oper} {a:Act} {w:World},oy os=true->wpList P ops Q os a w->wpListIn (ji ro) n P ops Q os a w
 | [],_,_,_,h=>h
 | o::r,a,w,aL,h=>by
   have pu:=aL
   simp only [oy,Bool.and_eq_true] at pu
   simp only [wpList] at h
   simp only [wpListIn]
   split
   · rename_i hw
     rw [if_pos hw] at h
     rcases h with h | ⟨_,a2,w',h⟩
     · exact Q5 (Jt aL o (by simp)) (Oper.wp_mono (fun a w h=>IZ eu pu.2 h) h)
     · exact absurd h (eu _ _)
   · rename_i hw
     rw [if_neg hw] at h
     exact ⟨fun _ _=>trivial,IZ eu pu.2 h⟩
theorem asF (k:Nat) {lo:List Oper} (aL:oy (lo.take k)=true) (h:wpList P ops (Exit.then (wpListIn (ji ro) n P ops Q (lo.drop k)) (fun _ _ _=>False)) (lo.take k) a w):wpListIn (ji ro) n P ops Q lo a w:=by
 have key:∀ (os rest:List Oper) (a:Act) (w:World),oy os=true->wpList P ops (Exit.then (wpListIn (ji ro) n P ops Q rest) (fun _ _ _=>False)) os a w->wpListIn (ji ro) n P ops Q (os++rest) a w:=by
  intro os
  induction os with
  | nil=>intro rest a w _ h;exact h
  | cons o r ba=>
    intro rest a w aL h
    have pu:=aL
    simp only [oy,Bool.and_eq_true] at pu
    simp only [wpList] at h
    simp only [List.cons_append,wpListIn]
    split
    · rename_i hw
      rw [if_pos hw] at h
      rcases h with h | ⟨_,a2,w',h⟩
      · have I:=Q5 (ro:=ro) (n:=n) (Jt aL o (by simp)) (Oper.wp_mono (fun a w h=>ba rest a w pu.2 h) h)
        refine ⟨I.1,?_⟩
        have aa:=I.2
        revert aa
        generalize (o.semAt (ji ro).round a.eval).run P w=h3
        intro aa
        cases h3 with
        | ok x w'=>
          cases x <;> simp only [Oper.uponIn] at aa ⊢ <;> first
           | exact aa
           | exact ⟨aa.1,CallsIn.mono aa.2 (fun e w'' he=>by cases e <;> first | exact he | exact absurd he (by simp [Exit.then,LetsOut]))⟩
           | exact ⟨aa.1,RoundIn.mono aa.2 (fun e w'' he=>by cases e <;> first | exact he | exact absurd he (by simp [Exit.then,LetsOut]))⟩
        | halt x w'=>cases x <;> simp only [Oper.uponIn] at aa ⊢ <;> first | exact aa | exact absurd aa (by simp [Exit.then])
      · exact absurd h (by simp [Exit.then])
    · rename_i hw
      rw [if_neg hw] at h
      exact ⟨fun _ _=>trivial,ba rest _ _ pu.2 h⟩
 have:=key (lo.take k) (lo.drop k) a w aL h
 rwa [List.take_append_drop] at this
theorem at5 (eu:∀ a w,¬ Q .outgrown a w) (aL:oy ops.toList=true) {i:Nat} (h:wpOp P ops Q i K a w):wpOpIn (ji ro) n P ops Q i K a w:=by
 unfold wpOp at h
 unfold wpOpIn
 split
 · rename_i aN
   rw [aN] at h
   exact h
 · rename_i o ap
   rw [ap] at h
   have hm:o ∈ ops.toList:=by
    have:=List.mem_of_getElem? (l:=ops.toList) (i:=i) (a:=o) (by rw [Array.getElem?_toList];exact ap)
    exact this
   simp only at h
   split
   · rename_i hw
     rw [if_pos hw] at h
     rcases h with h | ⟨_,a2,w',h⟩
     · exact Q5 (Jt aL o hm) h
     · exact absurd h (eu _ _)
   · rename_i hw
     rw [if_neg hw] at h
     exact ⟨fun _ _=>trivial,h⟩
theorem Vk (eu:∀ a w,¬ Q .outgrown a w) (aL:oy ops.toList=true):∀ {f:Nat} {ls:Array Bool} {a:Act} {w:World},wpAny P .any ops Q f ls a w->wpAnyIn (ji ro) n P .any ops Q f ls a w
 | 0,_,_,_,h=>h
 | f+ 1,ls,a,w,h=>⟨h.1,fun i hi=>at5 eu aL (wpOp_mono (fun a w h=>Vk eu aL h) (h.2 i hi))⟩
end
def fT (ro:Option Nat) (n:Nat) (P:Program) (c:Code) (Q:Exit->Act->World->Prop) (a:Act) (w:World):Prop:=(∀ a w,¬ Q .outgrown a w)->c.wpIn (ji ro) n P Q a w
section
variable {P:Program} {Q:Exit->Act->World->Prop} {a:Act} {w:World} {ro:Option Nat} {n:Nat}
theorem KF (h:Q .normal a w):fT ro n P .skip Q a w:=fun _=>wpIn_skip h
theorem Tv {id:Nat} (h:Q (.exit id) a w):fT ro n P (.exit id) Q a w:=fun _=>wpIn_exit h
theorem lz {x y:Code} (h:∀ K:Act->World->Prop,(∀ a w,fT ro n P y Q a w->K a w)->fT ro n P x (Exit.then K Q) a w):fT ro n P (.seq x y) Q a w:=
 fun eu=>wpIn_seq (h _ (fun _ _ h=>h eu) eu)
theorem Tu {c:Operand} {x y:Code} {t:Bool} (hc:a.eval c= .bool t) (aJ:t=true->fT ro n P x Q a w) (af:t=false->fT ro n P y Q a w):fT ro n P (.cond c x y) Q a w:=
 fun eu=>wpIn_cond_split hc (fun e=>aJ e eu) (fun e=>af e eu)
theorem ayt {c:Operand} {x y:Code} {b:Bool} (hc:a.eval c= .bool b) (ah:b=false) (h:fT ro n P y Q a w):fT ro n P (.cond c x y) Q a w:=fun eu=>wpIn_cond_false (by rw [hc,ah]) (h eu)
theorem Ts {id:Nat} {c:Code} (h:fT ro n P c (Exit.inBlock id Q) a w):fT ro n P (.block id c) Q a w:=fun eu=>wpIn_block (h eu)
theorem Tt {id:Nat} {c:Code} (mG:Act->World->Prop) (ad:∀ K:Act->World->Prop,(∀ a w,mG a w->K a w)->fT ro n P c (Exit.inBlock id (Exit.then K Q)) a w) (hy:∀ a w,mG a w->Q .normal a w):fT ro n P (.block id c) Q a w:=by
 intro eu
 refine wpIn_block (wpIn_mono (ad _ hy eu) ?_)
 intro e a w h
 cases e with
 | exit i=>
   by_cases hi:i=id
   · simpa [Exit.inBlock,Exit.then,hi] using h
   · simpa [Exit.inBlock,Exit.then,hi] using h
 | _=>exact h
theorem ade {c:Code} (mF:Nat->Act->World->Prop) (k:Nat) (h:mF k a w) (aN:∀ a w,¬ mF 0 a w)
 (round:∀ k a w,mF (k+ 1) a w-> ∀ K:Act->World->Prop,(∀ a w,mF k a w->K a w)->fT ro n P c (Exit.then K Q) a w):fT ro n P (.loop c) Q a w:=by
 intro eu
 refine wpIn_loop (fun a w=>∃ n,mF n a w) (fun a w=>leastOf (fun n=>mF n a w)) ⟨k,h⟩ ?_
 intro a w uV
 have I:=(leastOf_spec uV).1
 cases ai:leastOf (fun n=>mF n a w) with
 | zero=>rw [ai] at I;exact absurd I (aN a w)
 | succ m=>
   rw [ai] at I
   exact round m a w I _ (fun a2 w' h'=>⟨⟨m,h'⟩,Nat.lt_succ_of_le ((leastOf_spec ⟨m,h'⟩).2 m h')⟩) eu
theorem ny {id:Nat} {l:List Oper} (aL:oy l=true) (h:wpList P l.toArray Q l a w):fT ro n P (.region id l.toArray false) Q a w:=fun eu=>wpIn_region_lit (IZ eu aL h)
theorem adb {id m:Nat} {lo:List Oper} (p:Nat) (S:World->World->Prop) (hm:P.follows .mixedOrders=true) (ak:Nat.beq lo.length m=true) (aL:oy lo=true) (h:∀ w',bp [] w w'->eS P lo.toArray Q p (S w') m [] a w'):fT ro n P (.region id lo.toArray true) Q a w:=by
 have ak:=Nat.eq_of_beq_eq_true ak
 subst ak
 intro eu
 exact wpIn_mono (Q:=NoPanic Q) (wpIn_region_any hm (Vk (Q:=NoPanic Q) (fun a w=>eu a w) aL (h _ (bp.drew [] w)).wpAny)) NoPanic.imp
theorem ayu {id:Nat} {l:List Oper} (h:(∀ a w,¬ Q .outgrown a w)->wpListIn (ji ro) n P l.toArray Q l a w):fT ro n P (.region id l.toArray false) Q a w:=fun eu=>wpIn_region_lit (h eu)
end
def a7.obj (g:Nat) (o:Obj):a7 where
 bw:=[g]
 ok w:=w.heap[g]? =some o
 law w w' h ai:=(h g (by simp)).trans ai
section
variable {W w:World} {M0 X:List Nat} {E:List a7} {D:List bt}
theorem anP (w:World) (g:Nat) (o:Obj):bp [g] w (w.putObj g o):=
 ⟨rfl,rfl,rfl,by simp,fun k _ aA=>World.putObj_heap_other (by simpa using aA)⟩
theorem bn.putObj {g:Nat} {o:Obj} (hm:bn W M0 X w E D) (i:Nat) (hi:E[i]? =some (a7.obj g o)) (cQ:Obj):bn W M0 X (w.putObj g cQ) (E.set i (a7.obj g cQ)) D:=
 hm.Kt i hi (anP w g cQ) (by
   have h:w.heap[g]? =some o:=hm.e i hi
   exact World.putObj_heap_same (Array.getElem?_eq_some_iff.1 h).1) (by simp [a7.obj]) (fun k ai=>.inl ai)
theorem bn.newObj (hm:bn W M0 X w E D) (o:Obj):bn W M0 X (w.alloc o) (a7.obj w.heap.size o::E) D:=
 hm.push _ (bp.alloc _ _ _) (World.alloc_heap_new w o) (fun k ai=>by simp [a7.obj] at ai;subst ai;exact ⟨Nat.le_refl _,by simp⟩) (by simp [a7.obj])
end
def mark (r:Nat):Deferred:={ target:=.collected r,args:=#[] }
theorem WU {P:Program} {f:FuncId} {fn:Func} {c:Code} {vs:List Value} {w:World} {R:Ending->World->Prop} {n:Nat}
 (af:P.funcs[f]? =some fn) (ah:fn.body=some c) (aA:fn.ntmps=n) (ak:Nat.ble vs.length n=true)
 (h:∀ a,Fr ⟨n,[]⟩ (qy 0 vs) a->c.wp P (bodyPostM Fence.wide 0 P fn R) a w):Calls P f vs.toArray w R:=by
 refine (callsIn_wide (n:=0)).1 (callsIn_of_wp_marks af ah trivial (wpIn_wide.2 ?_))
 rw [aA]
 exact h _ (Fr.init vs n ak)
section
variable {P:Program} {a:Act} {w:World} {W:World} {M0 X:List Nat} {E:List a7} {D:List bt} {fn:Func} {R:Ending->World->Prop} {l:List (Nat × Value)} {n g t u:Nat} {v fh:Value}
theorem Z0 (i:Nat) (af:Fr ⟨n,[mark g]⟩ l a) (hm:bn W M0 X w E D) (hi:E[i]? =some (a7.obj g (.deferred (some [])))) (h:∀ w',bn W M0 X w' (E.set i (a7.obj g (.deferred none))) D-> ∃ v,(results fn a.tmps).run P w'= .ok v w'/\R (.returned v) w') :
 bodyPostM Fence.wide 0 P fn R .ret a w:=by
 show LeavesInM Fence.wide 0 P fn a.tmps R a.defers .returning w
 rw [af.defers]
 exact ⟨by simp,.inl ⟨g,_,rfl,run_takeDeferred (hm.e i hi),h _ (hm.putObj i hi _)⟩⟩
theorem asR (i:Nat) (ay:fn.results= #[.tmp t]) (af:Fr ⟨n,[mark g]⟩ l a) (hm:bn W M0 X w E D) (hi:E[i]? =some (a7.obj g (.deferred (some [])))) (ak:eo l t=some v)
 (h:∀ w',bn W M0 X w' (E.set i (a7.obj g (.deferred none))) D->R (.returned v) w'):bodyPostM Fence.wide 0 P fn R .ret a w:=
 Z0 i af hm hi fun w' dV=>⟨_,results_tmp ay _ _ _,by rw [af.get _ _ ak];exact h w' dV⟩
theorem asS (i:Nat) (ay:fn.results= #[.tmp t,.tmp u]) (af:Fr ⟨n,[mark g]⟩ l a) (hm:bn W M0 X w E D) (hi:E[i]? =some (a7.obj g (.deferred (some [])))) (ak:eo l t=some v) (mZ:eo l u=some fh)
 (h:∀ w',bn W M0 X w' (E.set i (a7.obj g (.deferred none))) D->R (.returned (.tuple #[v,fh])) w'):bodyPostM Fence.wide 0 P fn R .ret a w:=
 Z0 i af hm hi fun w' dV=>⟨_,results_tmp2 ay _ _ _,by rw [af.get _ _ ak,af.get _ _ mZ];exact h w' dV⟩
end
theorem am7 {P:Program} {f:FuncId} {fn:Func} {c:Code} {vs:List Value} {w:World} {R:Ending->World->Prop} {n:Nat}
 (af:P.funcs[f]? =some fn) (ah:fn.body=some c) (aA:fn.ntmps=n) (ak:Nat.ble vs.length n=true) (fa:∀ w,¬ R .outgrown w)
 (h:∀ a,Fr ⟨n,[]⟩ (qy 0 vs) a->fT none 1 P c (bodyPost P fn R) a w):CallsIn (ji none) 1 P f vs.toArray w R:=by
 refine callsIn_of_wp af ah trivial ?_
 rw [aA]
 exact h _ (Fr.init vs n ak) (fun a w h=>fa w h)
theorem akY {P:Program} {fn:Func} {R:Ending->World->Prop} {a:Act} {w:World} (h:bodyPost P fn R .ret a w):bodyPost P fn R .normal a w:=h
theorem ac0 {n:Nat} (h:n<=maxLen):J.aE ((n:Int) - 1)=(n:Int) - 1 :=by
 unfold J.aE
 simp only [maxLen] at h
 omega
theorem aqQ {iZ pre rem:List Int} {x:Int} (h:iZ=(x::rem).reverse++pre):J.idx iZ (rem.length:Int)=some x:=by
 subst h
 unfold J.idx
 rw [if_pos (by omega)]
 simp
def U6 (P:Program) (f:FuncId):Prop:=∀ (mG:List Int->World->Prop) (iZ:List Int) (A:Option Addr) (c e9 L:Nat) (w0:World),
 (∀ rem w,mG rem w-> ∃ W M0 X E,bn W M0 X w E [bt.ii e9 [.slice A iZ.length c],bt.of (bZ (eR .i64)) [.slice A iZ.length c] iZ]) ->
 (∀ x rem w,mG (x::rem) w->YieldAt (ji none) 0 P L #[.int .i64 (rem.length:Int),.int .i64 x] w (fun e w'=>e= .returned (.bool true)/\mG rem w')) ->
 mG iZ.reverse w0->CallsIn (ji none) 1 P f #[.func (.yield L) #[] #[],.pointer (some ⟨e9,0,none⟩)] w0 (fun e w'=>(∃ v,e= .returned v)/\mG [] w')
section
variable {P:Program} {ops:Array Oper} {Q:Exit->Act->World->Prop} {a:Act} {w:World} {rest:List Oper} {o:Oper} {n:cI} {d L:Nat} {l:List (Nat × Value)}
theorem axn {uQ:Operand} {xs:List Operand} {lM:Array TypeId} {vs:List Value} (ap:o.op= .call { callee:=.value uQ,args:=xs.toArray,argTypes:=lM }) (O0:a.eval uQ= .func (.yield L) #[] #[]) (jm:AR a xs vs) :
 (execOp a.eval o).run P w=(Instr.yield L vs.toArray).run P w:=by
 have I:=Nd jm
 simp only [execOp,ap,resolve,List.map_toArray,I,O0]
 simp [Deferred.ofValue,invoke]
theorem aB8 {uQ:Operand} {xs:List Operand} {lM:Array TypeId} {vs:List Value} {R:Ending->World->Prop} (hw:Region.wanted o (yielded ops a.tmps)=true) (ap:o.op= .call { callee:=.value uQ,args:=xs.toArray,argTypes:=lM })
 (O0:a.eval uQ= .func (.yield L) #[] #[]) (jm:AR a xs vs) (hy:YieldAt (ji none) 0 P L vs.toArray w R) (af:Fr n l a) (aL:o.dst=some d) (aA:Nat.blt d n=true)
 (k:∀ e w',R e w'-> ∃ v,e= .returned v/\ ∀ a2,Fr n ((d,v)::l) a2->wpListIn (ji none) 1 P ops Q rest a2 w'):wpListIn (ji none) 1 P ops Q (o::rest) a w:=by
 refine wpListIn_step fun K cP=>?_
 rw [if_pos hw]
 refine ⟨fun _ _=>trivial,?_⟩
 obtain ⟨fn,tmps,assign,body,I,aa⟩:=hy
 rw [Oper.semAt_eq _ _ _ (by rw [ap];simp),axn ap O0 jm,I]
 refine ⟨SB,RoundIn.mono aa ?_⟩
 intro e w' ay
 obtain ⟨v,rfl,ai⟩:=k e w' ay
 rw [aL]
 exact cP _ _ (ai _ (af.put aA))
end
section
variable {P:Program} {Q:Exit->Act->World->Prop} {a:Act} {w:World} {W:World} {M0 X:List Nat} {E:List a7} {D:List bt}
theorem VM {β:Type} {Bn acj gM dN n e9 c:Nat} {A:Option Addr} {l:List (Nat × Value)} {l1:Int->Int->List (Nat × Value)} {assign body:Code} (z_:β->List a7) (tX:β->List bt) (rel:List Int->β->Prop) (iZ:List Int) (b0:β) (bk bH:Nat)
 (apB:U6 P Bn) (WQ:∀ args w,(callFunc Bn args).run P w= .ok (.enter Bn args) w)
 (af:Fr ⟨n,[]⟩ l a) (aw:eo l acj=some (.func (.func Bn) #[] #[.pointer (some ⟨e9,0,none⟩)])) (va:Nat.blt gM n=true) (yC:Nat.blt dN n=true)
 (hm:bn W M0 X w (z_ b0) (tX b0)) (aN:rel iZ.reverse b0)
 (l_:∀ b,(tX b)[bk]? =some (bt.ii e9 [.slice A iZ.length c])) (vb:∀ b,(tX b)[bH]? =some (bt.of (bZ (eR .i64)) [.slice A iZ.length c] iZ))
 (aK:∀ L i x w a2 (K:Act->World->Prop),Fr ⟨n,[]⟩ ((dN,.int .i64 x)::(gM,.int .i64 i)::l) a2->(∀ x4,Fr ⟨n,[]⟩ (l1 i x) x4->K x4 w)->fT (some L) 0 P assign (Exit.then K (fun _ _ _=>False)) a2 w)
 (ah:∀ L g dz bB c9 b i x rem w a2 (K:Exit->Act->World->Prop),rel (x::rem) b->Fr ⟨n,[]⟩ (l1 i x) a2->bn W M0 X w (a7.obj g dz::a7.obj bB c9::z_ b) (tX b) ->
  (∀ jk x4 w',rel rem jk->bn W M0 X w' (a7.obj g dz::a7.obj bB c9::z_ jk) (tX jk)->K .normal x4 w')->fT (some L) 0 P body K a2 w)
 (apd:∀ g b a2 w',rel [] b->Fr ⟨n,[mark g]⟩ l a2->bn W M0 X w' (a7.obj g (.deferred (some []))::z_ b) (tX b)->Q .normal a2 w') :
 (Code.rangeFunc (.tmp acj) #[gM,dN] assign body).wp P Q a w:=by
 refine (wpIn_wide (n:=2)).1 (wpIn_rangeFunc fun fn _=>?_)
 obtain ⟨rec,vd⟩:∃ rec:LoopState->Loop,rec=fun axI=>{ state:=axI,pending:=none,fn,tmps:=a.tmps,params:=#[gM,dN],assign,body,defers:=w.heap.size }:=⟨_,rfl⟩
 obtain ⟨hV,Yn⟩:∃ hV,(w.alloc (.deferred (some []))).alloc (.loop (rec .ready))=hV:=⟨_,rfl⟩
 have apP:bn W M0 X hV (a7.obj (w.heap.size+ 1) (.loop (rec .ready))::a7.obj w.heap.size (.deferred (some []))::z_ b0) (tX b0):=by
  have:=(hm.newObj (.deferred (some []))).newObj (.loop (rec .ready))
  rw [Yn] at this
  simpa using this
 refine ⟨w.heap.size+ 1,[mark w.heap.size],hV,{ target:=.fn (.func Bn) #[.pointer (some ⟨e9,0,none⟩)],args:=#[.func (.yield (w.heap.size+ 1)) #[] #[]] },hV,Bn,
  #[.func (.yield (w.heap.size+ 1)) #[] #[],.pointer (some ⟨e9,0,none⟩)],hV,?_,?_,fun _ _=>trivial,?_,fun _=>by decide,?_⟩
 · rw [<-Yn,vd];exact run_enterLoop_outer _ _ _ _ _
 · have DO:=af.g aw
   simp only [resolve,DO]
   simp [go_sem]
 · simp [invoke,go_sem,WQ]
 · refine CallsIn.mono (apB (fun rem w'=>∃ b,rel rem b/\bn W M0 X w' (a7.obj (w.heap.size+ 1) (.loop (rec .ready))::a7.obj w.heap.size (.deferred (some []))::z_ b) (tX b)) iZ A c e9 (w.heap.size+ 1) hV ?_ ?_ ⟨b0,aN,apP⟩) ?_
   · rintro rem w' ⟨b,_,dV⟩
     exact ⟨_,_,_,_,dV.less fun y hy=>by
      simp only [List.mem_cons,List.not_mem_nil,or_false] at hy
      rcases hy with rfl | rfl
      · exact List.mem_of_getElem? (l_ b)
      · exact List.mem_of_getElem? (vb b)⟩
   · rintro x rem w' ⟨b,ay,dV⟩
     have ak:w'.heap[w.heap.size+ 1]? =some (.loop (rec .ready)):=dV.e 0 rfl
     have hy:=run_yield (P:=P) (args:=#[.int .i64 (rem.length:Int),.int .i64 x]) ak (by rw [vd];rfl)
     rw [vd] at hy
     refine ⟨fn,_,assign,body,hy,roundIn_of_wpIn trivial ?_⟩
     have apk:Fr ⟨n,[]⟩ ((dN,.int .i64 x)::(gM,.int .i64 (rem.length:Int))::l) ⟨((#[gM,dN]:Array Tmp).zip #[Value.int .i64 (rem.length:Int),.int .i64 x]).foldl (fun tmps (x:Tmp × Value)=>tmps.setIfInBounds x.1 x.2) a.tmps,[]⟩:=by
      have I:=(af.put (v:=.int .i64 (rem.length:Int)) va).put (v:=.int .i64 x) yC
      have e:((#[gM,dN]:Array Tmp).zip #[Value.int .i64 (rem.length:Int),.int .i64 x]).foldl (fun tmps (x:Tmp × Value)=>tmps.setIfInBounds x.1 x.2) a.tmps=((a.put (some gM) (.int .i64 (rem.length:Int))).put (some dN) (.int .i64 x)).tmps:=by simp [Act.put]
      refine ⟨?_,rfl,?_⟩
      · simp only [e];exact I.size
      · simp only [e];exact I.get
     refine aK (w.heap.size+ 1) _ _ w' _ _ apk ?_ (fun a w h=>h)
     intro x4 apj
     have D1:=dV.putObj 0 rfl (.loop { rec .ready with state:=.busy })
     refine ⟨_,run_beginRound ak (by rw [vd]),?_⟩
     refine ah (w.heap.size+ 1) _ _ _ _ b _ x rem _ x4 _ ay apj D1 ?_ (fun a w h=>h)
     intro jk dJ lu kt D2
     have Pd:lu.heap[w.heap.size+ 1]? =some (.loop { rec .ready with state:=.busy }):=D2.e 0 rfl
     refine ⟨_,_,run_endRound none Pd,rfl,jk,kt,?_⟩
     have D3:=D2.putObj 0 rfl (.loop (rec .ready))
     rw [vd] at D3 ⊢
     exact D3
   · rintro e lu ⟨⟨v,rfl⟩,b,ay,D2⟩
     have Pd:lu.heap[w.heap.size+ 1]? =some (.loop (rec .ready)):=D2.e 0 rfl
     have he:=run_endLoop (P:=P) Pd (by rw [vd];simp)
     rw [vd] at he
     refine ⟨none,_,he,?_⟩
     have D3:=D2.putObj 0 rfl (.loop { rec .ready with state:=.exhausted })
     rw [vd] at D3
     refine apd w.heap.size b _ _ ay ⟨af.size,?_,af.get⟩ (D3.drop (List.sublist_cons_self _ _))
     show [mark w.heap.size]++a.defers= [mark w.heap.size]
     rw [af.defers];rfl
end
end av
namespace av
open Go Go.RowKit J
def bt.ax1:bt:=⟨fun _ _=>True,fun _ _ _ _ _ _ _=>trivial⟩
def bt.aaD {α:Type} (o:Option α) (f:α->bt):bt:=match o with
 | none=>bt.ax1
 | some x=>f x
section
variable {P:Program} {ops:Array Oper} {Q:Exit->Act->World->Prop} {a:Act} {w:World} {rest:List Oper} {o:Oper} {n:cI} {d:Nat} {l:List (Nat × Value)}
 {W:World} {M0 X:List Nat} {E:List a7} {D:List bt}
theorem bn.none (h:bn W M0 X w E D) {α:Type} (f:α->bt):bn W M0 X w E (bt.aaD (Option.none:Option α) f::D):=h.more (y:=bt.aaD (Option.none:Option α) f) trivial
theorem aBI {t e:TypeId} {sz:Nat} {x:Operand} {lo hi:Option Operand} (aJ:P.underlying t=some (.slice e)) (ao:∀ w,(Go.sizeOf e).run P w= .ok sz w) (ap:o.op= .slice t x lo hi none) (ad:a.eval x= .slice none 0 0)
 (m0:(lo=none/\(0 :Int)= 0)\/ ∃ z,lo=some z/\a.eval z= .int .i64 0) (jE:(hi=none/\(0 :Int)=(0 :Nat))\/ ∃ z,hi=some z/\a.eval z= .int .i64 0):bd P o a w (.slice none 0 0) w:=by
 have h:=LC (P:=P) (w:=w) aJ ao ap ad m0 jE (i:=0) (j:=0) ⟨Int.le_refl _,Int.le_refl _,by omega⟩ (Nat.le_refl 0)
 simpa using h
theorem aBH {t e:TypeId} {A:Option Addr} {m c:Nat} {x:Operand} (aJ:P.underlying t=some (.slice e)) (ap:o.op= .call { callee:=.builtin .cap,args:=#[x],argTypes:=#[t] }) (ad:a.eval x= .slice A m c):bd P o a w (.int .i64 c) w:=by
 simp [bd,execOp,ap,resolve,invoke,builtin,Builtin.cap_,ad,run_underlying aJ,goInt]
theorem aB5 {t t':TypeId} {x y:Operand} {k:IntKind} {m:Int} {n:Nat} (aA:Nat.ble n 64 =true) (ap:o.op= .binOp .shr t x y t') (ad:a.eval x= .int .u64 m) (hy:a.eval y= .int k (n:Int)):bd P o a w (.int .u64 (tx m n)) w:=by
 have hle:=Nat.le_of_ble_eq_true aA
 unfold tx
 simp only [bd,execOp,ap,ad,hy]
 simp [go_sem,hle]
end
end av
namespace av
open Go Go.RowKit J
section
variable {P:Program} {W w w':World} {M0 X:List Nat} {E:List a7} {D:List bt} {n:cI} {l:List (Nat × Value)} {a:Act} {o:Oper} {ops:Array Oper} {rest:List Oper} {Q:Exit->Act->World->Prop} {d:Nat}
theorem axj {A:Option Addr} {m c sz:Nat} {t e:TypeId} {j:Int} (aJ:P.underlying t=some (.slice e)) (ao:∀ w,(Go.sizeOf e).run P w= .ok sz w) (h:0 <=j/\j<=c) :
 (Instr.slice t (.slice A m c) none (some (.int .i64 j)) (some (.int .i64 j))).run P w= .ok (.slice (if j.toNat= 0 then A else A.map (·.add (0 *sz))) j.toNat j.toNat) w:=by
 have bX:∀ code,(Instr.sliceBound (.int .i64 j) c code).run P w= .ok j.toNat w:=fun code=>wa rfl (by omega)
 have eb:∀ code,(Instr.sliceBound (.int .i64 j) j.toNat code).run P w= .ok j.toNat w:=fun code=>wa rfl (by omega)
 have ah:(Instr.sliceBounds true m c none (some (.int .i64 j)) (some (.int .i64 j))).run P w= .ok (0,j.toNat,j.toNat) w:=by
  simp [Instr.sliceBounds,bX,eb]
 simp [Instr.slice,run_underlying aJ,ah,ao]
end
end av
namespace Go.Value
abbrev q {α:Type} (A:Option Addr) (c:Nat) (l:List α):Value:=.slice A l.length c
end Go.Value
namespace av
open Go Go.RowKit J
abbrev hU:=Option Addr
abbrev mH:=List Value
abbrev z':=List Int
theorem wn {ops:Array Oper} {a:Act} {o:Oper} (aw:o.guard=none:=by rfl):Region.wanted o (yielded ops a.tmps)=true:=KA aw
section
variable {W w:World} {M0 X:List Nat} {E kc:List a7} {D fS:List bt} {n:cI} {l l' new a_ fH:List (Nat × Value)} {a:Act}
theorem Fr.cut (af:Fr n l a) (h:AI l (l'.map (·.1))=some l':=by kernel_rfl):Fr n l' a:=af.sub (Mv h)
def B4 (D:List bt):List Nat->Option (List bt)
 | []=>some []
 | i::r=>match nth D i,B4 D r with
   | some y,some ys=>some (y::ys)
   | _,_=>none
theorem ab1:∀ {is:List Nat} {fS:List bt},B4 D is=some fS->JF D fS
 | [],fS,h=>by simp only [B4,Option.some.injEq] at h;subst h;trivial
 | i::r,fS,h=>by
   simp only [B4] at h
   split at h
   · rename_i y ys I aa
     simp only [Option.some.injEq] at h
     subst h
     exact ⟨⟨i,by rw [<-cU];exact I⟩,ab1 aa⟩
   · cases h
theorem bn.hN (h:bn W M0 X w E D) (is:List Nat) (e:B4 D is=some fS:=by kernel_rfl):bn W M0 X w E fS:=h.pick (ab1 e)
theorem bn.rr (h:bn W M0 X w E D) (ec is:List Nat) (e1:EP ec=true:=by kernel_rfl) (e2:B5 E ec=some kc:=by kernel_rfl) (e:B4 D is=some fS:=by kernel_rfl):bn W M0 X w kc fS:=(h.sel ec e1 e2).hN is e
theorem cV {α:Type} {a b:α} (h:some a=some b):a=b:=Option.some.inj h
theorem os {α:Type} {a b:α} (h:some a=some b):b=a:=(Option.some.inj h).symm
def nU:List (Nat × Value)->List (Nat × Value)->List (Nat × Value)
 | [],r=>r
 | x::l,r=>x::nU l r
def sp:List (Nat × Value)->Nat->Bool
 | [],_=>false
 | p::r,j=>Nat.beq p.1 j || sp r j
def EZ:List (Nat × Value)->List (Nat × Value)->List (Nat × Value)
 | _,[]=>[]
 | new,p::r=>match sp new p.1 with
   | true=>EZ new r
   | false=>p::EZ (p::new) r
def lS (new a_:List (Nat × Value)):List (Nat × Value):=nU new (EZ new a_)
theorem ZX {t:Nat} {r:List (Nat × Value)}:∀ {l:List (Nat × Value)},eo (nU l r) t=cond (sp l t) (eo l t) (eo r t)
 | []=>by simp [nU,sp]
 | p::l=>by
   simp only [nU,eo,sp]
   cases Nat.beq p.1 t with
   | true=>simp
   | false=>simp only [Bool.false_or];exact ZX
theorem Qr {t:Nat}:∀ {r new:List (Nat × Value)},sp new t=false->eo (EZ new r) t=eo r t
 | [],_,_=>rfl
 | p::r,new,h=>by
   simp only [EZ,eo]
   cases ah:Nat.beq p.1 t with
   | true=>
     have:p.1 =t:=Nat.eq_of_beq_eq_true ah
     rw [this,h]
     simp only [eo,this,Nat.beq_refl]
   | false=>
     cases sp new p.1 with
     | true=>simp only;exact Qr h
     | false=>simp only [eo,ah];exact Qr (by simp only [sp,ah,Bool.false_or];exact h)
theorem Fr.Hn (af:Fr n (lS new a_) a):Fr n (nU new a_) a:=⟨af.size,af.defers,fun t v aJ=>af.get t v (by
 unfold lS
 rw [ZX] at aJ ⊢
 cases bu:sp new t with
 | true=>rw [bu] at aJ;exact aJ
 | false=>rw [bu] at aJ;rw [Qr bu];exact aJ)⟩
def HF (G:kP) (ops:Array Oper) (n:Nat) (M:List (Nat × Nat × List Value)) (is ao:List Nat) (a_:List (Nat × Value)) (ff:List Nat):Option (List (Nat × Value) × List (Nat × Nat)):=
 match zq ops.toList is with
 | some os=>k1 G ops n M os ao a_ ff
 | none=>none
theorem anQ {G:kP} {ops:Array Oper} {n:Nat} {M:List (Nat × Nat × List Value)} {is ao:List Nat} {a_:List (Nat × Value)} {ff:List Nat} {r:List (Nat × Value) × List (Nat × Nat)} (h:HF G ops n M is ao a_ ff=some r):∃ os,zq ops.toList is=some os/\k1 G ops n M os ao a_ ff=some r:=by
 unfold HF at h
 split at h
 · rename_i os I;exact ⟨os,I,h⟩
 · cases h
end
end av
namespace J
structure Kind where
 Kind:Int
 al:List UInt8
 deriving DecidableEq
structure Handler where
 From:Int
 To:Int
 hS:Int
 al:List UInt8
 deriving DecidableEq
structure Method where
 Name:List UInt8
 Static:Bool
 cr:List Kind
 Returns:Kind
 g4:Int
 g2:Int
 Code:List UInt8
 cw:List Handler
structure Field where
 Name:List UInt8
 Kind:Kind
 deriving DecidableEq
structure al where
 Name:List UInt8
 cO:List UInt8
 Fields:List Field
 bb:List Method
structure Target where
 al:Int
 Method:Int
 deriving DecidableEq
structure aP where
 a4:List al
 a0:List Int
 Fields:List (List Field)
 Names:List (List (List UInt8))
 a1:List (List Target)
structure bj where
 l:List al
 bY:List ((List UInt8) × Int)
 dh:List Int
structure aV where
 Words:List Int
 ar:Int
 aO:Int
 aZ:Int
 aU:Int
 aS:List Int
 Next:Int
structure cb where
 K:aP
structure bc where
 H:aV
 S:cb
 ar:List Int
 aO:List Int
 dM:List (Int × Bool)
end J
namespace J
open Go
def zB:av.db Kind where
 size:=2
 rd _ _ cs d:=cs= [.int .i64 d.Kind,av.cg d.al]
 len h:=by subst h;rfl
 one h v ag:=by subst h;simp only [List.mem_cons,List.not_mem_nil,or_false] at ag;rcases ag with rfl | rfl <;> rfl
 law _ h:=h
def zA:av.db Handler where
 size:=4
 rd _ _ cs d:=cs= [.int .i64 d.From,.int .i64 d.To,.int .i64 d.hS,av.cg d.al]
 len h:=by subst h;rfl
 one h v ag:=by subst h;simp only [List.mem_cons,List.not_mem_nil,or_false] at ag;rcases ag with rfl | rfl | rfl | rfl <;> rfl
 law _ h:=h
def oM:av.db Method where
 size:=9
 rd F w cs d:=∃ dW c1 cZ c2,cs= [av.cg d.Name,.bool d.Static,.slice dW d.cr.length c1,.int .i64 d.Returns.Kind,av.cg d.Returns.al,.int .i64 d.g4,.int .i64 d.g2,av.cg d.Code,.slice cZ d.cw.length c2]/\(av.bZ J.zB).rd F w [.slice dW d.cr.length c1] d.cr/\(av.bZ J.zA).rd F w [.slice cZ d.cw.length c2] d.cw
 len h:=by obtain ⟨dW,c1,cZ,c2,aN,_⟩:=h;subst aN;rfl
 one h v ag:=by obtain ⟨dW,c1,cZ,c2,aN,_⟩:=h;subst aN;simp only [List.mem_cons,List.not_mem_nil,or_false] at ag;rcases ag with rfl | rfl | rfl | rfl | rfl | rfl | rfl | rfl | rfl <;> rfl
 law az h:=by obtain ⟨dW,c1,cZ,c2,aN,I,aa⟩:=h;exact ⟨dW,c1,cZ,c2,aN,(av.bZ J.zB).law az I,(av.bZ J.zA).law az aa⟩
def iB:av.db Field where
 size:=3
 rd _ _ cs d:=cs= [av.cg d.Name,.int .i64 d.Kind.Kind,av.cg d.Kind.al]
 len h:=by subst h;rfl
 one h v ag:=by subst h;simp only [List.mem_cons,List.not_mem_nil,or_false] at ag;rcases ag with rfl | rfl | rfl <;> rfl
 law _ h:=h
def jt:av.db al where
 size:=4
 rd F w cs d:=∃ dW c1 cZ c2,cs= [av.cg d.Name,av.cg d.cO,.slice dW d.Fields.length c1,.slice cZ d.bb.length c2]/\(av.bZ J.iB).rd F w [.slice dW d.Fields.length c1] d.Fields/\(av.bZ J.oM).rd F w [.slice cZ d.bb.length c2] d.bb
 len h:=by obtain ⟨dW,c1,cZ,c2,aN,_⟩:=h;subst aN;rfl
 one h v ag:=by obtain ⟨dW,c1,cZ,c2,aN,_⟩:=h;subst aN;simp only [List.mem_cons,List.not_mem_nil,or_false] at ag;rcases ag with rfl | rfl | rfl | rfl <;> rfl
 law az h:=by obtain ⟨dW,c1,cZ,c2,aN,I,aa⟩:=h;exact ⟨dW,c1,cZ,c2,aN,(av.bZ J.iB).law az I,(av.bZ J.oM).law az aa⟩
def ju:av.db Target where
 size:=2
 rd _ _ cs d:=cs= [.int .i64 d.al,.int .i64 d.Method]
 len h:=by subst h;rfl
 one h v ag:=by subst h;simp only [List.mem_cons,List.not_mem_nil,or_false] at ag;rcases ag with rfl | rfl <;> rfl
 law _ h:=h
def ax8:av.db aP where
 size:=5
 rd F w cs d:=∃ dW c1 cZ c2 qb c3 tQ c4 tR c5,cs= [.slice dW d.a4.length c1,.slice cZ d.a0.length c2,.slice qb d.Fields.length c3,.slice tQ d.Names.length c4,.slice tR d.a1.length c5]/\(av.bZ J.jt).rd F w [.slice dW d.a4.length c1] d.a4/\(av.bZ (av.eR .i64)).rd F w [.slice cZ d.a0.length c2] d.a0/\(av.bZ (av.bZ J.iB)).rd F w [.slice qb d.Fields.length c3] d.Fields/\(av.bZ (av.bZ av.iA)).rd F w [.slice tQ d.Names.length c4] d.Names/\(av.bZ (av.bZ J.ju)).rd F w [.slice tR d.a1.length c5] d.a1
 len h:=by obtain ⟨dW,c1,cZ,c2,qb,c3,tQ,c4,tR,c5,aN,_⟩:=h;subst aN;rfl
 one h v ag:=by obtain ⟨dW,c1,cZ,c2,qb,c3,tQ,c4,tR,c5,aN,_⟩:=h;subst aN;simp only [List.mem_cons,List.not_mem_nil,or_false] at ag;rcases ag with rfl | rfl | rfl | rfl | rfl <;> rfl
 law az h:=by obtain ⟨dW,c1,cZ,c2,qb,c3,tQ,c4,tR,c5,aN,I,aa,aq,a',c8⟩:=h;exact ⟨dW,c1,cZ,c2,qb,c3,tQ,c4,tR,c5,aN,(av.bZ J.jt).law az I,(av.bZ (av.eR .i64)).law az aa,(av.bZ (av.bZ J.iB)).law az aq,(av.bZ (av.bZ av.iA)).law az a',(av.bZ (av.bZ J.ju)).law az c8⟩
def ax7:av.db aV where
 size:=7
 rd F w cs d:=∃ dW c1 cZ c2,cs= [.slice dW d.Words.length c1,.int .i64 d.ar,.int .i64 d.aO,.int .i64 d.aZ,.int .i64 d.aU,.slice cZ d.aS.length c2,.int .i64 d.Next]/\(av.bZ (av.eR .i64)).rd F w [.slice dW d.Words.length c1] d.Words/\(av.bZ (av.eR .i64)).rd F w [.slice cZ d.aS.length c2] d.aS
 len h:=by obtain ⟨dW,c1,cZ,c2,aN,_⟩:=h;subst aN;rfl
 one h v ag:=by obtain ⟨dW,c1,cZ,c2,aN,_⟩:=h;subst aN;simp only [List.mem_cons,List.not_mem_nil,or_false] at ag;rcases ag with rfl | rfl | rfl | rfl | rfl | rfl | rfl <;> rfl
 law az h:=by obtain ⟨dW,c1,cZ,c2,aN,I,aa⟩:=h;exact ⟨dW,c1,cZ,c2,aN,(av.bZ (av.eR .i64)).law az I,(av.bZ (av.eR .i64)).law az aa⟩
end J
namespace Go.Value
abbrev cY (g:Nat):Value:=.pointer (some ⟨g,0,none⟩)
abbrev i (n:Int):Value:=.int .i64 n
end Go.Value
namespace Go.Proofs.YteeliipnilghaaaGreat
open Go Go.RowKit
abbrev cf {α:Type} (T:av.db α) (A:Option Addr) (c:Nat) (l:List α):av.bt:=av.bt.of (av.bZ T) [.slice A l.length c] l
def pi:av.kP:=⟨[(3,.i .i64),(4,.b),(5,.i .u8),(9,.s),(22,.cf),(25,.cf),(26,.cf),(27,.cf),(28,.cf),(31,.i .i64),(73,.cf),(119,.cf),(120,.cf),(121,.cf),(124,.cf),(126,.cf),(129,.cf),(132,.cf),(202,.cf),(204,.cf)],[(24,0,0),(24,1,1),(24,2,2),(24,3,3),(24,4,4),(24,5,5),(24,6,6),(30,0,0),(30,1,1),(30,2,2),(30,3,3),(30,4,4),(69,0,0),(72,0,0),(72,1,7),(72,2,12),(72,3,13),(72,4,14),(117,0,0),(117,1,1),(117,2,2),(128,0,0),(128,1,1),(131,0,0),(131,1,1),(131,2,2),(131,3,3),(131,4,5),(131,5,6),(131,6,7),(131,7,8),(134,0,0),(134,1,1),(134,2,2),(134,3,3),(136,0,0),(136,1,1),(157,0,0),(157,1,1),(157,2,2),(157,3,3)],[(3,none),(4,none),(5,none),(9,none),(22,none),(24,some 7),(25,none),(26,none),(27,none),(28,none),(30,some 5),(60,none),(69,some 5),(70,none),(113,none),(115,none),(118,none),(120,none),(121,none),(124,none),(126,none),(128,some 2),(129,none),(131,some 9),(132,none),(134,some 4),(136,some 3),(157,some 4),(166,some 2)]⟩
theorem pj:av.qf Tryz.prog pi:=⟨⟨Tryz.underlying3,Tryz.underlying4,Tryz.underlying5,Tryz.underlying9,⟨_,Tryz.underlying22⟩,⟨_,Tryz.underlying25⟩,⟨_,Tryz.underlying26⟩,⟨_,Tryz.underlying27⟩,⟨_,Tryz.underlying28⟩,Tryz.underlying31,⟨_,Tryz.underlying73⟩,⟨_,Tryz.underlying119⟩,⟨_,Tryz.underlying120⟩,⟨_,Tryz.underlying121⟩,⟨_,Tryz.underlying124⟩,⟨_,Tryz.underlying126⟩,⟨_,Tryz.underlying129⟩,⟨_,Tryz.underlying132⟩,⟨_,Tryz.underlying202⟩,⟨_,Tryz.underlying204⟩,trivial⟩,⟨av.et Tryz.underlying24 rfl rfl Tryz.sizeOf22 rfl,av.et Tryz.underlying24 rfl rfl Tryz.sizeOf3 rfl,av.et Tryz.underlying24 rfl rfl Tryz.sizeOf3 rfl,av.et Tryz.underlying24 rfl rfl Tryz.sizeOf3 rfl,av.et Tryz.underlying24 rfl rfl Tryz.sizeOf3 rfl,av.et Tryz.underlying24 rfl rfl Tryz.sizeOf22 rfl,av.et Tryz.underlying24 rfl rfl Tryz.sizeOf3 rfl,av.et Tryz.underlying30 rfl rfl Tryz.sizeOf25 rfl,av.et Tryz.underlying30 rfl rfl Tryz.sizeOf22 rfl,av.et Tryz.underlying30 rfl rfl Tryz.sizeOf26 rfl,av.et Tryz.underlying30 rfl rfl Tryz.sizeOf27 rfl,av.et Tryz.underlying30 rfl rfl Tryz.sizeOf28 rfl,av.et Tryz.underlying69 rfl rfl Tryz.sizeOf30 rfl,av.et Tryz.underlying72 rfl rfl Tryz.sizeOf24 rfl,av.et Tryz.underlying72 rfl rfl Tryz.sizeOf69 rfl,av.et Tryz.underlying72 rfl rfl Tryz.sizeOf22 rfl,av.et Tryz.underlying72 rfl rfl Tryz.sizeOf22 rfl,av.et Tryz.underlying72 rfl rfl Tryz.sizeOf70 rfl,av.et Tryz.underlying117 rfl rfl Tryz.sizeOf25 rfl,av.et Tryz.underlying117 rfl rfl Tryz.sizeOf115 rfl,av.et Tryz.underlying117 rfl rfl Tryz.sizeOf22 rfl,av.et Tryz.underlying128 rfl rfl Tryz.sizeOf3 rfl,av.et Tryz.underlying128 rfl rfl Tryz.sizeOf9 rfl,av.et Tryz.underlying131 rfl rfl Tryz.sizeOf9 rfl,av.et Tryz.underlying131 rfl rfl Tryz.sizeOf4 rfl,av.et Tryz.underlying131 rfl rfl Tryz.sizeOf126 rfl,av.et Tryz.underlying131 rfl rfl Tryz.sizeOf128 rfl,av.et Tryz.underlying131 rfl rfl Tryz.sizeOf3 rfl,av.et Tryz.underlying131 rfl rfl Tryz.sizeOf3 rfl,av.et Tryz.underlying131 rfl rfl Tryz.sizeOf9 rfl,av.et Tryz.underlying131 rfl rfl Tryz.sizeOf129 rfl,av.et Tryz.underlying134 rfl rfl Tryz.sizeOf9 rfl,av.et Tryz.underlying134 rfl rfl Tryz.sizeOf9 rfl,av.et Tryz.underlying134 rfl rfl Tryz.sizeOf124 rfl,av.et Tryz.underlying134 rfl rfl Tryz.sizeOf132 rfl,av.et Tryz.underlying136 rfl rfl Tryz.sizeOf9 rfl,av.et Tryz.underlying136 rfl rfl Tryz.sizeOf128 rfl,av.et Tryz.underlying157 rfl rfl Tryz.sizeOf3 rfl,av.et Tryz.underlying157 rfl rfl Tryz.sizeOf3 rfl,av.et Tryz.underlying157 rfl rfl Tryz.sizeOf3 rfl,av.et Tryz.underlying157 rfl rfl Tryz.sizeOf9 rfl,trivial⟩,⟨Tryz.isAgg3,Tryz.isAgg4,Tryz.isAgg5,Tryz.isAgg9,Tryz.isAgg22,⟨Tryz.isAgg24,Tryz.sizeOf24⟩,Tryz.isAgg25,Tryz.isAgg26,Tryz.isAgg27,Tryz.isAgg28,⟨Tryz.isAgg30,Tryz.sizeOf30⟩,Tryz.isAgg60,⟨Tryz.isAgg69,Tryz.sizeOf69⟩,Tryz.isAgg70,Tryz.isAgg113,Tryz.isAgg115,Tryz.isAgg118,Tryz.isAgg120,Tryz.isAgg121,Tryz.isAgg124,Tryz.isAgg126,⟨Tryz.isAgg128,Tryz.sizeOf128⟩,Tryz.isAgg129,⟨Tryz.isAgg131,Tryz.sizeOf131⟩,Tryz.isAgg132,⟨Tryz.isAgg134,Tryz.sizeOf134⟩,⟨Tryz.isAgg136,Tryz.sizeOf136⟩,⟨Tryz.isAgg157,Tryz.sizeOf157⟩,⟨Tryz.isAgg166,Tryz.sizeOf166⟩,trivial⟩⟩
theorem aqZ:(Tryz.prog.info? 3).map (fun i=>(i.zero,i.size,i.bytes))=some (some (.int .i64 0),1,8):=by kernel_rfl
theorem PQ:(Tryz.prog.info? 9).map (fun i=>(i.zero,i.size,i.bytes))=some (some (av.cg []),1,16):=by kernel_rfl
theorem aqY:(Tryz.prog.info? 136).map (fun i=>(i.zero,i.size,i.bytes))=some (some (.agg #[av.cg [],.int .i64 0,av.cg []]),3,40):=by kernel_rfl
theorem PP:(Tryz.prog.info? 166).map (fun i=>(i.zero,i.size,i.bytes))=some (some (.agg #[.int .i64 0,.int .i64 0]),2,16):=by kernel_rfl
theorem aui:∀ w,(av.placesOf Tryz.prog 166).run Tryz.prog w= .ok #[(0,1),(1,1)] w:=fun w=>by kernel_rfl
theorem ani {o:Oper} {a:Act} {w:World} {t':TypeId} {x y:Operand} {X Y:J.Kind} (ap:o.op= .binOp .eql 128 x y t') (ad:a.eval x= .agg #[.int .i64 X.Kind,av.cg X.al]) (hy:a.eval y= .agg #[.int .i64 Y.Kind,av.cg Y.al]):av.bd Tryz.prog o a w (.bool (decide (X=Y))) w:=by
 have aL:decide (X=Y)=decide (X.Kind=Y.Kind/\X.al=Y.al/\True):=by rcases X with ⟨_,_⟩;rcases Y with ⟨_,_⟩;simp
 rw [aL]
 exact av.LD Tryz.underlying128 (by kernel_rfl) (by kernel_rfl) (av.lU rfl Tryz.underlying3 Tryz.isAgg3 rfl rfl (av.uM rfl Tryz.underlying9 Tryz.isAgg9 rfl rfl (by simp [av.qz]))) ap ad hy
theorem anm {o:Oper} {a:Act} {w:World} {t':TypeId} {x y:Operand} {X Y:J.Kind} (ap:o.op= .binOp .neq 128 x y t') (ad:a.eval x= .agg #[.int .i64 X.Kind,av.cg X.al]) (hy:a.eval y= .agg #[.int .i64 Y.Kind,av.cg Y.al]):av.bd Tryz.prog o a w (.bool (!decide (X=Y))) w:=by
 have aL:decide (X=Y)=decide (X.Kind=Y.Kind/\X.al=Y.al/\True):=by rcases X with ⟨_,_⟩;rcases Y with ⟨_,_⟩;simp
 rw [aL]
 exact av.LF Tryz.underlying128 (by kernel_rfl) (by kernel_rfl) (av.lU rfl Tryz.underlying3 Tryz.isAgg3 rfl rfl (av.uM rfl Tryz.underlying9 Tryz.isAgg9 rfl rfl (by simp [av.qz]))) ap ad hy
theorem ang {o:Oper} {a:Act} {w:World} {t':TypeId} {x y:Operand} {X Y:J.Field} (ap:o.op= .binOp .eql 136 x y t') (ad:a.eval x= .agg #[av.cg X.Name,.int .i64 X.Kind.Kind,av.cg X.Kind.al]) (hy:a.eval y= .agg #[av.cg Y.Name,.int .i64 Y.Kind.Kind,av.cg Y.Kind.al]):av.bd Tryz.prog o a w (.bool (decide (X=Y))) w:=by
 have aL:decide (X=Y)=decide (X.Name=Y.Name/\(X.Kind.Kind=Y.Kind.Kind/\X.Kind.al=Y.Kind.al/\True)/\True):=by rcases X with ⟨_,⟨_,_⟩⟩;rcases Y with ⟨_,⟨_,_⟩⟩;simp
 rw [aL]
 exact av.LD Tryz.underlying136 (by kernel_rfl) (by kernel_rfl) (av.uM rfl Tryz.underlying9 Tryz.isAgg9 rfl rfl (av.WZ (us:=[.int .i64 X.Kind.Kind,av.cg X.Kind.al]) (vs:=[.int .i64 Y.Kind.Kind,av.cg Y.Kind.al]) (q:=X.Kind.Kind=Y.Kind.Kind/\X.Kind.al=Y.Kind.al/\True) rfl Tryz.isAgg128 Tryz.sizeOf128 rfl rfl (av.W0 Tryz.underlying128 (by kernel_rfl) (av.lU rfl Tryz.underlying3 Tryz.isAgg3 rfl rfl (av.uM rfl Tryz.underlying9 Tryz.isAgg9 rfl rfl (by simp [av.qz])))) (by simp [av.qz]))) ap ad hy
theorem ank {o:Oper} {a:Act} {w:World} {t':TypeId} {x y:Operand} {X Y:J.Field} (ap:o.op= .binOp .neq 136 x y t') (ad:a.eval x= .agg #[av.cg X.Name,.int .i64 X.Kind.Kind,av.cg X.Kind.al]) (hy:a.eval y= .agg #[av.cg Y.Name,.int .i64 Y.Kind.Kind,av.cg Y.Kind.al]):av.bd Tryz.prog o a w (.bool (!decide (X=Y))) w:=by
 have aL:decide (X=Y)=decide (X.Name=Y.Name/\(X.Kind.Kind=Y.Kind.Kind/\X.Kind.al=Y.Kind.al/\True)/\True):=by rcases X with ⟨_,⟨_,_⟩⟩;rcases Y with ⟨_,⟨_,_⟩⟩;simp
 rw [aL]
 exact av.LF Tryz.underlying136 (by kernel_rfl) (by kernel_rfl) (av.uM rfl Tryz.underlying9 Tryz.isAgg9 rfl rfl (av.WZ (us:=[.int .i64 X.Kind.Kind,av.cg X.Kind.al]) (vs:=[.int .i64 Y.Kind.Kind,av.cg Y.Kind.al]) (q:=X.Kind.Kind=Y.Kind.Kind/\X.Kind.al=Y.Kind.al/\True) rfl Tryz.isAgg128 Tryz.sizeOf128 rfl rfl (av.W0 Tryz.underlying128 (by kernel_rfl) (av.lU rfl Tryz.underlying3 Tryz.isAgg3 rfl rfl (av.uM rfl Tryz.underlying9 Tryz.isAgg9 rfl rfl (by simp [av.qz])))) (by simp [av.qz]))) ap ad hy
theorem anh {o:Oper} {a:Act} {w:World} {t':TypeId} {x y:Operand} {X Y:J.Handler} (ap:o.op= .binOp .eql 157 x y t') (ad:a.eval x= .agg #[.int .i64 X.From,.int .i64 X.To,.int .i64 X.hS,av.cg X.al]) (hy:a.eval y= .agg #[.int .i64 Y.From,.int .i64 Y.To,.int .i64 Y.hS,av.cg Y.al]):av.bd Tryz.prog o a w (.bool (decide (X=Y))) w:=by
 have aL:decide (X=Y)=decide (X.From=Y.From/\X.To=Y.To/\X.hS=Y.hS/\X.al=Y.al/\True):=by rcases X with ⟨_,_,_,_⟩;rcases Y with ⟨_,_,_,_⟩;simp
 rw [aL]
 exact av.LD Tryz.underlying157 (by kernel_rfl) (by kernel_rfl) (av.lU rfl Tryz.underlying3 Tryz.isAgg3 rfl rfl (av.lU rfl Tryz.underlying3 Tryz.isAgg3 rfl rfl (av.lU rfl Tryz.underlying3 Tryz.isAgg3 rfl rfl (av.uM rfl Tryz.underlying9 Tryz.isAgg9 rfl rfl (by simp [av.qz]))))) ap ad hy
theorem anl {o:Oper} {a:Act} {w:World} {t':TypeId} {x y:Operand} {X Y:J.Handler} (ap:o.op= .binOp .neq 157 x y t') (ad:a.eval x= .agg #[.int .i64 X.From,.int .i64 X.To,.int .i64 X.hS,av.cg X.al]) (hy:a.eval y= .agg #[.int .i64 Y.From,.int .i64 Y.To,.int .i64 Y.hS,av.cg Y.al]):av.bd Tryz.prog o a w (.bool (!decide (X=Y))) w:=by
 have aL:decide (X=Y)=decide (X.From=Y.From/\X.To=Y.To/\X.hS=Y.hS/\X.al=Y.al/\True):=by rcases X with ⟨_,_,_,_⟩;rcases Y with ⟨_,_,_,_⟩;simp
 rw [aL]
 exact av.LF Tryz.underlying157 (by kernel_rfl) (by kernel_rfl) (av.lU rfl Tryz.underlying3 Tryz.isAgg3 rfl rfl (av.lU rfl Tryz.underlying3 Tryz.isAgg3 rfl rfl (av.lU rfl Tryz.underlying3 Tryz.isAgg3 rfl rfl (av.uM rfl Tryz.underlying9 Tryz.isAgg9 rfl rfl (by simp [av.qz]))))) ap ad hy
theorem anj {o:Oper} {a:Act} {w:World} {t':TypeId} {x y:Operand} {X Y:J.Target} (ap:o.op= .binOp .eql 166 x y t') (ad:a.eval x= .agg #[.int .i64 X.al,.int .i64 X.Method]) (hy:a.eval y= .agg #[.int .i64 Y.al,.int .i64 Y.Method]):av.bd Tryz.prog o a w (.bool (decide (X=Y))) w:=by
 have aL:decide (X=Y)=decide (X.al=Y.al/\X.Method=Y.Method/\True):=by rcases X with ⟨_,_⟩;rcases Y with ⟨_,_⟩;simp
 rw [aL]
 exact av.LD Tryz.underlying166 (by kernel_rfl) (by kernel_rfl) (av.lU rfl Tryz.underlying3 Tryz.isAgg3 rfl rfl (av.lU rfl Tryz.underlying3 Tryz.isAgg3 rfl rfl (by simp [av.qz]))) ap ad hy
theorem ann {o:Oper} {a:Act} {w:World} {t':TypeId} {x y:Operand} {X Y:J.Target} (ap:o.op= .binOp .neq 166 x y t') (ad:a.eval x= .agg #[.int .i64 X.al,.int .i64 X.Method]) (hy:a.eval y= .agg #[.int .i64 Y.al,.int .i64 Y.Method]):av.bd Tryz.prog o a w (.bool (!decide (X=Y))) w:=by
 have aL:decide (X=Y)=decide (X.al=Y.al/\X.Method=Y.Method/\True):=by rcases X with ⟨_,_⟩;rcases Y with ⟨_,_⟩;simp
 rw [aL]
 exact av.LF Tryz.underlying166 (by kernel_rfl) (by kernel_rfl) (av.lU rfl Tryz.underlying3 Tryz.isAgg3 rfl rfl (av.lU rfl Tryz.underlying3 Tryz.isAgg3 rfl rfl (by simp [av.qz]))) ap ad hy
section
open av
variable {n:cI} {a_:List (Nat × Value)} {w:World} {a:Act}
theorem auT (k:Nat) (ao:List Nat) {ops:Array Oper} {C:World->Prop} {oW:Act->Prop} {rest:List Oper} {M:List (Nat × Nat × List Value)} (fr':List (Nat × Value)) (L:List Nat) (eC:∀ w,C w->i_ w M) (af:Fr n a_ a)
 (next:∀ a2,Fr n fr' a2->wpQuiet Tryz.prog ops C oW (rest.drop k) a2) (he:k1 pi ops n M (rest.take k) ao a_ (fr'.map (·.1))=some (fr',dup L):=by kernel_rfl):wpQuiet Tryz.prog ops C oW rest a:=auS k _ ao pj eC af he next
theorem rg (ao:List Nat) {id:Nat} {lo:List Oper} {Q:Exit->Act->World->Prop} {M:List (Nat × Nat × List Value)} (fr':List (Nat × Value)) (L:List Nat) (eC:i_ w M) (af:Fr n a_ a)
 (next:∀ a2,Fr n fr' a2->Q .normal a2 w) (he:k1 pi lo.toArray n M lo ao a_ (fr'.map (·.1))=some (fr',dup L):=by kernel_rfl):(Code.region id lo.toArray false).wp Tryz.prog Q a w:=by
 refine mL (g0 lo.length _ ao pj eC af (by rw [List.take_length];exact he) fun a2 dL=>?_)
 rw [List.drop_length]
 exact next a2 dL
theorem FG (ao:List Nat) {id:Nat} {lo:List Oper} {c:Code} {Q:Exit->Act->World->Prop} (fr':List (Nat × Value)) (af:Fr n a_ a)
 (next:∀ a2,Fr n fr' a2->c.wp Tryz.prog Q a2 w) (he:k1 pi lo.toArray n [] lo ao a_ (fr'.map (·.1))=some (fr',dup []):=by kernel_rfl):(Code.seq (.region id lo.toArray false) c).wp Tryz.prog Q a w:=wp_seq_k fun _ cP=>rg ao fr' [] g9 af (fun a2 dL=>cP _ _ (next a2 dL)) he
theorem jP (k:Nat) (ao:List Nat) {ops:Array Oper} {Q:Exit->Act->World->Prop} {rest:List Oper} (ha:List (Nat × Value)) (af:Fr n a_ a)
 (next:∀ a2,Fr n (nU ha a_) a2->wpList Tryz.prog ops Q (rest.drop k) a2 w) (he:k1 pi ops n [] (rest.take k) ao a_ ((lS ha a_).map (·.1))=some (lS ha a_,dup []):=by kernel_rfl):wpList Tryz.prog ops Q rest a w:=g0 k _ ao pj g9 af he fun a2 h=>next a2 h.Hn
theorem qw (k:Nat) (ao:List Nat) {ops:Array Oper} {Q:Exit->Act->World->Prop} {rest:List Oper} {M:List (Nat × Nat × List Value)} (ha:List (Nat × Value)) (L:List Nat) (eC:i_ w M) (af:Fr n a_ a)
 (next:∀ a2,Fr n (nU ha a_) a2->wpList Tryz.prog ops Q (rest.drop k) a2 w) (he:k1 pi ops n M (rest.take k) ao a_ ((lS ha a_).map (·.1))=some (lS ha a_,dup L):=by kernel_rfl):wpList Tryz.prog ops Q rest a w:=g0 k _ ao pj eC af he fun a2 h=>next a2 h.Hn
theorem Wd (ao:List Nat) {id:Nat} {lo:List Oper} {Q:Exit->Act->World->Prop} {M:List (Nat × Nat × List Value)} (ha:List (Nat × Value)) (L:List Nat) (eC:i_ w M) (af:Fr n a_ a)
 (next:∀ a2,Fr n (nU ha a_) a2->Q .normal a2 w) (he:k1 pi lo.toArray n M lo ao a_ ((lS ha a_).map (·.1))=some (lS ha a_,dup L):=by kernel_rfl):(Code.region id lo.toArray false).wp Tryz.prog Q a w:=rg ao _ L eC af (fun a2 h=>next a2 h.Hn) he
theorem Wf (ao:List Nat) {id:Nat} {lo:List Oper} {Q:Exit->Act->World->Prop} (ha:List (Nat × Value)) (af:Fr n a_ a)
 (next:∀ a2,Fr n (nU ha a_) a2->Q .normal a2 w) (he:k1 pi lo.toArray n [] lo ao a_ ((lS ha a_).map (·.1))=some (lS ha a_,dup []):=by kernel_rfl):(Code.region id lo.toArray false).wp Tryz.prog Q a w:=Wd ao ha [] g9 af next he
theorem n0 (ao:List Nat) {id:Nat} {lo:List Oper} {c:Code} {Q:Exit->Act->World->Prop} (ha:List (Nat × Value)) (af:Fr n a_ a)
 (next:∀ a2,Fr n (nU ha a_) a2->c.wp Tryz.prog Q a2 w) (he:k1 pi lo.toArray n [] lo ao a_ ((lS ha a_).map (·.1))=some (lS ha a_,dup []):=by kernel_rfl):(Code.seq (.region id lo.toArray false) c).wp Tryz.prog Q a w:=wp_seq_k fun _ cP=>Wd ao ha [] g9 af (fun a2 dL=>cP _ _ (next a2 dL)) he
variable {ops:Array Oper} {Q:Exit->Act->World->Prop} {S:World->Prop} {f p:Nat} {ds:List Nat} {M:List (Nat × Nat × List Value)}
theorem dv (is:List Nat) (k:Nat) (ao:List Nat) (fr':List (Nat × Value)) (L:List Nat) (eC:∀ w,S w->i_ w M) (af:Fr n a_ a) (mT:S w) (next:∀ a2,Fr n fr' a2->eS Tryz.prog ops Q p S f (Fl is ds) a2 w)
 (ai:Nat.beq is.length k=true:=by kernel_rfl) (l9:(dC ops.size ds).getD p false=false:=by kernel_rfl) (aJ:B_ ops p ds is=true:=by kernel_rfl) (he:HF pi ops n M is ao a_ (fr'.map (·.1))=some (fr',dup L):=by kernel_rfl):eS Tryz.prog ops Q p S (f+k) ds a w:=by
 obtain ⟨os,I,aa⟩:=anQ he
 exact akU is k _ ao pj eC af ai l9 I aJ aa mT next
theorem ea (is:List Nat) (k:Nat) (ao:List Nat) (ha:List (Nat × Value)) (L:List Nat) (eC:∀ w,S w->i_ w M) (af:Fr n a_ a) (mT:S w) (next:∀ a2,Fr n (nU ha a_) a2->eS Tryz.prog ops Q p S f (Fl is ds) a2 w)
 (ai:Nat.beq is.length k=true:=by kernel_rfl) (l9:(dC ops.size ds).getD p false=false:=by kernel_rfl) (aJ:B_ ops p ds is=true:=by kernel_rfl) (he:HF pi ops n M is ao a_ ((lS ha a_).map (·.1))=some (lS ha a_,dup L):=by kernel_rfl):eS Tryz.prog ops Q p S (f+k) ds a w:=
 dv is k ao _ L eC af mT (fun a2 h=>next a2 h.Hn) ai l9 aJ he
end
end Go.Proofs.YteeliipnilghaaaGreat
namespace Go.Proofs.YteeliipnilghaaaGreat
open Go Go.RowKit
theorem lO:Tryz.prog.cellsOf 3 = 1 :=by kernel_rfl
theorem alW:Tryz.prog.cellsOf 4 = 1 :=by kernel_rfl
theorem uH:Tryz.prog.cellsOf 9 = 1 :=by kernel_rfl
theorem Mu:Tryz.prog.cellsOf 22 = 1 :=by kernel_rfl
theorem alQ:Tryz.prog.cellsOf 24 = 7 :=by kernel_rfl
theorem alR:Tryz.prog.cellsOf 25 = 1 :=by kernel_rfl
theorem alS:Tryz.prog.cellsOf 26 = 1 :=by kernel_rfl
theorem alT:Tryz.prog.cellsOf 27 = 1 :=by kernel_rfl
theorem alU:Tryz.prog.cellsOf 28 = 1 :=by kernel_rfl
theorem alV:Tryz.prog.cellsOf 30 = 5 :=by kernel_rfl
theorem alL:Tryz.prog.cellsOf 120 = 1 :=by kernel_rfl
theorem alM:Tryz.prog.cellsOf 121 = 1 :=by kernel_rfl
theorem V0:Tryz.prog.cellsOf 124 = 1 :=by kernel_rfl
theorem alN:Tryz.prog.cellsOf 126 = 1 :=by kernel_rfl
theorem Hj:Tryz.prog.cellsOf 128 = 2 :=by kernel_rfl
theorem alO:Tryz.prog.cellsOf 129 = 1 :=by kernel_rfl
theorem V1:Tryz.prog.cellsOf 131 = 9 :=by kernel_rfl
theorem alP:Tryz.prog.cellsOf 132 = 1 :=by kernel_rfl
theorem V2:Tryz.prog.cellsOf 134 = 4 :=by kernel_rfl
theorem V3:Tryz.prog.cellsOf 136 = 3 :=by kernel_rfl
theorem V4:Tryz.prog.cellsOf 157 = 4 :=by kernel_rfl
theorem V5:Tryz.prog.cellsOf 166 = 2 :=by kernel_rfl
theorem ale:Tryz.prog.bytesOf 3 = 8 :=by kernel_rfl
theorem alf:Tryz.prog.bytesOf 9 = 16 :=by kernel_rfl
theorem ak7:Tryz.prog.bytesOf 120 = 24 :=by kernel_rfl
theorem ak8:Tryz.prog.bytesOf 121 = 24 :=by kernel_rfl
theorem ak9:Tryz.prog.bytesOf 124 = 24 :=by kernel_rfl
theorem ak_:Tryz.prog.bytesOf 128 = 24 :=by kernel_rfl
theorem ak':Tryz.prog.bytesOf 131 = 128 :=by kernel_rfl
theorem ala:Tryz.prog.bytesOf 134 = 80 :=by kernel_rfl
theorem alb:Tryz.prog.bytesOf 136 = 40 :=by kernel_rfl
theorem alc:Tryz.prog.bytesOf 157 = 40 :=by kernel_rfl
theorem ald:Tryz.prog.bytesOf 166 = 16 :=by kernel_rfl
theorem ZS {l:List Value} (h:l.length= 2):∃ dv cF,l= [dv,cF]:=match l,h with | [dv,cF],_=>⟨dv,cF,rfl⟩
theorem asx {l:List Value} (h:l.length= 3):∃ dv cF dc,l= [dv,cF,dc]:=match l,h with | [dv,cF,dc],_=>⟨dv,cF,dc,rfl⟩
theorem ZT {l:List Value} (h:l.length= 4):∃ dv cF dc dJ,l= [dv,cF,dc,dJ]:=match l,h with | [dv,cF,dc,dJ],_=>⟨dv,cF,dc,dJ,rfl⟩
theorem asy {l:List Value} (h:l.length= 5):∃ dv cF dc dJ eH,l= [dv,cF,dc,dJ,eH]:=match l,h with | [dv,cF,dc,dJ,eH],_=>⟨dv,cF,dc,dJ,eH,rfl⟩
theorem asz {l:List Value} (h:l.length= 7):∃ dv cF dc dJ eH lL kX,l= [dv,cF,dc,dJ,eH,lL,kX]:=match l,h with | [dv,cF,dc,dJ,eH,lL,kX],_=>⟨dv,cF,dc,dJ,eH,lL,kX,rfl⟩
theorem asA {l:List Value} (h:l.length= 9):∃ dv cF dc dJ eH lL kX x5 Av,l= [dv,cF,dc,dJ,eH,lL,kX,x5,Av]:=match l,h with | [dv,cF,dc,dJ,eH,lL,kX,x5,Av],_=>⟨dv,cF,dc,dJ,eH,lL,kX,x5,Av,rfl⟩
section
variable {H:Type} {enc:TypeId × Value->H} {N:Nat}
theorem JY:av.g3 Tryz.prog enc N 22 (av.bZ (av.eR .i64)) (fun l=>l.length* 8 <=N/\ ∀ cK ∈ l,av.iK cK):=by
 have h:=av.pX (enc:=enc) (N:=N) Tryz.underlying22 lO (by decide) (av.mr Tryz.underlying3)
 rw [ale] at h
 exact h
def U' (N:Nat) (d:J.aV):Prop:=(d.Words.length* 8 <=N/\ ∀ cK ∈ d.Words,av.iK cK)/\av.iK d.ar/\av.iK d.aO/\av.iK d.aZ/\av.iK d.aU/\(d.aS.length* 8 <=N/\ ∀ cK ∈ d.aS,av.iK cK)/\av.iK d.Next
theorem awC:av.g3 Tryz.prog enc N 24 J.ax7 (U' N):=by
 intro W n cs x h aD hw
 obtain ⟨fD,ak,af⟩:=av.mP Tryz.underlying24 h aD hw
 replace ak:=ak.trans alQ
 obtain ⟨dv,cF,dc,dJ,eH,lL,kX,rfl⟩:=asz ak
 obtain ⟨zY,aN,gM,w0⟩:=av.e0 af 0 rfl rfl rfl Mu (r:=[dv]) rfl
 obtain ⟨d0,fO,hK⟩:=(JY) W _ _ _ aN gM w0
 obtain ⟨oR,gl,cW⟩:=av.lp fO
 obtain rfl:dv=_:=(List.cons.inj cW).1
 obtain ⟨dk,I,dN,fQ⟩:=av.e0 af 1 rfl rfl rfl lO (r:=[cF]) rfl
 obtain ⟨d1,b9,bf⟩:=(av.mr Tryz.underlying3) W _ _ _ I dN fQ
 have e1:[cF]=_:=b9
 obtain rfl:cF=_:=(List.cons.inj e1).1
 obtain ⟨jv,aa,f',ek⟩:=av.e0 af 2 rfl rfl rfl lO (r:=[dc]) rfl
 obtain ⟨d2,cJ,bh⟩:=(av.mr Tryz.underlying3) W _ _ _ aa f' ek
 have e2:[dc]=_:=cJ
 obtain rfl:dc=_:=(List.cons.inj e2).1
 obtain ⟨p_,aq,hM,lu⟩:=av.e0 af 3 rfl rfl rfl lO (r:=[dJ]) rfl
 obtain ⟨d3,hg,ca⟩:=(av.mr Tryz.underlying3) W _ _ _ aq hM lu
 have e3:[dJ]=_:=hg
 obtain rfl:dJ=_:=(List.cons.inj e3).1
 obtain ⟨CA,a',kE,FQ⟩:=av.e0 af 4 rfl rfl rfl lO (r:=[eH]) rfl
 obtain ⟨d4,rk,c6⟩:=(av.mr Tryz.underlying3) W _ _ _ a' kE FQ
 have e4:[eH]=_:=rk
 obtain rfl:eH=_:=(List.cons.inj e4).1
 obtain ⟨aBx,c8,BJ,Ti⟩:=av.e0 af 5 rfl rfl rfl Mu (r:=[lL]) rfl
 obtain ⟨d5,BT,m7⟩:=(JY) W _ _ _ c8 BJ Ti
 obtain ⟨tR,c5,e5⟩:=av.lp BT
 obtain rfl:lL=_:=(List.cons.inj e5).1
 obtain ⟨aBy,gH,Rb,Tj⟩:=av.e0 af 6 rfl rfl rfl lO (r:=[kX]) rfl
 obtain ⟨d6,Sw,vm⟩:=(av.mr Tryz.underlying3) W _ _ _ gH Rb Tj
 have e6:[kX]=_:=Sw
 obtain rfl:kX=_:=(List.cons.inj e6).1
 exact ⟨⟨d0,d1,d2,d3,d4,d5,d6⟩,⟨oR,gl,tR,c5,rfl,fO,BT⟩,⟨hK,bf,bh,ca,c6,m7,vm⟩⟩
def CN (N:Nat) (d:J.Kind):Prop:=av.iK d.Kind/\d.al.length<=N
theorem SD:av.g3 Tryz.prog enc N 128 J.zB (CN N):=by
 intro W n cs x h aD hw
 obtain ⟨fD,ak,af⟩:=av.mP Tryz.underlying128 h aD hw
 replace ak:=ak.trans Hj
 obtain ⟨dv,cF,rfl⟩:=ZS ak
 obtain ⟨zY,aN,gM,w0⟩:=av.e0 af 0 rfl rfl rfl lO (r:=[dv]) rfl
 obtain ⟨d0,fO,hK⟩:=(av.mr Tryz.underlying3) W _ _ _ aN gM w0
 have cW:[dv]=_:=fO
 obtain rfl:dv=_:=(List.cons.inj cW).1
 obtain ⟨dk,I,dN,fQ⟩:=av.e0 af 1 rfl rfl rfl uH (r:=[cF]) rfl
 obtain ⟨d1,b9,bf⟩:=(av.v_ Tryz.underlying9) W _ _ _ I dN fQ
 have e1:[cF]=_:=b9
 obtain rfl:cF=_:=(List.cons.inj e1).1
 exact ⟨⟨d0,d1⟩,rfl,⟨hK,bf⟩⟩
def CM (N:Nat) (d:J.Field):Prop:=d.Name.length<=N/\CN N d.Kind
theorem awA:av.g3 Tryz.prog enc N 136 J.iB (CM N):=by
 intro W n cs x h aD hw
 obtain ⟨fD,ak,af⟩:=av.mP Tryz.underlying136 h aD hw
 replace ak:=ak.trans V3
 obtain ⟨dv,cF,dc,rfl⟩:=asx ak
 obtain ⟨zY,aN,gM,w0⟩:=av.e0 af 0 rfl rfl rfl uH (r:=[dv]) rfl
 obtain ⟨d0,fO,hK⟩:=(av.v_ Tryz.underlying9) W _ _ _ aN gM w0
 have cW:[dv]=_:=fO
 obtain rfl:dv=_:=(List.cons.inj cW).1
 obtain ⟨dk,I,dN,fQ⟩:=av.e0 af 1 rfl rfl rfl Hj (r:=[cF,dc]) rfl
 obtain ⟨d1,b9,bf⟩:=SD W _ _ _ I dN fQ
 have e1:[cF,dc]=_:=b9
 simp only [List.cons.injEq,and_true] at e1
 obtain ⟨rfl,rfl⟩:=e1
 exact ⟨⟨d0,d1⟩,rfl,⟨hK,bf⟩⟩
theorem abE:av.g3 Tryz.prog enc N 124 (av.bZ J.iB) (fun l=>l.length* 40 <=N/\ ∀ cK ∈ l,CM N cK):=by
 have h:=av.pX (enc:=enc) (N:=N) Tryz.underlying124 V3 (by decide) awA
 rw [alb] at h
 exact h
theorem awJ:av.g3 Tryz.prog enc N 126 (av.bZ J.zB) (fun l=>l.length* 24 <=N/\ ∀ cK ∈ l,CN N cK):=by
 have h:=av.pX (enc:=enc) (N:=N) Tryz.underlying126 Hj (by decide) SD
 rw [ak_] at h
 exact h
def LZ (N:Nat) (d:J.Handler):Prop:=av.iK d.From/\av.iK d.To/\av.iK d.hS/\d.al.length<=N
theorem awB:av.g3 Tryz.prog enc N 157 J.zA (LZ N):=by
 intro W n cs x h aD hw
 obtain ⟨fD,ak,af⟩:=av.mP Tryz.underlying157 h aD hw
 replace ak:=ak.trans V4
 obtain ⟨dv,cF,dc,dJ,rfl⟩:=ZT ak
 obtain ⟨zY,aN,gM,w0⟩:=av.e0 af 0 rfl rfl rfl lO (r:=[dv]) rfl
 obtain ⟨d0,fO,hK⟩:=(av.mr Tryz.underlying3) W _ _ _ aN gM w0
 have cW:[dv]=_:=fO
 obtain rfl:dv=_:=(List.cons.inj cW).1
 obtain ⟨dk,I,dN,fQ⟩:=av.e0 af 1 rfl rfl rfl lO (r:=[cF]) rfl
 obtain ⟨d1,b9,bf⟩:=(av.mr Tryz.underlying3) W _ _ _ I dN fQ
 have e1:[cF]=_:=b9
 obtain rfl:cF=_:=(List.cons.inj e1).1
 obtain ⟨jv,aa,f',ek⟩:=av.e0 af 2 rfl rfl rfl lO (r:=[dc]) rfl
 obtain ⟨d2,cJ,bh⟩:=(av.mr Tryz.underlying3) W _ _ _ aa f' ek
 have e2:[dc]=_:=cJ
 obtain rfl:dc=_:=(List.cons.inj e2).1
 obtain ⟨p_,aq,hM,lu⟩:=av.e0 af 3 rfl rfl rfl uH (r:=[dJ]) rfl
 obtain ⟨d3,hg,ca⟩:=(av.v_ Tryz.underlying9) W _ _ _ aq hM lu
 have e3:[dJ]=_:=hg
 obtain rfl:dJ=_:=(List.cons.inj e3).1
 exact ⟨⟨d0,d1,d2,d3⟩,rfl,⟨hK,bf,bh,ca⟩⟩
theorem awK:av.g3 Tryz.prog enc N 129 (av.bZ J.zA) (fun l=>l.length* 40 <=N/\ ∀ cK ∈ l,LZ N cK):=by
 have h:=av.pX (enc:=enc) (N:=N) Tryz.underlying129 V4 (by decide) awB
 rw [alc] at h
 exact h
def GR (N:Nat) (d:J.Method):Prop:=d.Name.length<=N/\True/\(d.cr.length* 24 <=N/\ ∀ cK ∈ d.cr,CN N cK)/\CN N d.Returns/\av.iK d.g4/\av.iK d.g2/\d.Code.length<=N/\(d.cw.length* 40 <=N/\ ∀ cK ∈ d.cw,LZ N cK)
theorem awE:av.g3 Tryz.prog enc N 131 J.oM (GR N):=by
 intro W n cs x h aD hw
 obtain ⟨fD,ak,af⟩:=av.mP Tryz.underlying131 h aD hw
 replace ak:=ak.trans V1
 obtain ⟨dv,cF,dc,dJ,eH,lL,kX,x5,Av,rfl⟩:=asA ak
 obtain ⟨zY,aN,gM,w0⟩:=av.e0 af 0 rfl rfl rfl uH (r:=[dv]) rfl
 obtain ⟨d0,fO,hK⟩:=(av.v_ Tryz.underlying9) W _ _ _ aN gM w0
 have cW:[dv]=_:=fO
 obtain rfl:dv=_:=(List.cons.inj cW).1
 obtain ⟨dk,I,dN,fQ⟩:=av.e0 af 1 rfl rfl rfl alW (r:=[cF]) rfl
 obtain ⟨d1,b9,bf⟩:=(av.awG Tryz.underlying4) W _ _ _ I dN fQ
 have e1:[cF]=_:=b9
 obtain rfl:cF=_:=(List.cons.inj e1).1
 obtain ⟨jv,aa,f',ek⟩:=av.e0 af 2 rfl rfl rfl alN (r:=[dc]) rfl
 obtain ⟨d2,cJ,bh⟩:=(awJ) W _ _ _ aa f' ek
 obtain ⟨cZ,c2,e2⟩:=av.lp cJ
 obtain rfl:dc=_:=(List.cons.inj e2).1
 obtain ⟨p_,aq,hM,lu⟩:=av.e0 af 3 rfl rfl rfl Hj (r:=[dJ,eH]) rfl
 obtain ⟨d3,hg,ca⟩:=SD W _ _ _ aq hM lu
 have e3:[dJ,eH]=_:=hg
 simp only [List.cons.injEq,and_true] at e3
 obtain ⟨rfl,rfl⟩:=e3
 obtain ⟨CA,a',kE,FQ⟩:=av.e0 af 4 rfl rfl rfl lO (r:=[lL]) rfl
 obtain ⟨d4,rk,c6⟩:=(av.mr Tryz.underlying3) W _ _ _ a' kE FQ
 have e4:[lL]=_:=rk
 obtain rfl:lL=_:=(List.cons.inj e4).1
 obtain ⟨aBx,c8,BJ,Ti⟩:=av.e0 af 5 rfl rfl rfl lO (r:=[kX]) rfl
 obtain ⟨d5,BT,m7⟩:=(av.mr Tryz.underlying3) W _ _ _ c8 BJ Ti
 have e5:[kX]=_:=BT
 obtain rfl:kX=_:=(List.cons.inj e5).1
 obtain ⟨aBy,gH,Rb,Tj⟩:=av.e0 af 6 rfl rfl rfl uH (r:=[x5]) rfl
 obtain ⟨d6,Sw,vm⟩:=(av.v_ Tryz.underlying9) W _ _ _ gH Rb Tj
 have e6:[x5]=_:=Sw
 obtain rfl:x5=_:=(List.cons.inj e6).1
 obtain ⟨aDr,hY,aud,aye⟩:=av.e0 af 7 rfl rfl rfl alO (r:=[Av]) rfl
 obtain ⟨d7,abo,arh⟩:=(awK) W _ _ _ hY aud aye
 obtain ⟨ag2,alj,e7⟩:=av.lp abo
 obtain rfl:Av=_:=(List.cons.inj e7).1
 exact ⟨⟨d0,d1,d2,d3,d4,d5,d6,d7⟩,⟨cZ,c2,ag2,alj,rfl,cJ,abo⟩,⟨hK,bf,bh,ca,c6,m7,vm,arh⟩⟩
theorem awL:av.g3 Tryz.prog enc N 132 (av.bZ J.oM) (fun l=>l.length* 128 <=N/\ ∀ cK ∈ l,GR N cK):=by
 have h:=av.pX (enc:=enc) (N:=N) Tryz.underlying132 V1 (by decide) awE
 rw [ak'] at h
 exact h
def CL (N:Nat) (d:J.al):Prop:=d.Name.length<=N/\d.cO.length<=N/\(d.Fields.length* 40 <=N/\ ∀ cK ∈ d.Fields,CM N cK)/\(d.bb.length* 128 <=N/\ ∀ cK ∈ d.bb,GR N cK)
theorem awz:av.g3 Tryz.prog enc N 134 J.jt (CL N):=by
 intro W n cs x h aD hw
 obtain ⟨fD,ak,af⟩:=av.mP Tryz.underlying134 h aD hw
 replace ak:=ak.trans V2
 obtain ⟨dv,cF,dc,dJ,rfl⟩:=ZT ak
 obtain ⟨zY,aN,gM,w0⟩:=av.e0 af 0 rfl rfl rfl uH (r:=[dv]) rfl
 obtain ⟨d0,fO,hK⟩:=(av.v_ Tryz.underlying9) W _ _ _ aN gM w0
 have cW:[dv]=_:=fO
 obtain rfl:dv=_:=(List.cons.inj cW).1
 obtain ⟨dk,I,dN,fQ⟩:=av.e0 af 1 rfl rfl rfl uH (r:=[cF]) rfl
 obtain ⟨d1,b9,bf⟩:=(av.v_ Tryz.underlying9) W _ _ _ I dN fQ
 have e1:[cF]=_:=b9
 obtain rfl:cF=_:=(List.cons.inj e1).1
 obtain ⟨jv,aa,f',ek⟩:=av.e0 af 2 rfl rfl rfl V0 (r:=[dc]) rfl
 obtain ⟨d2,cJ,bh⟩:=(abE) W _ _ _ aa f' ek
 obtain ⟨cZ,c2,e2⟩:=av.lp cJ
 obtain rfl:dc=_:=(List.cons.inj e2).1
 obtain ⟨p_,aq,hM,lu⟩:=av.e0 af 3 rfl rfl rfl alP (r:=[dJ]) rfl
 obtain ⟨d3,hg,ca⟩:=(awL) W _ _ _ aq hM lu
 obtain ⟨qb,c3,e3⟩:=av.lp hg
 obtain rfl:dJ=_:=(List.cons.inj e3).1
 exact ⟨⟨d0,d1,d2,d3⟩,⟨cZ,c2,qb,c3,rfl,cJ,hg⟩,⟨hK,bf,bh,ca⟩⟩
theorem awM:av.g3 Tryz.prog enc N 25 (av.bZ J.jt) (fun l=>l.length* 80 <=N/\ ∀ cK ∈ l,CL N cK):=by
 have h:=av.pX (enc:=enc) (N:=N) Tryz.underlying25 V2 (by decide) awz
 rw [ala] at h
 exact h
theorem awN:av.g3 Tryz.prog enc N 26 (av.bZ (av.bZ J.iB)) (fun l=>l.length* 24 <=N/\ ∀ cK ∈ l,(cK.length* 40 <=N/\ ∀ gz ∈ cK,CM N gz)):=by
 have h:=av.pX (enc:=enc) (N:=N) Tryz.underlying26 V0 (by decide) (abE)
 rw [ak9] at h
 exact h
theorem awH:av.g3 Tryz.prog enc N 120 (av.bZ av.iA) (fun l=>l.length* 16 <=N/\ ∀ cK ∈ l,cK.length<=N):=by
 have h:=av.pX (enc:=enc) (N:=N) Tryz.underlying120 uH (by decide) (av.v_ Tryz.underlying9)
 rw [alf] at h
 exact h
theorem awO:av.g3 Tryz.prog enc N 27 (av.bZ (av.bZ av.iA)) (fun l=>l.length* 24 <=N/\ ∀ cK ∈ l,(cK.length* 16 <=N/\ ∀ gz ∈ cK,gz.length<=N)):=by
 have h:=av.pX (enc:=enc) (N:=N) Tryz.underlying27 alL (by decide) (awH)
 rw [ak7] at h
 exact h
def GU (N:Nat) (d:J.Target):Prop:=av.iK d.al/\av.iK d.Method
theorem awF:av.g3 Tryz.prog enc N 166 J.ju (GU N):=by
 intro W n cs x h aD hw
 obtain ⟨fD,ak,af⟩:=av.mP Tryz.underlying166 h aD hw
 replace ak:=ak.trans V5
 obtain ⟨dv,cF,rfl⟩:=ZS ak
 obtain ⟨zY,aN,gM,w0⟩:=av.e0 af 0 rfl rfl rfl lO (r:=[dv]) rfl
 obtain ⟨d0,fO,hK⟩:=(av.mr Tryz.underlying3) W _ _ _ aN gM w0
 have cW:[dv]=_:=fO
 obtain rfl:dv=_:=(List.cons.inj cW).1
 obtain ⟨dk,I,dN,fQ⟩:=av.e0 af 1 rfl rfl rfl lO (r:=[cF]) rfl
 obtain ⟨d1,b9,bf⟩:=(av.mr Tryz.underlying3) W _ _ _ I dN fQ
 have e1:[cF]=_:=b9
 obtain rfl:cF=_:=(List.cons.inj e1).1
 exact ⟨⟨d0,d1⟩,rfl,⟨hK,bf⟩⟩
theorem awI:av.g3 Tryz.prog enc N 121 (av.bZ J.ju) (fun l=>l.length* 16 <=N/\ ∀ cK ∈ l,GU N cK):=by
 have h:=av.pX (enc:=enc) (N:=N) Tryz.underlying121 V5 (by decide) awF
 rw [ald] at h
 exact h
theorem awP:av.g3 Tryz.prog enc N 28 (av.bZ (av.bZ J.ju)) (fun l=>l.length* 24 <=N/\ ∀ cK ∈ l,(cK.length* 16 <=N/\ ∀ gz ∈ cK,GU N gz)):=by
 have h:=av.pX (enc:=enc) (N:=N) Tryz.underlying28 alM (by decide) (awI)
 rw [ak8] at h
 exact h
def GQ (N:Nat) (d:J.aP):Prop:=(d.a4.length* 80 <=N/\ ∀ cK ∈ d.a4,CL N cK)/\(d.a0.length* 8 <=N/\ ∀ cK ∈ d.a0,av.iK cK)/\(d.Fields.length* 24 <=N/\ ∀ cK ∈ d.Fields,(cK.length* 40 <=N/\ ∀ gz ∈ cK,CM N gz))/\(d.Names.length* 24 <=N/\ ∀ cK ∈ d.Names,(cK.length* 16 <=N/\ ∀ gz ∈ cK,gz.length<=N))/\(d.a1.length* 24 <=N/\ ∀ cK ∈ d.a1,(cK.length* 16 <=N/\ ∀ gz ∈ cK,GU N gz))
theorem awD:av.g3 Tryz.prog enc N 30 J.ax8 (GQ N):=by
 intro W n cs x h aD hw
 obtain ⟨fD,ak,af⟩:=av.mP Tryz.underlying30 h aD hw
 replace ak:=ak.trans alV
 obtain ⟨dv,cF,dc,dJ,eH,rfl⟩:=asy ak
 obtain ⟨zY,aN,gM,w0⟩:=av.e0 af 0 rfl rfl rfl alR (r:=[dv]) rfl
 obtain ⟨d0,fO,hK⟩:=(awM) W _ _ _ aN gM w0
 obtain ⟨oR,gl,cW⟩:=av.lp fO
 obtain rfl:dv=_:=(List.cons.inj cW).1
 obtain ⟨dk,I,dN,fQ⟩:=av.e0 af 1 rfl rfl rfl Mu (r:=[cF]) rfl
 obtain ⟨d1,b9,bf⟩:=(JY) W _ _ _ I dN fQ
 obtain ⟨dW,c1,e1⟩:=av.lp b9
 obtain rfl:cF=_:=(List.cons.inj e1).1
 obtain ⟨jv,aa,f',ek⟩:=av.e0 af 2 rfl rfl rfl alS (r:=[dc]) rfl
 obtain ⟨d2,cJ,bh⟩:=(awN) W _ _ _ aa f' ek
 obtain ⟨cZ,c2,e2⟩:=av.lp cJ
 obtain rfl:dc=_:=(List.cons.inj e2).1
 obtain ⟨p_,aq,hM,lu⟩:=av.e0 af 3 rfl rfl rfl alT (r:=[dJ]) rfl
 obtain ⟨d3,hg,ca⟩:=(awO) W _ _ _ aq hM lu
 obtain ⟨qb,c3,e3⟩:=av.lp hg
 obtain rfl:dJ=_:=(List.cons.inj e3).1
 obtain ⟨CA,a',kE,FQ⟩:=av.e0 af 4 rfl rfl rfl alU (r:=[eH]) rfl
 obtain ⟨d4,rk,c6⟩:=(awP) W _ _ _ a' kE FQ
 obtain ⟨tQ,c4,e4⟩:=av.lp rk
 obtain rfl:eH=_:=(List.cons.inj e4).1
 exact ⟨⟨d0,d1,d2,d3,d4⟩,⟨oR,gl,dW,c1,cZ,c2,qb,c3,tQ,c4,rfl,fO,b9,cJ,hg,rk⟩,⟨hK,bf,bh,ca,c6⟩⟩
end
end Go.Proofs.YteeliipnilghaaaGreat
namespace bz
open Go Go.RowKit av J
inductive aI (El:Nat->Type):Type
 | p (v:Value)
 | b (i o:Nat)
 | x (t:Nat) (d:El t) (o:Nat)
 | s (t:Nat) (l:List (El t))
 | q (t:Nat) (l:List (El t))
 | r (i g:Nat)
 | v (i g:Nat) (lo hi:Int)
 | e (i g k t:Nat) (j:Int) (d:El t) (o:Nat)
 | w (i g o:Nat)
 | m (i:Nat)
 | n (bP vt:Nat) (d:List (El bP × El vt))
 | f (fn:Fn) (cs:List (aI El))
 | h (fn:Fn) (us:List (aI El))
 | a (l:List (aI El))
 | u (l:List (aI El))
 | i (t:Nat) (y:aI El)
 | pp (i g sz:Nat) (ec:List Int)
 | v9 (i g sz:Nat) (q:Int)
inductive aF (El:Nat->Type):Type
 | c (ty:Nat) (cs:List (aI El))
 | r (t g k:Nat) (l:List (El t))
 | k (t sz g:Nat) (cs:List (aI El))
 | z (t g k:Nat) (l:List (El t))
 | m (bP vt:Nat) (d:List (El bP × El vt))
 | o (Q1:Obj)
 | no (g:Nat)
structure iL (cD:Type) where
 dec:DecidableEq cD
 pB: @kd cD dec
structure b5 (El:Nat->Type) (t:Nat) where
 ty:db (El t)
 agg:Bool
 cs:El t->List (aI El)
 gU:List (aI El)->Option (El t)
 eq:Option (El t->El t->Bool)
 key:Option (iL (El t))
structure b3 where
 El:Nat->Type
 es:List (Σ t,b5 El t)
def ax6 {α:Type}:db α where
 size:=0
 rd _ _ _ _:=False
 len h:=h.elim
 one h:=h.elim
 law _ h:=h
def b5.no {El:Nat->Type} {t:Nat}:b5 El t:=⟨ax6,true,fun _=>[],fun _=>none,none,none⟩
def fG {El:Nat->Type}:List (Σ t,b5 El t)->(t:Nat)->b5 El t
 | [],_=>b5.no
 | e::r,t=>match Nat.decEq e.1 t with
   | isTrue h=>h ▸ e.2
   | isFalse _=>fG r t
def b3.e (T:b3) (t:Nat):b5 T.El t:=fG T.es t
def b3.ty (T:b3) (t:Nat):db (T.El t):=(T.e t).ty
def b1 {El:Nat->Type}:Option (aF El)->Nat
 | some (.r _ g _ _)=>g
 | some (.k _ _ g _)=>g
 | some (.z _ g _ _)=>g
 | some (.no g)=>g
 | _=>0
def gx {El:Nat->Type}:Option (aF El)->Nat
 | some (.r _ _ k _)=>k
 | some (.z _ _ k _)=>k
 | _=>0
def p0 {El:Nat->Type}:Option (aF El)->Option (Σ t,List (El t))
 | some (.r t _ _ l)=>some ⟨t,l⟩
 | some (.z t _ _ l)=>some ⟨t,l⟩
 | _=>none
def iv (T:b3):Option (aF T.El)->Nat
 | some (.r t _ _ _)=>(T.ty t).size
 | some (.k _ sz _ _)=>sz
 | some (.z t _ _ _)=>(T.ty t).size
 | _=>0
def mf:Value->Prop
 | .slice _ _ _=>True
 | _=>False
def sL:Value->Prop
 | .pointer (some _)=>True
 | _=>False
def vZ (agg:Bool) (xs:List Value):Value:=match agg with
 | true=>.agg ⟨xs⟩
 | false=>xs.headD undef
section
variable (T:b3) (F:Nat->Prop) (w:World)
def x3 (t:Nat) (d:T.El t) (v:Value):Prop:=∃ xs,(T.ty t).rd F w xs d/\v=vZ (T.e t).agg xs
def jx {bP vt:Nat} (K:iL (T.El bP)):List MapEntry->List (T.El bP × T.El vt)->Prop
 | [],[]=>True
 | e::es,p::d=>e.key= @kd.enc _ K.dec K.pB p.1 /\x3 T F w vt p.2 e.val/\jx K es d
 | _,_=>False
def t_ (bP vt r:Nat) (d:List (T.El bP × T.El vt)):Prop:=∃ K,(T.e bP).key=some K/\ ∃ es clock,w.heap[r]? =some (.map es clock)/\jx T F w K es.toList d/\(es.toList.map (·.born)).Pairwise (· < ·)/\ ∀ e ∈ es.toList,e.born <clock
end
section
variable {T:b3} {F F':Nat->Prop} {w w':World}
theorem jx.law (az:∀ k,F k->F' k/\w'.heap[k]? =w.heap[k]?) {bP vt:Nat} {K:iL (T.El bP)}:∀ {es:List MapEntry} {d:List (T.El bP × T.El vt)},jx T F w K es d->jx T F' w' K es d
 | [],[],_=>trivial
 | [],_::_,h=>h.elim
 | _::_,[],h=>h.elim
 | e::es,p::d,h=>by
   obtain ⟨I,⟨xs,aa,aq⟩,a'⟩:=h
   exact ⟨I,⟨xs,(T.ty vt).law az aa,aq⟩,jx.law az a'⟩
theorem t_.law (az:∀ k,F k->F' k/\w'.heap[k]? =w.heap[k]?) {bP vt r:Nat} {d:List (T.El bP × T.El vt)} (ao:w'.heap[r]? =w.heap[r]?) (h:t_ T F w bP vt r d):t_ T F' w' bP vt r d:=by
 obtain ⟨K,I,es,gG,aa,aq,a'⟩:=h
 exact ⟨K,I,es,gG,ao.trans aa,aq.law az,a'⟩
end
def rT {El:Nat->Type} (ρ:List Value) (bl:List (aF El)) (i g sz:Nat) (q:Int) (v:Value):Prop:=sL v/\ ∃ h,ρ[i]? =some h/\g<=b1 bl[i]? /\(g=b1 bl[i]? -> ∃ A n c,h= .slice A n c/\ 0 <=q/\q <n/\v= .pointer (some ⟨di A,q.toNat*sz,none⟩))
def qi {El:Nat->Type} (ρ:List Value) (bl:List (aF El)) (i g sz:Nat):List Int->List Value->Prop
 | [],vs=>vs= []
 | q::r,vs=>∃ u us,vs=u::us/\rT ρ bl i g sz q u/\qi ρ bl i g sz r us
section
variable (T:b3) (F:Nat->Prop) (w:World) (ρ:List Value) (bl:List (aF T.El))
mutual
def au:aI T.El->Value->Prop
 | .p u,v=>v=u
 | .b i o,v=>∃ g,ρ[i]? =some (.pointer (some ⟨g,0,none⟩))/\v= .pointer (some ⟨g,o,none⟩)
 | .x t d o,v=>∃ a q cs,v= .pointer (some ⟨a,q+o,none⟩)/\F a/\(T.ty t).rd F w cs d/\eT w ⟨a,q,none⟩ cs
 | .s t l,v=>(bZ (T.ty t)).rd F w [v] l
 | .q t l,v=>(bZ (T.ty t)).rd F w [v] l/\ ∃ A,v= .slice A l.length l.length
 | .r i g,v=>mf v/\ ∃ h,ρ[i]? =some h/\g<=b1 bl[i]? /\(g=b1 bl[i]? ->v=h)
 | .v i g lo hi,v=>mf v/\ ∃ h,ρ[i]? =some h/\g<=b1 bl[i]? /\(g=b1 bl[i]? -> ∃ A n c B,h= .slice A n c/\ 0 <=lo/\lo<=hi/\hi<=n/\v= .slice B (hi.toNat - lo.toNat) (c - lo.toNat)/\(lo= 0 ->B=A)/\(lo <hi->B=A.map (·.add (lo.toNat*iv T bl[i]?))))
 | .e i g k t j d o,v=>sL v/\ ∃ h,ρ[i]? =some h/\g<=b1 bl[i]? /\(g=b1 bl[i]? ->(∃ A n c,h= .slice A n c/\ 0 <=j/\j <n/\v= .pointer (some ⟨di A,j.toNat*iv T bl[i]? +o,none⟩))/\k<=gx bl[i]? /\(k=gx bl[i]? -> ∃ l,p0 bl[i]? =some ⟨t,l⟩/\idx l j=some d))
 | .w i g o,v=>sL v/\ ∃ h,ρ[i]? =some h/\g<=b1 bl[i]? /\(g=b1 bl[i]? -> ∃ A n c,h= .slice A n c/\ 0 <n/\v= .pointer (some ⟨di A,o,none⟩))
 | .m i,v=>∃ r,ρ[i]? =some (.map (some r))/\v= .map (some r)
 | .n bP vt d,v=>∃ r,v= .map (some r)/\F r/\t_ T F w bP vt r d
 | .f fn cs,v=>∃ vs,v= .func fn #[] ⟨vs⟩/\a3 cs vs
 | .h fn us,v=>∃ vs,v= .func fn ⟨vs⟩ #[]/\a3 us vs
 | .a l,v=>∃ vs,v= .agg ⟨vs⟩/\a3 l vs
 | .u l,v=>∃ vs,v= .tuple ⟨vs⟩/\a3 l vs
 | .i t y,v=>∃ u,v= .iface t u/\au y u
 | .pp i g sz ec,v=>∃ A c,v= .slice A ec.length c/\ec.length<=c/\(A=none->c= 0)/\(ec≠ []->A=some ⟨di A,f_ A,none⟩/\F (di A)/\ ∃ xs,qi ρ bl i g sz ec xs/\eT w ⟨di A,f_ A,none⟩ xs)
 | .v9 i g sz q,v=>∃ a o u,v= .pointer (some ⟨a,o,none⟩)/\F a/\rT ρ bl i g sz q u/\eT w ⟨a,o,none⟩ [u]
def a3:List (aI T.El)->List Value->Prop
 | [],vs=>vs= []
 | y::r,vs=>∃ u us,vs=u::us/\au y u/\a3 r us
end
end
structure lK (T:b3) (ρ ρ':List Value) (bl bl':List (aF T.El)):Prop where
 at_:∀ (i:Nat) (h:Value),ρ[i]? =some h-> ∃ h',ρ'[i]? =some h'/\(¬ mf h->h'=h)/\b1 bl[i]? <=b1 bl'[i]? /\(b1 bl'[i]? =b1 bl[i]? ->h'=h/\iv T bl'[i]? =iv T bl[i]? /\gx bl[i]? <=gx bl'[i]? /\(gx bl'[i]? =gx bl[i]? ->p0 bl'[i]? =p0 bl[i]?))
theorem lK.refl {T:b3} {ρ:List Value} {bl:List (aF T.El)}:lK T ρ ρ bl bl:=⟨fun i h hi=>⟨h,hi,fun _=>rfl,Nat.le_refl _,fun _=>⟨rfl,rfl,Nat.le_refl _,fun _=>rfl⟩⟩⟩
theorem lK.trans {T:b3} {ρ ρ' CF:List Value} {bl bl' r9:List (aF T.El)} (h:lK T ρ ρ' bl bl') (k:lK T ρ' CF bl' r9):lK T ρ CF bl r9:=⟨fun i v hi=>by
 obtain ⟨fh,I,aa,aq,a'⟩:=h.at_ i v hi
 obtain ⟨ayb,bf,bh,ca,c6⟩:=k.at_ i fh I
 refine ⟨ayb,bf,fun ao=>?_,Nat.le_trans aq ca,fun e=>?_⟩
 · have e1:=aa ao
   rw [bh (by rw [e1];exact ao),e1]
 · have e1:b1 bl'[i]? =b1 bl[i]? :=by omega
   have e2:b1 r9[i]? =b1 bl'[i]? :=by omega
   refine ⟨(c6 e2).1.trans (a' e1).1,(c6 e2).2.1.trans (a' e1).2.1,Nat.le_trans (a' e1).2.2.1 (c6 e2).2.2.1,fun e3=>?_⟩
   have cF:=(a' e1).2.2.1
   have dc:=(c6 e2).2.2.1
   exact ((c6 e2).2.2.2 (by omega)).trans ((a' e1).2.2.2 (by omega))⟩
section
variable {T:b3} {F F':Nat->Prop} {w w':World} {ρ ρ':List Value} {bl bl':List (aF T.El)}
theorem rT.later {i g sz:Nat} {q:Int} {v:Value} (ak:lK T ρ ρ' bl bl') (h:rT ρ bl i g sz q v):rT ρ' bl' i g sz q v:=by
 obtain ⟨aN,u,I,aa,aq⟩:=h
 obtain ⟨nv,bf,_,ca,c6⟩:=ak.at_ i _ I
 refine ⟨aN,nv,bf,Nat.le_trans aa ca,fun e=>?_⟩
 have e1:b1 bl'[i]? =b1 bl[i]? :=by omega
 rw [(c6 e1).1];exact aq (by omega)
theorem qi.imp {El akJ:Nat->Type} {bl:List (aF El)} {bl':List (aF akJ)} {i g i' g' sz:Nat} (hi:∀ q v,rT ρ bl i g sz q v->rT ρ' bl' i' g' sz q v):∀ {ec:List Int} {xs:List Value},qi ρ bl i g sz ec xs->qi ρ' bl' i' g' sz ec xs
 | [],_,h=>h
 | q::r,xs,h=>by
   obtain ⟨u,us,rfl,I,aa⟩:=h
   exact ⟨u,us,rfl,hi _ _ I,qi.imp hi aa⟩
theorem qi.at_ {i g sz:Nat}:∀ {ec:List Int} {xs:List Value} {m:Nat} {q:Int},qi ρ bl i g sz ec xs->ec[m]? =some q-> ∃ u,xs[m]? =some u/\rT ρ bl i g sz q u
 | [],_,m,q,_,hm=>by simp at hm
 | p::r,xs,0,q,h,hm=>by
   obtain ⟨u,us,rfl,I,aa⟩:=h
   simp only [List.getElem?_cons_zero,Option.some.injEq] at hm
   subst hm
   exact ⟨u,rfl,I⟩
 | p::r,xs,m+ 1,q,h,hm=>by
   obtain ⟨u,us,rfl,I,aa⟩:=h
   simpa using qi.at_ aa (by simpa using hm)
mutual
theorem au.later (az:∀ k,F k->F' k/\w'.heap[k]? =w.heap[k]?) (ak:lK T ρ ρ' bl bl'):∀ (y:aI T.El) {v:Value},au T F w ρ bl y v->au T F' w' ρ' bl' y v
 | .p _,_,h=>by simpa only [au] using h
 | .b i o,v,h=>by
   simp only [au] at h ⊢
   obtain ⟨g,I,aa⟩:=h
   obtain ⟨h',bf,bh,_⟩:=ak.at_ i _ I
   exact ⟨g,by rw [bf,bh (by simp [mf])],aa⟩
 | .x t d o,v,h=>by
   simp only [au] at h ⊢
   obtain ⟨a,q,cs,I,aa,aq,a'⟩:=h
   exact ⟨a,q,cs,I,(az a aa).1,(T.ty t).law az aq,a'.law (az a aa).2⟩
 | .s t l,v,h=>by
   simp only [au] at h ⊢
   exact (bZ (T.ty t)).law az h
 | .q t l,v,h=>by
   simp only [au] at h ⊢
   exact ⟨(bZ (T.ty t)).law az h.1,h.2⟩
 | .r i g,v,h=>by
   simp only [au] at h ⊢
   obtain ⟨aN,u,I,aa,aq⟩:=h
   obtain ⟨nv,bf,_,ca,c6⟩:=ak.at_ i _ I
   refine ⟨aN,nv,bf,Nat.le_trans aa ca,fun e=>?_⟩
   have e1:b1 bl'[i]? =b1 bl[i]? :=by omega
   rw [(c6 e1).1];exact aq (by omega)
 | .v i g lo hi,v,h=>by
   simp only [au] at h ⊢
   obtain ⟨aN,u,I,aa,aq⟩:=h
   obtain ⟨nv,bf,_,ca,c6⟩:=ak.at_ i _ I
   refine ⟨aN,nv,bf,Nat.le_trans aa ca,fun e=>?_⟩
   have e1:b1 bl'[i]? =b1 bl[i]? :=by omega
   rw [(c6 e1).1,(c6 e1).2.1];exact aq (by omega)
 | .e i g k t j d o,v,h=>by
   simp only [au] at h ⊢
   obtain ⟨aN,u,I,aa,aq⟩:=h
   obtain ⟨nv,bf,_,ca,c6⟩:=ak.at_ i _ I
   refine ⟨aN,nv,bf,Nat.le_trans aa ca,fun e=>?_⟩
   have e1:b1 bl'[i]? =b1 bl[i]? :=by omega
   obtain ⟨bk,bH,bU,fp⟩:=c6 e1
   obtain ⟨b9,cJ,hg⟩:=aq (by omega)
   rw [bk,bH]
   refine ⟨b9,Nat.le_trans cJ bU,fun e=>?_⟩
   rw [fp (by omega)];exact hg (by omega)
 | .w i g o,v,h=>by
   simp only [au] at h ⊢
   obtain ⟨aN,u,I,aa,aq⟩:=h
   obtain ⟨nv,bf,_,ca,c6⟩:=ak.at_ i _ I
   refine ⟨aN,nv,bf,Nat.le_trans aa ca,fun e=>?_⟩
   have e1:b1 bl'[i]? =b1 bl[i]? :=by omega
   rw [(c6 e1).1];exact aq (by omega)
 | .m i,v,h=>by
   simp only [au] at h ⊢
   obtain ⟨g,I,aa⟩:=h
   obtain ⟨h',bf,bh,_⟩:=ak.at_ i _ I
   exact ⟨g,by rw [bf,bh (by simp [mf])],aa⟩
 | .n bP vt d,v,h=>by
   simp only [au] at h ⊢
   obtain ⟨r,I,aa,aq⟩:=h
   exact ⟨r,I,(az r aa).1,aq.law az (az r aa).2⟩
 | .f fn cs,v,h=>by
   simp only [au] at h ⊢
   obtain ⟨vs,I,aa⟩:=h
   exact ⟨vs,I,a3.later az ak cs aa⟩
 | .h fn us,v,h=>by
   simp only [au] at h ⊢
   obtain ⟨vs,I,aa⟩:=h
   exact ⟨vs,I,a3.later az ak us aa⟩
 | .a l,v,h=>by
   simp only [au] at h ⊢
   obtain ⟨vs,I,aa⟩:=h
   exact ⟨vs,I,a3.later az ak l aa⟩
 | .u l,v,h=>by
   simp only [au] at h ⊢
   obtain ⟨vs,I,aa⟩:=h
   exact ⟨vs,I,a3.later az ak l aa⟩
 | .i t y,v,h=>by
   simp only [au] at h ⊢
   obtain ⟨u,I,aa⟩:=h
   exact ⟨u,I,au.later az ak y aa⟩
 | .pp i g sz ec,v,h=>by
   simp only [au] at h ⊢
   obtain ⟨A,c,e1,e2,e3,e4⟩:=h
   refine ⟨A,c,e1,e2,e3,fun aA=>?_⟩
   obtain ⟨bf,bh,xs,ca,c6⟩:=e4 aA
   exact ⟨bf,(az _ bh).1,xs,ca.imp fun q v=>rT.later ak,c6.law (az _ bh).2⟩
 | .v9 i g sz q,v,h=>by
   simp only [au] at h ⊢
   obtain ⟨a,o,u,e1,e2,e3,e4⟩:=h
   exact ⟨a,o,u,e1,(az _ e2).1,e3.later ak,e4.law (az _ e2).2⟩
theorem a3.later (az:∀ k,F k->F' k/\w'.heap[k]? =w.heap[k]?) (ak:lK T ρ ρ' bl bl'):∀ (l:List (aI T.El)) {vs:List Value},a3 T F w ρ bl l vs->a3 T F' w' ρ' bl' l vs
 | [],_,h=>by simpa only [a3] using h
 | y::r,vs,h=>by
   simp only [a3] at h ⊢
   obtain ⟨u,us,I,aa,aq⟩:=h
   exact ⟨u,us,I,au.later az ak y aa,a3.later az ak r aq⟩
end
theorem a3.len:∀ {l:List (aI T.El)} {vs:List Value},a3 T F w ρ bl l vs->vs.length=l.length
 | [],_,h=>by simp only [a3] at h;subst h;rfl
 | y::r,vs,h=>by
   simp only [a3] at h
   obtain ⟨u,us,rfl,_,aq⟩:=h
   simp [a3.len aq]
theorem a3.at_:∀ {l:List (aI T.El)} {vs:List Value} {i:Nat} {y:aI T.El},a3 T F w ρ bl l vs->l[i]? =some y-> ∃ v,vs[i]? =some v/\au T F w ρ bl y v
 | [],_,i,y,_,hi=>by simp at hi
 | z::r,vs,0,y,h,hi=>by
   simp only [a3] at h
   obtain ⟨u,us,rfl,aa,_⟩:=h
   simp only [List.getElem?_cons_zero,Option.some.injEq] at hi
   subst hi
   exact ⟨u,rfl,aa⟩
 | z::r,vs,i+ 1,y,h,hi=>by
   simp only [a3] at h
   obtain ⟨u,us,rfl,_,aq⟩:=h
   simpa using a3.at_ aq (by simpa using hi)
theorem a3.bR:∀ {l l':List (aI T.El)} {vs Ch:List Value},a3 T F w ρ bl l vs->a3 T F w ρ bl l' Ch->a3 T F w ρ bl (l++l') (vs++Ch)
 | [],_,_,_,h,h'=>by simp only [a3] at h;subst h;exact h'
 | y::r,l',vs,Ch,h,h'=>by
   simp only [a3] at h
   obtain ⟨u,us,rfl,aa,aq⟩:=h
   simp only [List.cons_append,a3]
   exact ⟨u,us++Ch,rfl,aa,a3.bR aq h'⟩
theorem a3.drop:∀ {l:List (aI T.El)} {vs:List Value} (n:Nat),a3 T F w ρ bl l vs->a3 T F w ρ bl (l.drop n) (vs.drop n)
 | l,vs,0,h=>by simpa using h
 | [],vs,n+ 1,h=>by simp only [a3] at h;subst h;simp [a3]
 | y::r,vs,n+ 1,h=>by
   simp only [a3] at h
   obtain ⟨u,us,rfl,aa,aq⟩:=h
   simpa using a3.drop n aq
theorem a3.take:∀ {l:List (aI T.El)} {vs:List Value} (n:Nat),a3 T F w ρ bl l vs->a3 T F w ρ bl (l.take n) (vs.take n)
 | l,vs,0,h=>by simp [a3]
 | [],vs,n+ 1,h=>by simp only [a3] at h;subst h;simp [a3]
 | y::r,vs,n+ 1,h=>by
   simp only [a3] at h
   obtain ⟨u,us,rfl,aa,aq⟩:=h
   simp only [List.take_succ_cons,a3]
   exact ⟨u,us.take n,rfl,aa,a3.take n aq⟩
end
end bz
