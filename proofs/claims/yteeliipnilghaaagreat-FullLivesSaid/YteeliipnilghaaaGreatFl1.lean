/- Part 1 of the proof that is ended in the last text: small logic, what the functions compute, walks, plain laws. -/
import Derived.WalkKit
import Derived.Deep.LoopGhost
import Derived.Deep.Quiet
import Derived.Maps.AppendAt
import Derived.KernelRfl
import Derived.Deep.RegionHeld3
import Derived.Laws.StructEq
import Derived.Carry
import Derived.ChangeSame
import Derived.OpenShut
import Derived.Deep.Slices
import Derived.Deep.Fields
import Derived.ChangeMaps5
import Derived.Lib.LaidTab
import Derived.OrdersHeld
import Derived.MapKept
import Derived.Laws.OwnMore
import Derived.Laws.IdiomStrings
import Derived.RangeFuncRecord
import Derived.RangeFuncSeq
import Derived.RangeFuncIn
import Derived.RangeFuncLeaves
import Derived.OrdersIn
import Derived.TacticsIn
import Derived.Deep.OwnRows
import Derived.Lib.AppendZeros
import Derived.ArgAppend
import Derived.Test.YteeliipnilghaaaGreatChecked
namespace J
def aA (n:Int):Int:=(n+ 9223372036854775808) % 18446744073709551616 - 9223372036854775808
def DF (n:Int):Int:=n % 18446744073709551616
def TL (a b:Int):Int:=aA ((BitVec.ofInt 64 a ||| BitVec.ofInt 64 b).toNat:Int)
def OZ (a b:Int):Int:=aA ((BitVec.ofInt 64 a &&& BitVec.ofInt 64 b).toNat:Int)
def uA (a:Int) (n:Nat):Int:=a / 2 ^ n
def BT (n:Int):UInt8:=UInt8.ofNat (n % 256).toNat
def idx {α:Type} (l:List α) (i:Int):Option α:=if 0 <=i then l[i.toNat]? else none
def At (b:Bool):Option Unit:=if b then some () else none
def bK {α:Type} (bytes:Nat) (l m:List α):Option (List α):=if (l.length+m.length)*bytes<= 140737488355328 then some (l++m) else none
def bytesOf (s:List UInt8):Option (List UInt8):=if s.length<= 140737488355328 then some s else none
def Gn {α:Type} (z:α) (bytes:Nat) (n:Int):Option (List α):=if 0 <=n/\bytes*n.toNat<= 140737488355328 then some (List.replicate n.toNat z) else none
def EH {α:Type} (z:α) (bytes:Nat) (n:Int):Option (List α):=if 0 <n/\bytes*n.toNat<= 140737488355328 then some (List.replicate n.toNat z) else none
def cut {α:Type} (l:List α) (i j:Int):Option (List α):=if 0 <=i/\i<=j/\j<=l.length then some ((l.take j.toNat).drop i.toNat) else none
theorem Pd {α:Type} {b:Bool} {x y:Option α} {r:α} (ag:b=true) (h:cond b x y=some r):x=some r:=by subst ag;exact h
theorem Pc {α:Type} {b:Bool} {x y:Option α} {r:α} (ag:b=false) (h:cond b x y=some r):y=some r:=by subst ag;exact h
theorem fx {α β:Type} {o:Option α} {f:α->Option β} {r:β} (h:o.bind f=some r):∃ x,o=some x/\f x=some r:=by
 cases o with
 | none=>cases h
 | some x=>exact ⟨x,rfl,h⟩
theorem km {α:Type} {l:List α} {i:Int} {d:α} (h:idx l i=some d):0 <=i/\i.toNat <l.length/\l[i.toNat]? =some d:=by
 unfold idx at h
 split at h
 · rename_i aQ
   exact ⟨aQ,(List.getElem?_eq_some_iff.1 h).1,h⟩
 · cases h
theorem I7 {α:Type} {bytes:Nat} {l m r:List α} (h:bK bytes l m=some r):(l.length+m.length)*bytes<= 140737488355328 /\r=l++m:=by
 unfold bK at h
 split at h
 · rename_i aQ;exact ⟨aQ,by simpa using h.symm⟩
 · cases h
theorem aw8 {α:Type} {z:α} {bytes:Nat} {n:Int} {r:List α} (h:Gn z bytes n=some r):0 <=n/\bytes*n.toNat<= 140737488355328 /\r=List.replicate n.toNat z:=by
 unfold Gn at h
 split at h
 · rename_i aQ;exact ⟨aQ.1,aQ.2,by simpa using h.symm⟩
 · cases h
theorem an3 {α:Type} {z:α} {bytes:Nat} {n:Int} {r:List α} (h:EH z bytes n=some r):0 <n/\bytes*n.toNat<= 140737488355328 /\r=List.replicate n.toNat z:=by
 unfold EH at h
 split at h
 · rename_i aQ;exact ⟨aQ.1,aQ.2,by simpa using h.symm⟩
 · cases h
theorem Tx {b:Bool} {u:Unit} (h:At b=some u):b=true:=by
 unfold At at h
 split at h
 · assumption
 · cases h
theorem an5 (n:Int):((BT n).toNat:Int)=n % 256 :=by
 unfold BT
 have aQ:0 <=n % 256 :=Int.emod_nonneg _ (by omega)
 have I:n % 256 < 256 :=Int.emod_lt_of_pos _ (by omega)
 simp only [UInt8.toNat_ofNat']
 omega
end J
namespace J
def join {cI α:Type} (k:cI) (b:cI->Option α):Option α:=b k
end J
namespace J
section
variable {cI β:Type} [DecidableEq cI]
def dI:List (cI × β)->cI->Option β
 | [],_=>none
 | p::r,k=>if p.1 =k then some p.2 else dI r k
def hg:List (cI × β)->cI->β->List (cI × β)
 | [],k,v=>[(k,v)]
 | p::r,k,v=>if p.1 =k then (k,v)::r else p::hg r k v
def nG:List (cI × β)->cI->Option Nat
 | [],_=>none
 | p::r,k=>if p.1 =k then some 0 else (nG r k).map (· + 1)
end
end J
namespace J
inductive Way (ρ α:Type)
 | go (a:α)
 | out (r:ρ)
def cd {ρ α:Type} (x:Option (Way ρ α)) (k:α->Option ρ):Option ρ:=match x with
 | none=>none
 | some (.go a)=>k a
 | some (.out r)=>some r
def cT {ρ α β:Type} (x:Option (Way ρ α)) (k:α->Option (Way ρ β)):Option (Way ρ β):=match x with
 | none=>none
 | some (.go a)=>k a
 | some (.out r)=>some (.out r)
def Y5 {ρ α:Type} (k:α->Option ρ):Way ρ α->Option ρ
 | .go a=>k a
 | .out r=>some r
theorem aBF {ρ α:Type} {x:Option (Way ρ α)} {k:α->Option ρ} {r:ρ} (h:cd x k=some r):∃ y,x=some y/\Y5 k y=some r:=by
 cases x with
 | none=>cases h
 | some y=>cases y <;> exact ⟨_,rfl,h⟩
@[simp] theorem oW {ρ α:Type} (a:α) (k:α->Option ρ):cd (some (.go a)) k=k a:=rfl
@[simp] theorem afI {ρ α:Type} (r:ρ) (k:α->Option ρ):cd (some (.out r)) k=some r:=rfl
@[simp] theorem mV {ρ α β:Type} (a:α) (k:α->Option (Way ρ β)):cT (some (.go a)) k=k a:=rfl
@[simp] theorem aHr {ρ α β:Type} (r:ρ) (k:α->Option (Way ρ β)):cT (some (.out r)) k=some (.out r):=rfl
end J
namespace J
end J
namespace au
open Go Go.RowKit
def ep:List (Nat × Value)->Nat->Option Value
 | [],_=>none
 | p::r,t=>match Nat.beq p.1 t with
   | true=>some p.2
   | false=>ep r t
structure cE where
 n:Nat
 ds:List Deferred
instance:Coe cE Nat:=⟨cE.n⟩
structure Fr (n:cE) (l:List (Nat × Value)) (a:Act):Prop where
 size:a.tmps.size=n.n
 defers:a.defers=n.ds
 get:∀ t v,ep l t=some v->a.tmps.getD t undef=v
theorem Fr.g {n:cE} {l:List (Nat × Value)} {a:Act} {t:Nat} {v:Value} (af:Fr n l a) (h:ep l t=some v):a.eval (.tmp t)=v:=af.get t v h
theorem Fr.put {n:cE} {d:Nat} {l:List (Nat × Value)} {a:Act} {v:Value} (af:Fr n l a) (aM:Nat.blt d n=true):Fr n ((d,v)::l) (a.put (some d) v):=by
 have bE:d <n:=Nat.le_of_ble_eq_true aM
 refine ⟨by simpa [Act.put] using af.size,af.defers,fun t u h=>?_⟩
 have ao:=af.size
 simp only [ep] at h
 cases ag:Nat.beq d t with
 | true=>
   rw [ag] at h
   simp only [Option.some.injEq] at h
   have e:d=t:=Nat.eq_of_beq_eq_true ag
   subst e;subst h
   simp [Act.put,ao,bE]
 | false=>
   rw [ag] at h
   have e:d≠t:=by intro e;subst e;simp at ag
   have:=af.get t u h
   simp only [Act.put,Array.getD_eq_getD_getElem?] at this ⊢
   rw [Array.getElem?_setIfInBounds,if_neg e]
   exact this
def Hv (l:List (Nat × Value)):List (Nat × Value)->Prop
 | []=>True
 | p::r=>ep l p.1 =some p.2 /\Hv l r
theorem awL {l l':List (Nat × Value)} (h:Hv l l'):∀ t v,ep l' t=some v->ep l t=some v:=by
 induction l' with
 | nil=>intro t v aO;simp [ep] at aO
 | cons p r bq=>
   intro t v aO
   simp only [ep] at aO
   cases ag:Nat.beq p.1 t with
   | true=>
     rw [ag] at aO
     have e:p.1 =t:=Nat.eq_of_beq_eq_true ag
     simp only [Option.some.injEq] at aO
     rw [<-e,<-aO];exact h.1
   | false=>rw [ag] at aO;exact bq h.2 t v aO
theorem Fr.sub {n:cE} {l l':List (Nat × Value)} {a:Act} (af:Fr n l a) (h:Hv l l'):Fr n l' a:=
 ⟨af.size,af.defers,fun t v aO=>af.get t v (awL h t v aO)⟩
def q3:Nat->List Value->List (Nat × Value)
 | _,[]=>[]
 | k,v::r=>(k,v)::q3 (k+ 1) r
theorem awK (vs:List Value):∀ k t v,ep (q3 k vs) t=some v->k<=t/\vs[t - k]? =some v:=by
 induction vs with
 | nil=>intro k t v h;simp [q3,ep] at h
 | cons u r bq=>
   intro k t v h
   simp only [q3,ep] at h
   cases ag:Nat.beq k t with
   | true=>
     rw [ag] at h
     have e:k=t:=Nat.eq_of_beq_eq_true ag
     subst e
     simpa using h
   | false=>
     rw [ag] at h
     have e:k≠t:=by intro e;subst e;simp at ag
     obtain ⟨I,aa⟩:=bq (k+ 1) t v h
     refine ⟨by omega,?_⟩
     have:t - k=(t - (k+ 1))+ 1 :=by omega
     rw [this];simpa using aa
theorem Fr.init (vs:List Value) (n:Nat) (h:Nat.ble vs.length n=true):Fr ⟨n,[]⟩ (q3 0 vs) { tmps:=vs.toArray++Array.replicate (n - vs.toArray.size) undef,defers:=[] }:=by
 have hle:vs.length<=n:=by simpa using h
 refine ⟨by simp;omega,rfl,fun t v aO=>?_⟩
 obtain ⟨_,aa⟩:=awK vs 0 t v aO
 have bE:t <vs.length:=by
  rcases Nat.lt_or_ge t vs.length with h | h
  · exact h
  · rw [List.getElem?_eq_none (by simpa using h)] at aa;cases aa
 have aw:vs[t]? =some v:=by simpa using aa
 rw [Array.getD_eq_getD_getElem?]
 rw [List.getElem?_eq_getElem bE,Option.some.injEq] at aw
 simp [Array.getElem?_append,bE,aw]
theorem enter {P:Program} {f:FuncId} {fn:Func} {c:Code} {vs:List Value} {w:World} {R:Ending->World->Prop} {n:Nat}
 (af:P.funcs[f]? =some fn) (ag:fn.body=some c) (aJ:fn.ntmps=n) (aq:Nat.ble vs.length n=true)
 (h:∀ a,Fr ⟨n,[]⟩ (q3 0 vs) a->c.wp P (bodyPost P fn R) a w):Calls P f vs.toArray w R:=by
 refine calls_of_wp af ag ?_
 rw [aJ]
 exact h _ (Fr.init vs n aq)
structure bp (M:List Nat) (w w':World):Prop where
 os:w'.os=w.os
 tape:w'.tape=w.tape
 output:w'.output=w.output
 size:w.heap.size<=w'.heap.size
 block:∀ k,k <w.heap.size->k ∉ M->w'.heap[k]? =w.heap[k]?
theorem bp.refl (M:List Nat) (w:World):bp M w w:=⟨rfl,rfl,rfl,Nat.le_refl _,fun _ _ _=>rfl⟩
theorem bp.trans {M iR:List Nat} {a b c:World} (h:bp M a b) (k:bp iR b c) (hm:∀ x ∈ iR,x ∈ M\/a.heap.size<=x):bp M a c:=
 ⟨k.os.trans h.os,k.tape.trans h.tape,k.output.trans h.output,Nat.le_trans h.size k.size,fun i hi aJ=>
   (k.block i (Nat.lt_of_lt_of_le hi h.size) (fun ad=>by rcases hm i ad with e | e;exact aJ e;omega)).trans (h.block i hi aJ)⟩
theorem bp.drew (M:List Nat) (w:World):bp M w w.drew:=⟨rfl,rfl,rfl,Nat.le_refl _,fun _ _ _=>rfl⟩
theorem bp.alloc (M:List Nat) (w:World) (o:Obj):bp M w (w.alloc o):=⟨rfl,rfl,rfl,by simp,fun k aj _=>Below.heap_alloc _ _ _ aj⟩
theorem bp.set (w:World) (a:Addr) (u:Value):bp [a.block] w (w.setCell a u):=
 ⟨rfl,rfl,rfl,by simp [World.setCell],fun k _ aJ=>Below.heap_setCell _ _ _ _ (by simpa using aJ)⟩
theorem bp.mono {M iR:List Nat} {a b:World} (h:bp M a b) (hm:∀ x ∈ M,x ∈ iR):bp iR a b:=⟨h.os,h.tape,h.output,h.size,fun k aj aJ=>h.block k aj (fun ad=>aJ (hm k ad))⟩
theorem bp.grown {w w':World} {row:Option Nat} (h:w.grownBy w' row):bp row.toList w w':=
 ⟨h.os,h.tape,h.output,h.size,fun k aj aJ=>h.block k aj (fun e=>aJ (by rw [<-e];simp))⟩
theorem bp.below {w w':World} (h:bp [] w w'):Below w.heap.size w w':=⟨h.os,h.tape,h.output,h.size,fun k aj=>h.block k aj (by simp)⟩
structure a7 where
 bA:List Nat
 ok:World->Prop
 law:∀ w w',(∀ k ∈ bA,w'.heap[k]? =w.heap[k]?)->ok w->ok w'
structure bB where
 ok:List Nat->World->Prop
 law:∀ M iR w w',bp M w w'->(∀ k ∈ iR,k ∈ M\/w.heap.size<=k)->ok M w->ok iR w'
def bW (E:List a7):List Nat:=E.flatMap a7.bA
structure bs (W:World) (M0 X:List Nat) (w:World) (E:List a7) (D:List bB):Prop where
 bV:bp M0 W w
 hf:∀ k ∈ X,k <W.heap.size/\k ∉ M0
 lt:∀ k ∈ bW E,k <w.heap.size/\(k ∈ M0\/W.heap.size<=k)
 ok:∀ x ∈ E,x.ok w
 bx:(bW E).Nodup
 rd:∀ y ∈ D,y.ok (X++bW E) w
section
variable {W w w':World} {M0 X:List Nat} {E:List a7} {D:List bB}
theorem bs.start (M0 X:List Nat) (w:World) (E:List a7) (D:List bB) (Rh:∀ k ∈ X,k <w.heap.size/\k ∉ M0) (bE:∀ k ∈ bW E,k <w.heap.size/\k ∈ M0) (lH:∀ x ∈ E,x.ok w) (rh:(bW E).Nodup) (fY:∀ y ∈ D,y.ok (X++bW E) w) :
 bs w M0 X w E D:=⟨bp.refl _ _,Rh,fun k aj=>⟨(bE k aj).1,.inl (bE k aj).2⟩,lH,rh,fY⟩
theorem bs.eT (h:bs W M0 X w E D) (ah:bp [] w w'):bs W M0 X w' E D:=
 ⟨h.bV.trans ah (by simp),h.hf,fun k aj=>⟨Nat.lt_of_lt_of_le (h.lt k aj).1 ah.size,(h.lt k aj).2⟩,
  fun x ad=>x.law w w' (fun k aj=>ah.block k (h.lt k (List.mem_flatMap.2 ⟨x,ad,aj⟩)).1 (by simp)) (h.ok x ad),h.bx,
  fun y hy=>y.law (X++bW E) _ w w' (ah.mono (by simp)) (fun k aj=>.inl aj) (h.rd y hy)⟩
theorem bs.drew (h:bs W M0 X w E D):bs W M0 X w.drew E D:=h.eT (bp.drew _ _)
theorem bs.push (h:bs W M0 X w E D) (x:a7) (ah:bp [] w w') (ad:x.ok w') (af:∀ k ∈ x.bA,w.heap.size<=k/\k <w'.heap.size) (aJ:x.bA.Nodup):bs W M0 X w' (x::E) D:=by
 have I:=h.eT ah
 refine ⟨I.bV,h.hf,fun k aj=>?_,fun y hy=>?_,?_,fun y hy=>?_⟩
 · rcases List.mem_append.1 (by simpa [bW] using aj:k ∈ x.bA++bW E) with e | e
   · exact ⟨(af k e).2,.inr (Nat.le_trans h.bV.size (af k e).1)⟩
   · exact I.lt k e
 · rcases List.mem_cons.1 hy with rfl | e
   · exact ad
   · exact I.ok y e
 · have:bW (x::E)=x.bA++bW E:=by simp [bW]
   rw [this,List.nodup_append]
   refine ⟨aJ,h.bx,fun a aK b ag e=>?_⟩
   subst e
   have:=(af a aK).1
   have:=(h.lt a ag).1
   omega
 · refine y.law (X++bW E) _ w w' (ah.mono (by simp)) (fun k aj=>?_) (h.rd y hy)
   have cN:k ∈ X++(x.bA++bW E):=by simpa [bW] using aj
   simp only [List.mem_append] at cN
   rcases cN with e | e | e
   · exact .inl (by simp [e])
   · exact .inr (af k e).1
   · exact .inl (by simp [e])
theorem bs.drop (h:bs W M0 X w E D) {kH:List a7} (ao:List.Sublist kH E):bs W M0 X w kH D:=by
 have af:List.Sublist (bW kH) (bW E):=by
  unfold bW
  clear h
  induction ao with
  | slnil=>simp
  | cons a _ bq=>simpa using bq.trans (List.sublist_append_right _ _)
  | cons_cons a _ bq=>simpa using List.Sublist.append_left bq a.bA
 exact ⟨h.bV,h.hf,fun k aj=>h.lt k (af.subset aj),fun x ad=>h.ok x (ao.subset ad),h.bx.sublist af,
  fun y hy=>y.law (X++bW E) _ w w (bp.refl _ _) (fun k aj=>.inl (by rcases List.mem_append.1 aj with e | e;exact List.mem_append.2 (.inl e);exact List.mem_append.2 (.inr (af.subset e)))) (h.rd y hy)⟩
theorem bs.uH (h:bs W M0 X w E D) {A B:List a7} {x gl:a7} (a3:E=A++x::B) (ah:bp x.bA w w') (ad:gl.ok w') (aJ:gl.bA.Nodup)
 (af:∀ k ∈ gl.bA,k ∈ x.bA\/(w.heap.size<=k/\k <w'.heap.size)):bs W M0 X w' (A++gl::B) D:=by
 subst a3
 have ak:bW (A++x::B)=bW A++(x.bA++bW B):=by simp [bW]
 have al:bW (A++gl::B)=bW A++(gl.bA++bW B):=by simp [bW]
 have rh:=h.bx
 rw [ak,List.nodup_append,List.nodup_append] at rh
 obtain ⟨apa,⟨Zp,apb,Zq⟩,Pk⟩:=rh
 have rr:∀ k ∈ x.bA,k <w.heap.size/\(k ∈ M0\/W.heap.size<=k):=fun k aj=>h.lt k (by rw [ak];simp [aj])
 refine ⟨h.bV.trans ah (fun k aj=>(rr k aj).2),h.hf,fun k aj=>?_,fun y hy=>?_,?_,fun y hy=>?_⟩
 · rw [al] at aj
   simp only [List.mem_append] at aj
   rcases aj with aj | aj | aj
   · have:=h.lt k (by rw [ak];simp [aj]);exact ⟨Nat.lt_of_lt_of_le this.1 ah.size,this.2⟩
   · rcases af k aj with e | e
     · exact ⟨Nat.lt_of_lt_of_le (rr k e).1 ah.size,(rr k e).2⟩
     · exact ⟨e.2,.inr (Nat.le_trans h.bV.size e.1)⟩
   · have:=h.lt k (by rw [ak];simp [aj]);exact ⟨Nat.lt_of_lt_of_le this.1 ah.size,this.2⟩
 · have acK:∀ z,z ∈ A\/z ∈ B->z.ok w':=fun z ai=>by
    have KF:z ∈ A++x::B:=by rcases ai with e | e <;> simp [e]
    refine z.law w w' (fun k aj=>ah.block k (h.lt k (List.mem_flatMap.2 ⟨z,KF,aj⟩)).1 (fun Kv=>?_)) (h.ok z KF)
    rcases ai with e | e
    · exact Pk k (List.mem_flatMap.2 ⟨z,e,aj⟩) k (by simp [Kv]) rfl
    · exact Zq k Kv k (List.mem_flatMap.2 ⟨z,e,aj⟩) rfl
   simp only [List.mem_append,List.mem_cons] at hy
   rcases hy with hy | rfl | hy
   · exact acK y (.inl hy)
   · exact ad
   · exact acK y (.inr hy)
 · rw [al,List.nodup_append,List.nodup_append]
   have b3:∀ k ∈ gl.bA,∀ b,(b ∈ bW A\/b ∈ bW B)->k≠b:=fun k aj b ag e=>by
    subst e
    rcases af k aj with e | e
    · rcases ag with ag | ag
      · exact Pk k ag k (by simp [e]) rfl
      · exact Zq k e k ag rfl
    · have:=(h.lt k (by rw [ak];rcases ag with ag | ag <;> simp [ag])).1
      omega
   exact ⟨apa,⟨aJ,apb,fun a aK b ag=>b3 a aK b (.inr ag)⟩,fun a aK b ag=>by
    rcases List.mem_append.1 ag with ag | ag
    · exact fun e=>b3 b ag a (.inl aK) e.symm
    · exact Pk a aK b (by simp [ag])⟩
 · refine y.law (X++bW (A++x::B)) _ w w' (ah.mono (fun k aj=>by rw [ak];simp [aj])) (fun k aj=>?_) (h.rd y hy)
   rw [al] at aj
   simp only [List.mem_append] at aj
   rcases aj with aj | aj | aj | aj
   · exact .inl (by simp [aj])
   · exact .inl (by rw [ak];simp [aj])
   · rcases af k aj with e | e
     · exact .inl (by rw [ak];simp [e])
     · exact .inr e.1
   · exact .inl (by rw [ak];simp [aj])
theorem bs.more (h:bs W M0 X w E D) {y:bB} (hy:y.ok (X++bW E) w):bs W M0 X w E (y::D):=
 ⟨h.bV,h.hf,h.lt,h.ok,h.bx,fun z ai=>by rcases List.mem_cons.1 ai with rfl | e;exact hy;exact h.rd z e⟩
theorem bs.less (h:bs W M0 X w E D) {fV:List bB} (ao:∀ y ∈ fV,y ∈ D):bs W M0 X w E fV:=⟨h.bV,h.hf,h.lt,h.ok,h.bx,fun y hy=>h.rd y (ao y hy)⟩
theorem bs.e (h:bs W M0 X w E D) (i:Nat) {x:a7} (hi:E[i]? =some x):x.ok w:=h.ok x (List.mem_of_getElem? hi)
theorem bs.d (h:bs W M0 X w E D) (i:Nat) {y:bB} (hi:D[i]? =some y):y.ok (X++bW E) w:=h.rd y (List.mem_of_getElem? hi)
theorem bB.less {y:bB} {M iR:List Nat} (h:y.ok M w) (hm:∀ k ∈ iR,k ∈ M):y.ok iR w:=y.law M iR w w (bp.refl _ _) (fun k aj=>.inl (hm k aj)) h
theorem bs.MB (h:bs W M0 X w E D) (i:Nat) {x gl:a7} (hi:E[i]? =some x) (ah:bp x.bA w w') (ad:gl.ok w') (aJ:gl.bA.Nodup)
 (af:∀ k ∈ gl.bA,k ∈ x.bA\/(w.heap.size<=k/\k <w'.heap.size)):bs W M0 X w' (E.set i gl) D:=by
 obtain ⟨aq,rfl⟩:=List.getElem?_eq_some_iff.1 hi
 have a3:E=E.take i++E[i]::E.drop (i+ 1):=by simp
 have:=h.uH a3 ah ad aJ af
 rwa [List.set_eq_take_append_cons_drop,if_pos aq]
end
end au
namespace au
open Go Go.RowKit J
abbrev cl (l:List UInt8):Value:=.string ⟨⟨l⟩⟩
structure cY (α:Type) where
 size:Nat
 rd:(Nat->Prop)->World->List Value->α->Prop
 len:∀ {F w cs d},rd F w cs d->cs.length=size
 one:∀ {F w cs d},rd F w cs d-> ∀ v ∈ cs,v.oneCell'=true
 law:∀ {F F' w w' cs d},(∀ k,F k->F' k/\w'.heap[k]? =w.heap[k]?)->rd F w cs d->rd F' w' cs d
def hI (M:List Nat) (w:World):Nat->Prop:=fun k=>k ∉ M/\k <w.heap.size
def bB.of {α:Type} (T:cY α) (cs:List Value) (d:α):bB where
 ok M w:=T.rd (hI M w) w cs d
 law M iR w w' ah hm h:=T.law (fun k aj=>⟨⟨fun ad=>by rcases hm k ad with e | e;exact aj.1 e;exact absurd aj.2 (by omega),Nat.lt_of_lt_of_le aj.2 ah.size⟩,ah.block k aj.2 aj.1⟩) h
def e3 (k:IntKind):cY Int where
 size:=1
 rd _ _ cs d:=cs= [.int k d]
 len h:=by subst h;rfl
 one h v ah:=by subst h;simp at ah;subst ah;rfl
 law _ h:=h
def MC:cY UInt8 where
 size:=1
 rd _ _ cs d:=cs= [.int .u8 (d.toNat:Int)]
 len h:=by subst h;rfl
 one h v ah:=by subst h;simp at ah;subst ah;rfl
 law _ h:=h
def aB4:cY Bool where
 size:=1
 rd _ _ cs d:=cs= [.bool d]
 len h:=by subst h;rfl
 one h v ah:=by subst h;simp at ah;subst ah;rfl
 law _ h:=h
def iD:cY (List UInt8) where
 size:=1
 rd _ _ cs d:=cs= [cl d]
 len h:=by subst h;rfl
 one h v ah:=by subst h;simp at ah;subst ah;rfl
 law _ h:=h
section
variable {α:Type} (T:cY α)
def dS (F:Nat->Prop) (w:World):List Value->List α->Prop
 | xs,[]=>xs= []
 | xs,d::r=>∃ cs ys,xs=cs++ys/\T.rd F w cs d/\dS F w ys r
theorem uz {F:Nat->Prop} {w:World}:∀ {l:List α} {xs:List Value},dS T F w xs l->xs.length=l.length*T.size
 | [],xs,h=>by simp only [dS] at h;subst h;simp
 | d::r,xs,h=>by
   obtain ⟨cs,ys,rfl,I,aa⟩:=h
   rw [List.length_append,T.len I,uz aa,List.length_cons,Nat.add_mul];omega
theorem Dj {F:Nat->Prop} {w:World}:∀ {l:List α} {xs:List Value},dS T F w xs l-> ∀ v ∈ xs,v.oneCell'=true
 | [],xs,h=>by simp only [dS] at h;subst h;simp
 | d::r,xs,h=>by
   obtain ⟨cs,ys,rfl,I,aa⟩:=h
   intro v ah
   rcases List.mem_append.1 ah with e | e
   · exact T.one I v e
   · exact Dj aa v e
theorem mR {F F':Nat->Prop} {w w':World} (aD:∀ k,F k->F' k/\w'.heap[k]? =w.heap[k]?):∀ {l:List α} {xs:List Value},dS T F w xs l->dS T F' w' xs l
 | [],xs,h=>h
 | d::r,xs,h=>by
   obtain ⟨cs,ys,rfl,I,aa⟩:=h
   exact ⟨cs,ys,rfl,T.law aD I,mR aD aa⟩
theorem aeZ {F:Nat->Prop} {w:World} {d:α} {cs:List Value} (aM:T.rd F w cs d):∀ {l:List α} {xs:List Value},dS T F w xs l->dS T F w (xs++cs) (l++[d])
 | [],xs,h=>by simp only [dS] at h;subst h;exact ⟨cs,[],by simp,aM,rfl⟩
 | e::r,xs,h=>by
   obtain ⟨c,ys,rfl,I,aa⟩:=h
   exact ⟨c,ys++cs,by simp,I,aeZ aM aa⟩
theorem G1 {F:Nat->Prop} {w:World} {l':List α} {eX:List Value} (h':dS T F w eX l'):∀ {l:List α} {xs:List Value},dS T F w xs l->dS T F w (xs++eX) (l++l')
 | [],xs,h=>by simp only [dS] at h;subst h;simpa using h'
 | e::r,xs,h=>by
   obtain ⟨c,ys,rfl,I,aa⟩:=h
   exact ⟨c,ys++eX,by simp,I,G1 h' aa⟩
theorem G2 {F:Nat->Prop} {w:World}:∀ {l:List α} {xs:List Value} {i:Nat} {d:α},dS T F w xs l->l[i]? =some d ->
 ∃ cs,T.rd F w cs d/\ ∀ j u,cs[j]? =some u->xs[i*T.size+j]? =some u
 | [],_,i,d,_,hi=>by simp at hi
 | e::r,xs,0,d,h,hi=>by
   obtain ⟨cs,ys,rfl,I,_⟩:=h
   simp only [List.getElem?_cons_zero,Option.some.injEq] at hi
   subst hi
   refine ⟨cs,I,fun j u aI=>?_⟩
   have aq:j <cs.length:=by
    rcases Nat.lt_or_ge j cs.length with h | h
    · exact h
    · rw [List.getElem?_eq_none h] at aI;cases aI
   simpa [List.getElem?_append,aq] using aI
 | e::r,xs,i+ 1,d,h,hi=>by
   obtain ⟨cs,ys,rfl,I,aa⟩:=h
   obtain ⟨c,hc,aI⟩:=G2 (i:=i) aa (by simpa using hi)
   refine ⟨c,hc,fun j u FD=>?_⟩
   have hlen:=T.len I
   have ak:(i+ 1)*T.size+j=cs.length+(i*T.size+j):=by rw [Nat.add_mul];omega
   rw [ak,List.getElem?_append_right (by omega)]
   simpa using aI j u FD
def e5 (w:World) (a:Addr) (xs:List Value):Prop:=∀ j u,xs[j]? =some u->w.cell? ⟨a.block,a.off+j,none⟩=some u
theorem e5.law {w w':World} {a:Addr} {xs:List Value} (h:e5 w a xs) (ag:w'.heap[a.block]? =w.heap[a.block]?):e5 w' a xs:=
 fun j u aI=>(World.cell?_of_block (a:=⟨a.block,a.off+j,none⟩) ag).trans (h j u aI)
def dk (A:Option Addr):Nat:=(A.getD ⟨0,0,none⟩).block
def gg (A:Option Addr):Nat:=(A.getD ⟨0,0,none⟩).off
def b4:cY (List α) where
 size:=1
 rd F w cs l:=∃ A c,cs= [.slice A l.length c]/\l.length<=c/\c<=maxLen/\(A=none->c= 0) /\
  (l≠ []->A=some ⟨dk A,gg A,none⟩/\F (dk A)/\ ∃ xs,dS T F w xs l/\e5 w ⟨dk A,gg A,none⟩ xs)
 len h:=by obtain ⟨A,c,rfl,_⟩:=h;rfl
 one h v ah:=by obtain ⟨A,c,rfl,_⟩:=h;simp at ah;subst ah;rfl
 law aD h:=by
  obtain ⟨A,c,I,aw,bi,dA,hd⟩:=h
  refine ⟨A,c,I,aw,bi,dA,fun aq=>?_⟩
  obtain ⟨ak,al,xs,aV,bS⟩:=hd aq
  exact ⟨ak,(aD _ al).1,xs,mR T aD aV,bS.law (aD _ al).2⟩
theorem lb {F:Nat->Prop} {w:World} {v:Value} {l:List α} (h:(b4 T).rd F w [v] l):∃ A c,v= .slice A l.length c:=by
 obtain ⟨A,c,I,_⟩:=h
 exact ⟨A,c,by simpa using I⟩
theorem AH {F:Nat->Prop} {w:World} {A:Option Addr} {n c:Nat} {l:List α} {i:Int} {d:α} (h:(b4 T).rd F w [.slice A n c] l) (hi:idx l i=some d) :
 A=some ⟨dk A,gg A,none⟩/\(0 <=i/\i <n)/\ ∃ cs,T.rd F w cs d/\e5 w ⟨dk A,gg A+i.toNat*T.size,none⟩ cs:=by
 obtain ⟨aQ,I,aa⟩:=km hi
 obtain ⟨cj,bH,ak,aV,bS,dw,gR⟩:=h
 simp only [List.cons.injEq,Value.slice.injEq,and_true] at ak
 obtain ⟨rfl,rfl,rfl⟩:=ak
 obtain ⟨dC,bG,xs,fK,iT⟩:=gR (fun RX=>by rw [RX] at I;simp at I)
 obtain ⟨cs,hc,v9⟩:=G2 T fK aa
 refine ⟨dC,⟨aQ,by omega⟩,cs,hc,fun j u aI=>?_⟩
 have:=iT (i.toNat*T.size+j) u (v9 j u aI)
 simpa [Nat.add_assoc] using this
end
def a7.dU (g:Nat) (t:TypeId) (cs:List Value):a7 where
 bA:=[g]
 ok w:=w.heap[g]? =some (.cells cs.toArray t (0,0))
 law w w' h aj:=(h g (by simp)).trans aj
def a7.row {α:Type} (e:TypeId) (size:Nat) (v:Value) (l:List α) (xs:List Value):a7 where
 bA:=v.ownBlock.toList
 ok w:=w.ownsRow 0 e size v l.length xs
 law w w' h aj:=by
  refine ⟨aj.1,?_⟩
  rcases aj.2 with aJ | ⟨g,cap,cur,rfl,ag,Fx,rest⟩
  · exact .inl aJ
  · exact .inr ⟨g,cap,cur,rfl,ag,(h g (by simp [Value.ownBlock])).trans Fx,rest⟩
def bB.rows {α:Type} (T:cY α) (xs:List Value) (l:List α):bB where
 ok M w:=dS T (hI M w) w xs l
 law M iR w w' ah hm h:=mR T (fun k aj=>⟨⟨fun ad=>by rcases hm k ad with e | e;exact aj.1 e;exact absurd aj.2 (by omega),Nat.lt_of_lt_of_le aj.2 ah.size⟩,ah.block k aj.2 aj.1⟩) h
theorem Ha {α:Type} {w:World} {e:TypeId} {size:Nat} {v:Value} {l:List α} {xs:List Value} (h:(a7.row e size v l xs).ok w):∃ A c,v= .slice A l.length c/\l.length<=c/\c<=maxLen/\(A=none->c= 0)/\(A≠none->A=some ⟨dk A,0,none⟩):=by
 have h':w.ownsRow 0 e size v l.length xs:=h
 rcases h'.2 with ⟨rfl,aQ⟩ | ⟨g,cap,cur,rfl,_,_,I,aa,_⟩
 · exact ⟨none,0,by rw [aQ],by omega,Nat.zero_le _,fun _=>rfl,fun h=>absurd rfl h⟩
 · exact ⟨some ⟨g,0,none⟩,cap,rfl,I,aa,(fun h=>by cases h),fun _=>rfl⟩
theorem aA' {α:Type} {T:cY α} {M:List Nat} {w:World} {e:TypeId} {A:Option Addr} {n c:Nat} {l:List α} {xs:List Value} (h:(a7.row e T.size (.slice A n c) l xs).ok w) (aE:(bB.rows T xs l).ok M w)
 (eL:∀ k ∈ (Value.slice A n c).ownBlock.toList,k ∉ M):(bB.of (b4 T) [.slice A n c] l).ok M w:=by
 have h':w.ownsRow 0 e T.size (.slice A n c) l.length xs:=h
 have kW:dS T (hI M w) w xs l:=aE
 show (b4 T).rd (hI M w) w _ l
 rcases h'.2 with ⟨I,aQ⟩ | ⟨g,cap,cur,I,_,ax,hle,hm,ao,ad⟩
 · have aq:l= []:=List.eq_nil_of_length_eq_zero aQ
   simp only [Value.slice.injEq] at I
   obtain ⟨rfl,rfl,rfl⟩:=I
   subst aq
   exact ⟨none,0,rfl,by simp,Nat.zero_le _,fun _=>rfl,fun h=>absurd rfl h⟩
 · simp only [Value.slice.injEq] at I
   obtain ⟨rfl,rfl,rfl⟩:=I
   refine ⟨_,_,rfl,hle,hm,(fun h=>by cases h),fun _=>⟨rfl,⟨eL g (by simp [Value.ownBlock]),(Array.getElem?_eq_some_iff.1 ax).1⟩,xs,kW,fun j u aI=>?_⟩⟩
   have il:=h'.cells (g:=g) rfl j u aI
   simpa [Addr.add,dk,gg] using (by
    have e:(⟨g,0,none⟩:Addr).add j=⟨g,0 +j,none⟩:=by unfold Addr.add;split <;> simp_all
    rw [e] at il;exact il:w.cell? ⟨g,0 +j,none⟩=some u)
theorem vF {w:World} {g:Nat} {t:TypeId} {cs:List Value} (h:(a7.dU g t cs).ok w) {j:Nat} {v:Value} (aI:cs[j]? =some v):w.cell? ⟨g,j,none⟩=some v:=by
 have h':w.heap[g]? =some (.cells cs.toArray t (0,0)):=h
 simp [World.cell?,h',aI]
theorem EM {w:World} {g:Nat} {t:TypeId} {cs:List Value} (h:(a7.dU g t cs).ok w):g <w.heap.size:=by
 have h':w.heap[g]? =some (.cells cs.toArray t (0,0)):=h
 exact (Array.getElem?_eq_some_iff.1 h').1
theorem an9 (w:World) (t:TypeId) (cs:List Value):(a7.dU w.heap.size t cs).ok (w.alloc (.cells cs.toArray t)):=heap_alloc_new w _
def bB.ik (g:Nat) (cs:List Value):bB where
 ok M w:=g ∉ M/\g <w.heap.size/\e5 w ⟨g,0,none⟩ cs
 law M iR w w' ah hm h:=⟨fun ad=>by rcases hm g ad with e | e;exact h.1 e;exact absurd h.2.1 (by omega),Nat.lt_of_lt_of_le h.2.1 ah.size,h.2.2.law (ah.block g h.2.1 h.1)⟩
theorem lV {α:Type} {T:cY α} {F:Nat->Prop} {w:World} {cs:List Value} {l:List α} (h:(b4 T).rd F w cs l):∃ A c,cs= [.slice A l.length c]:=by
 obtain ⟨A,c,I,_⟩:=h
 exact ⟨A,c,I⟩
theorem aA_ {α:Type} {T:cY α} {M:List Nat} {w:World} {e:TypeId} {A:Option Addr} {n c:Nat} {l:List α} {xs:List Value} {i:Int} {d:α} (h:(a7.row e T.size (.slice A n c) l xs).ok w) (aE:(bB.rows T xs l).ok M w) (hi:idx l i=some d) :
 A=some ⟨dk A,gg A,none⟩/\(0 <=i/\i <n)/\ ∃ cs,T.rd (hI M w) w cs d/\e5 w ⟨dk A,gg A+i.toNat*T.size,none⟩ cs:=by
 obtain ⟨aQ,I,aa⟩:=km hi
 have h':w.ownsRow 0 e T.size (.slice A n c) l.length xs:=h
 have kW:dS T (hI M w) w xs l:=aE
 rcases h'.2 with ⟨ak,dg⟩ | ⟨g,cap,cur,ak,_,ax,_⟩
 · omega
 · simp only [Value.slice.injEq] at ak
   obtain ⟨rfl,rfl,rfl⟩:=ak
   obtain ⟨cs,hc,v9⟩:=G2 T kW aa
   refine ⟨rfl,⟨aQ,by omega⟩,cs,hc,fun j u aI=>?_⟩
   have il:=h'.cells (g:=g) rfl _ u (v9 j u aI)
   have al:(⟨g,0,none⟩:Addr).add (i.toNat*T.size+j)=⟨g,0 +(i.toNat*T.size+j),none⟩:=by unfold Addr.add;split <;> simp_all
   rw [al] at il
   show w.cell? ⟨g,0 +i.toNat*T.size+j,none⟩=some u
   rw [Nat.add_assoc];exact il
end au
namespace au
open Go Go.RowKit J
theorem ade (p q:List UInt8):(p == q)=decide (p=q):=by
 rw [Bool.eq_iff_iff];simp
section
variable {P:Program} {o:Oper} {a:Act} {w:World}
abbrev bb (P:Program) (o:Oper) (a:Act) (w:World) (v:Value) (w':World):Prop:=(execOp a.eval o).run P w= .ok (.value v) w'
abbrev pr (P:Program) (o:Oper) (a:Act) (w:World) (w':World):Prop:=(execOp a.eval o).run P w= .ok .skip w'
theorem ajF {x:Operand} {v:Value} (av:o.op= .move x) (ad:a.eval x=v):bb P o a w v w:=by
 simp only [bb,execOp,av,ad];rfl
theorem Xy {x:Operand} {v:Value} (av:o.op= .assign x) (ad:a.eval x=v):bb P o a w v w:=by
 simp only [bb,execOp,av,ad];rfl
theorem NN {c x y:Operand} {v:Value} (av:o.op= .pick c x y) (hc:a.eval c= .bool true) (ad:a.eval x=v):bb P o a w v w:=by
 simp only [bb,execOp,av,hc,ad];rfl
theorem NM {c x y:Operand} {v:Value} (av:o.op= .pick c x y) (hc:a.eval c= .bool false) (hy:a.eval y=v):bb P o a w v w:=by
 simp only [bb,execOp,av,hc,hy];rfl
section
variable {x y:Operand} {t t':TypeId} {k:IntKind} {m n:Int}
theorem aFJ (av:o.op= .binOp .add t x y t') (ad:a.eval x= .int k m) (hy:a.eval y= .int k n):bb P o a w (.int k (k.wrap (m+n))) w:=by
 simp only [bb,execOp,av,ad,hy]
 simp [go_sem]
theorem aGe (av:o.op= .binOp .sub t x y t') (ad:a.eval x= .int k m) (hy:a.eval y= .int k n):bb P o a w (.int k (k.wrap (m - n))) w:=by
 simp only [bb,execOp,av,ad,hy]
 simp [go_sem]
theorem aF5 (av:o.op= .binOp .mul t x y t') (ad:a.eval x= .int k m) (hy:a.eval y= .int k n):bb P o a w (.int k (k.wrap (m*n))) w:=by
 simp only [bb,execOp,av,ad,hy]
 simp [go_sem]
theorem aGc (av:o.op= .binOp .quo t x y t') (ad:a.eval x= .int k m) (hy:a.eval y= .int k n) (aQ:n≠ 0):bb P o a w (.int k (k.wrap (m.tdiv n))) w:=by
 simp only [bb,execOp,av,ad,hy]
 simp [go_sem,aQ]
theorem aF3 (av:o.op= .binOp .lss t x y t') (ad:a.eval x= .int k m) (hy:a.eval y= .int k n):bb P o a w (.bool (decide (m <n))) w:=by
 simp only [bb,execOp,av,ad,hy]
 simp [go_sem]
theorem aF2 (av:o.op= .binOp .leq t x y t') (ad:a.eval x= .int k m) (hy:a.eval y= .int k n):bb P o a w (.bool (decide (m<=n))) w:=by
 simp only [bb,execOp,av,ad,hy]
 simp [go_sem]
theorem aFY (av:o.op= .binOp .gtr t x y t') (ad:a.eval x= .int k m) (hy:a.eval y= .int k n):bb P o a w (.bool (decide (n <m))) w:=by
 simp only [bb,execOp,av,ad,hy]
 simp [go_sem]
theorem aFX (av:o.op= .binOp .geq t x y t') (ad:a.eval x= .int k m) (hy:a.eval y= .int k n):bb P o a w (.bool (decide (n<=m))) w:=by
 simp only [bb,execOp,av,ad,hy]
 simp [go_sem]
theorem aFV (aO:P.underlying t=some (.int k)) (av:o.op= .binOp .eql t x y t') (ad:a.eval x= .int k m) (hy:a.eval y= .int k n):bb P o a w (.bool (decide (m=n))) w:=by
 have:=run_underlying (P:=P) aO
 simp only [bb,execOp,av,ad,hy]
 simp [go_sem,this]
 rfl
theorem aF8 (aO:P.underlying t=some (.int k)) (av:o.op= .binOp .neq t x y t') (ad:a.eval x= .int k m) (hy:a.eval y= .int k n):bb P o a w (.bool (!decide (m=n))) w:=by
 have:=run_underlying (P:=P) aO
 simp only [bb,execOp,av,ad,hy]
 simp [go_sem,this]
 rfl
end
section
variable {x y:Operand} {t t':TypeId} {p q:Bool}
theorem aBq (aO:P.underlying t=some .bool) (p q:Bool) (w:World):(binOp .eql t (.bool p) (.bool q)).run P w= .ok (.bool (p == q)) w:=by
 have h:∀ d:Nat,(Op.equalIn (d+ 1) t (.bool p) (.bool q)).run P w= .ok (p == q) w:=fun d=>by
  simp [Op.equalIn,run_underlying aO]
 simp only [binOp]
 simp [Op.equal,Op.maxDepth,h 9999]
theorem aBr (aO:P.underlying t=some .bool) (p q:Bool) (w:World):(binOp .neq t (.bool p) (.bool q)).run P w= .ok (.bool (!(p == q))) w:=by
 have h:∀ d:Nat,(Op.equalIn (d+ 1) t (.bool p) (.bool q)).run P w= .ok (p == q) w:=fun d=>by
  simp [Op.equalIn,run_underlying aO]
 simp only [binOp]
 simp [Op.equal,Op.maxDepth,h 9999]
theorem aFU (aO:P.underlying t=some .bool) (av:o.op= .binOp .eql t x y t') (ad:a.eval x= .bool p) (hy:a.eval y= .bool q):bb P o a w (.bool (p == q)) w:=by
 simp only [bb,execOp,av,ad,hy]
 simp [go_sem,aBq aO]
theorem aF7 (aO:P.underlying t=some .bool) (av:o.op= .binOp .neq t x y t') (ad:a.eval x= .bool p) (hy:a.eval y= .bool q):bb P o a w (.bool (!(p == q))) w:=by
 simp only [bb,execOp,av,ad,hy]
 simp [go_sem,aBr aO]
theorem ajH (av:o.op= .unOp .not t x) (ad:a.eval x= .bool p):bb P o a w (.bool (!p)) w:=by
 simp only [bb,execOp,av,ad]
 simp [go_sem]
end
section
variable {x y:Operand} {t t':TypeId} {p q:List UInt8}
theorem aFW (aO:P.underlying t=some .string) (av:o.op= .binOp .eql t x y t') (ad:a.eval x=cl p) (hy:a.eval y=cl q):bb P o a w (.bool (decide (p=q))) w:=by
 have:=run_underlying (P:=P) aO
 simp only [bb,execOp,av,ad,hy]
 simp [go_sem,this]
 exact ade p q
theorem aF9 (aO:P.underlying t=some .string) (av:o.op= .binOp .neq t x y t') (ad:a.eval x=cl p) (hy:a.eval y=cl q):bb P o a w (.bool (!decide (p=q))) w:=by
 have:=run_underlying (P:=P) aO
 simp only [bb,execOp,av,ad,hy]
 simp [go_sem,this]
 exact ade p q
theorem ajD {mg:TypeId} (aO:P.underlying mg=some .string) (av:o.op= .call { callee:=.builtin .len,args:=#[x],argTypes:=#[mg] }) (ad:a.eval x=cl p):bb P o a w (.int .i64 p.length) w:=by
 simp only [bb,execOp,av,resolve,invoke,List.map_toArray,List.map_cons,List.map_nil,ad]
 simp [go_sem,Builtin.len_,run_underlying aO,goInt]
theorem ajC {mg:TypeId} {A:Option Addr} {n c:Nat} {e:TypeId} (aO:P.underlying mg=some (.slice e)) (av:o.op= .call { callee:=.builtin .len,args:=#[x],argTypes:=#[mg] }) (ad:a.eval x= .slice A n c):bb P o a w (.int .i64 n) w:=by
 simp only [bb,execOp,av,resolve,invoke,List.map_toArray,List.map_cons,List.map_nil,ad]
 simp [go_sem,Builtin.len_,run_underlying aO,goInt]
theorem aF0 {i:Nat} {b:UInt8} (aO:P.underlying t=some .string) (av:o.op= .index t x y) (ad:a.eval x=cl p) (hy:a.eval y= .int .i64 i) (ag:p[i]? =some b):bb P o a w (.int .u8 b.toNat) w:=by
 simp only [bb,execOp,av,ad,hy]
 obtain ⟨I,aa⟩:=List.getElem?_eq_some_iff.1 ag
 have e:(⟨⟨p⟩⟩:ByteArray)[i]? =some b:=by
  show (if h:i <_ then some _ else none)=_
  rw [dif_pos (show i <(⟨⟨p⟩⟩:ByteArray).size from I)]
  exact congrArg some aa
 simp [go_sem,Instr.index,run_underlying aO,e]
theorem Xz {k k':IntKind} {n:Int} (aO:P.underlying t=some (.int k)) (tz:P.underlying t'=some (.int k')) (av:o.op= .convert t t' x) (ad:a.eval x= .int k n):bb P o a w (.int k' (k'.wrap n)) w:=by
 simp only [bb,execOp,av,ad]
 simp [go_sem,convert,run_underlying aO,run_underlying tz]
end
end
theorem uK (n:Int):IntKind.i64.wrap n=aA n:=by rw [IntKind.wrap_i64];rfl
theorem agc (n:Int):IntKind.u8.wrap n=((BT n).toNat:Int):=by rw [an5,IntKind.wrap_u8]
section
variable {P:Program} {o:Oper} {a:Act} {w:World} {x y:Operand} {t t':TypeId} {m n:Int}
theorem aFK (av:o.op= .binOp .add t x y t') (ad:a.eval x= .int .i64 m) (hy:a.eval y= .int .i64 n):bb P o a w (.int .i64 (aA (m+n))) w:=by rw [<-uK];exact aFJ av ad hy
theorem aGf (av:o.op= .binOp .sub t x y t') (ad:a.eval x= .int .i64 m) (hy:a.eval y= .int .i64 n):bb P o a w (.int .i64 (aA (m - n))) w:=by rw [<-uK];exact aGe av ad hy
theorem aF6 (av:o.op= .binOp .mul t x y t') (ad:a.eval x= .int .i64 m) (hy:a.eval y= .int .i64 n):bb P o a w (.int .i64 (aA (m*n))) w:=by rw [<-uK];exact aF5 av ad hy
theorem ajJ (av:o.op= .binOp .rem t x y t') (ad:a.eval x= .int .i64 m) (hy:a.eval y= .int .i64 n) (aQ:(!decide (n= 0))=true):bb P o a w (.int .i64 (m.tmod n)) w:=by
 have aQ:n≠ 0 :=by simpa using aQ
 simp only [bb,execOp,av,ad,hy]
 simp [go_sem,aQ]
theorem ajI (av:o.op= .binOp .quo t x y t') (ad:a.eval x= .int .i64 m) (hy:a.eval y= .int .i64 n) (aQ:(!decide (n= 0))=true):bb P o a w (.int .i64 (aA (m.tdiv n))) w:=by rw [<-uK];exact aGc av ad hy (by simpa using aQ)
theorem aFP (aO:P.underlying t=some (.int .i64)) (tz:P.underlying t'=some (.int .i64)) (av:o.op= .convert t t' x) (ad:a.eval x= .int .i64 m):bb P o a w (.int .i64 (aA m)) w:=by
 have h:=Xz (P:=P) (w:=w) aO tz av ad
 rwa [uK] at h
theorem aFQ (aO:P.underlying t=some (.int .i64)) (tz:P.underlying t'=some (.int .u8)) (av:o.op= .convert t t' x) (ad:a.eval x= .int .i64 m):bb P o a w (.int .u8 ((BT m).toNat:Int)) w:=by
 have h:=Xz (P:=P) (w:=w) aO tz av ad
 rwa [agc] at h
theorem ZU (a:Act) (g:Nat):a.eval (.global g)= .pointer (some ⟨g,0,none⟩):=rfl
theorem Iw {vs:List Value} {i:Nat} {v:Value} (av:o.op= .extract x i) (ad:a.eval x= .tuple vs.toArray) (ah:vs[i]? =some v):bb P o a w v w:=by
 simp only [bb,execOp,av,ad]
 simp [go_sem,Instr.extract,ah]
theorem ajG {p:Addr} (av:o.op= .nilCheck x) (ad:a.eval x= .pointer (some p)):bb P o a w (.pointer (some p)) w:=by
 simp only [bb,execOp,av,ad]
 rfl
end
end au
namespace au
open Go Go.RowKit J
theorem j9 (b o n:Nat):(⟨b,o,none⟩:Addr).add n=⟨b,o+n,none⟩:=by
 unfold Addr.add;split <;> simp_all
section
variable {P:Program} {o:Oper} {a:Act} {w:World} {x y:Operand} {t e s:TypeId}
theorem aF1 {i:Int} {b:UInt8} {p:List UInt8} (aO:P.underlying t=some .string) (av:o.op= .index t x y) (ad:a.eval x=cl p) (hy:a.eval y= .int .i64 i) (ag:idx p i=some b):bb P o a w (.int .u8 b.toNat) w:=by
 obtain ⟨aQ,I,aa⟩:=km ag
 obtain ⟨n,rfl⟩:=Int.eq_ofNat_of_zero_le aQ
 exact aF0 aO av ad hy (by simpa using aa)
theorem n1 {A:Option Addr} {n c sz:Nat} {i:Int} (aO:P.underlying t=some (.slice e)) (ao:∀ w,(Go.sizeOf e).run P w= .ok sz w)
 (av:o.op= .indexAddr t x y) (ad:a.eval x= .slice A n c) (hy:a.eval y= .int .i64 i) (dl:A=some ⟨dk A,gg A,none⟩) (hi:0 <=i/\i <n) :
 bb P o a w (.pointer (some ⟨dk A,gg A+i.toNat*sz,none⟩)) w:=by
 obtain ⟨aQ,I⟩:=hi
 obtain ⟨k,rfl⟩:=Int.eq_ofNat_of_zero_le aQ
 have bE:k <n:=by omega
 rw [dl] at ad
 simp only [bb,execOp,av,ad,hy]
 simp [go_sem,Instr.indexAt,run_underlying aO,bE,ao,j9]
theorem ajA {ca:Array Field} {f:Field} {j b p sz:Nat} (aO:P.underlying s=some (.struct ca)) (af:ca[j]? =some f) (ao:∀ w,(Go.sizeOf f.type).run P w= .ok sz w) (aQ:Nat.beq sz 0 =false)
 (av:o.op= .fieldAddr s x j) (ad:a.eval x= .pointer (some ⟨b,p,none⟩)):bb P o a w (.pointer (some ⟨b,p+f.offset,none⟩)) w:=by
 have arP:sz≠ 0 :=by intro e;subst e;simp at aQ
 simp only [bb,execOp,av,ad]
 simp [go_sem,Instr.fieldAt,run_underlying aO,af,fieldPlace,ao,arP,j9]
theorem XA {b p:Nat} {v:Value} (ax:∀ w,(isAgg t).run P w= .ok false w) (av:o.op= .load t x) (ad:a.eval x= .pointer (some ⟨b,p,none⟩)) (hc:w.cell? ⟨b,p,none⟩=some v):bb P o a w v w:=by
 simp only [bb,execOp,av,ad]
 simp [go_sem,Instr.loadAt,loadVar,ax,hc]
theorem ajE {b p sz:Nat} {cs:List Value} (ax:∀ w,(isAgg t).run P w= .ok true w) (ao:∀ w,(Go.sizeOf t).run P w= .ok sz w) (aq:cs.length=sz) (av:o.op= .load t x)
 (ad:a.eval x= .pointer (some ⟨b,p,none⟩)) (hc:e5 w ⟨b,p,none⟩ cs):bb P o a w (.agg cs.toArray) w:=by
 have h:=run_loadCells_list (P:=P) w ⟨b,p,none⟩ cs (fun j u aI=>by rw [j9];exact hc j u aI)
 rw [aq] at h
 unfold loadCells at h
 simp only [bb,execOp,av,ad]
 simp [go_sem,Instr.loadAt,loadVar,ax,ao,h]
theorem NI {v:Value} {cs:List Value} (ah:v.cells=cs.toArray) (av:o.op= .box t x) (ad:a.eval x=v):bb P o a w (.pointer (some ⟨w.heap.size,0,none⟩)) (w.alloc (.cells cs.toArray t)):=by
 have fZ:=ah
 unfold Value.cells at fZ
 simp only [bb,execOp,av,ad]
 simp [go_sem,Instr.box,newVar,newRow,fZ]
theorem yj {z:Value} {cs:List Value} (ai:∀ w,(zeroValue t).run P w= .ok z w) (ah:z.cells=cs.toArray) (av:o.op= .alloc t):bb P o a w (.pointer (some ⟨w.heap.size,0,none⟩)) (w.alloc (.cells cs.toArray t)):=by
 have fZ:=ah
 unfold Value.cells at fZ
 simp only [bb,execOp,av]
 simp [go_sem,Instr.alloc,newVar,newRow,ai,fZ]
end
def lay:List Value->Nat->List Value->List Value
 | l,0,cs=>cs++l.drop cs.length
 | [],_+ 1,_=>[]
 | u::l,n+ 1,cs=>u::lay l n cs
theorem SV:∀ (l:List Value) (n:Nat) (cs:List Value),n+cs.length<=l.length->lay l n cs=l.take n++cs++l.drop (n+cs.length)
 | l,0,cs,_=>by simp [lay]
 | [],n+ 1,cs,h=>by simp at h
 | u::l,n+ 1,cs,h=>by
   have:=SV l n cs (by simp at h;omega)
   simp only [lay,this,List.take_succ_cons,List.cons_append]
   have e:n+ 1 +cs.length=(n+cs.length)+ 1 :=by omega
   rw [e,List.drop_succ_cons]
section
variable {P:Program} {o:Oper} {a:Act} {w:World} {x y:Operand} {t e s:TypeId}
theorem XB {g p sz:Nat} {tb:TypeId} {cs vs:List Value} {v:Value} (ah:v.cells=vs.toArray) (ao:∀ w,(Go.sizeOf t).run P w= .ok sz w) (aq:Nat.beq vs.length sz=true) (I:vs.all (·.oneCell')=true)
 (hle:Nat.ble (p+vs.length) cs.length=true) (ag:(a7.dU g tb cs).ok w) (av:o.op= .store t x y) (ad:a.eval x= .pointer (some ⟨g,p,none⟩)) (hy:a.eval y=v) :
 ∃ w',pr P o a w w'/\bp [g] w w'/\(a7.dU g tb (lay cs p vs)).ok w':=by
 have fL:w.heap[g]? =some (.cells cs.toArray tb (0,0)):=ag
 have hlen:vs.length=sz:=Nat.eq_of_beq_eq_true aq
 have CA:p+vs.length<=cs.length:=Nat.le_of_ble_eq_true hle
 have h:=run_storeCells_at P g p tb vs 0 cs.toArray w fL (by simpa using CA) (fun u hu=>List.all_eq_true.1 I u hu)
 simp only [Nat.add_zero] at h
 refine ⟨w.setRow g (lay cs p vs).toArray,?_,?_,?_⟩
 · simp only [pr,execOp,av,ad,hy]
   rw [SV _ _ _ CA]
   simp only [List.append_assoc,hlen] at h
   have fZ:=ah
   unfold Value.cells at fZ
   simp [go_sem,Instr.storeAt,storeVar,ao,fZ,hlen,h]
 · refine ⟨rfl,rfl,rfl,by simp [World.setRow],fun k _ aJ=>?_⟩
   simp only [World.setRow,Array.getElem?_modify]
   rw [if_neg (by simpa [eq_comm] using aJ)]
 · show (w.setRow g _).heap[g]? =_
   simp [World.setRow,Array.getElem?_modify,fL]
end
section
variable {P:Program} {o:Oper} {a:Act} {w:World} {x y:Operand} {t e:TypeId}
def JP (a:Act):List (Nat × Operand)->List (Nat × Value)->Prop
 | [],[]=>True
 | (i,x)::xs,(j,v)::vs=>(a.eval x=v/\i=j)/\JP a xs vs
 | _,_=>False
theorem PY:∀ {xs:List (Nat × Operand)} {vs:List (Nat × Value)},JP a xs vs->xs.map (fun p=>(p.1,a.eval p.2))=vs
 | [],[],_=>rfl
 | (i,x)::xs,(j,v)::vs,h=>by
   obtain ⟨⟨I,rfl⟩,aa⟩:=h
   rw [List.map_cons,PY aa,I]
def placesOf (P:Program) (t:TypeId):Sem (Array (Nat × Nat)):=(match P.underlying t with | some (.struct ca)=>ca | _=>#[]).mapM fun (f:Field)=>do pure (f.offset,<-Go.sizeOf f.type)
theorem aFN {z:Value} {ca:Array Field} {pl:Array (Nat × Nat)} {xs:List (Nat × Operand)} {vs:List (Nat × Value)} {cs:List Value} (ai:∀ w,(zeroValue t).run P w= .ok z w) (hu:P.underlying t=some (.struct ca))
 (aN:∀ w,(placesOf P t).run P w= .ok pl w) (av:o.op= .build t xs.toArray) (ad:JP a xs vs) (Rw:Instr.fill (fun i=>pl[i]?) z.cells vs=some cs.toArray):bb P o a w (.agg cs.toArray) w:=by
 have wi:=aN w
 simp only [placesOf,hu] at wi
 have I:=PY ad
 simp only [bb,execOp,av,Instr.build,Sem.run_bind,ai,Result.andThen_ok,run_underlying hu,wi,List.map_toArray]
 have e:(xs.map fun (i,x)=>(i,a.eval x))=vs:=I
 simp only [e,Rw]
 rfl
theorem Bq {z:Value} {sz n:Nat} {xs:List (Nat × Operand)} {vs:List (Nat × Value)} {cs:List Value} (hu:P.underlying t=some (.slice e)) (ao:∀ w,(Go.sizeOf e).run P w= .ok sz w) (ai:∀ w,(zeroValue e).run P w= .ok z w)
 (hle:Nat.ble (n*sz) 16777216 =true) (b3:Nat.beq (n*sz) 0 =false) (av:o.op= .buildSlice t n xs.toArray) (ad:JP a xs vs)
 (Rw:Instr.fill (fun i=>some (i*sz,sz)) ((Array.range (n*sz)).map (z.cells[· % z.cells.size]!)) vs=some cs.toArray) :
 bb P o a w (.slice (some ⟨w.heap.size,0,none⟩) n n) (w.alloc (.cells cs.toArray e)):=by
 have I:=PY ad
 have ak:(xs.map fun (i,x)=>(i,a.eval x))=vs:=I
 have aa: ¬ (n*sz > 2 ^ 24):=by have:=Nat.le_of_ble_eq_true hle;omega
 have aw:n*sz≠ 0 :=by intro aQ;rw [aQ] at b3;simp at b3
 simp only [bb,execOp,av,Instr.buildSlice,Sem.run_bind,Sem.run_pure,ao,ai,Result.andThen_ok,run_underlying hu,List.map_toArray,ak,if_neg aa,if_neg aw,Rw]
 rfl
theorem aF' {t':TypeId} {m n:Int} (av:o.op= .binOp .or t x y t') (ad:a.eval x= .int .i64 m) (hy:a.eval y= .int .i64 n):bb P o a w (.int .i64 (TL m n)) w:=by
 unfold TL
 rw [<-uK]
 simp only [bb,execOp,av,ad,hy]
 rfl
theorem aFL {t':TypeId} {m n:Int} (av:o.op= .binOp .and t x y t') (ad:a.eval x= .int .i64 m) (hy:a.eval y= .int .i64 n):bb P o a w (.int .i64 (OZ m n)) w:=by
 unfold OZ
 rw [<-uK]
 simp only [bb,execOp,av,ad,hy]
 rfl
end
end au
namespace au
open Go Go.RowKit J
section
variable {P:Program} {ops:Array Oper} {Q:Exit->Act->World->Prop} {a:Act} {w w':World} {rest:List Oper} {o:Oper} {n:cE} {d:Nat} {l:List (Nat × Value)} {v:Value}
theorem MJ (ax:o.guard=none):Region.wanted o (yielded ops a.tmps)=true:=by simp [Region.wanted,ax]
theorem nT (hw:Region.wanted o (yielded ops a.tmps)=true) (hy:bb P o a w v w') (af:Fr n l a) (aM:o.dst=some d) (aJ:Nat.blt d n=true) (k:∀ aX,Fr n ((d,v)::l) aX->wpList P ops Q rest aX w'):wpList P ops Q (o::rest) a w:=by
 refine wpList_step fun K cG=>?_
 rw [if_pos hw]
 unfold Oper.wp
 rw [show (execOp a.eval o).run P w=_ from hy]
 show K (a.put o.dst v) w'
 rw [aM]
 exact cG _ _ (k _ (af.put aJ))
theorem iC (hw:Region.wanted o (yielded ops a.tmps)=true) (hy:pr P o a w w') (aM:o.dst=none) (k:wpList P ops Q rest a w'):wpList P ops Q (o::rest) a w:=by
 refine wpList_step fun K cG=>?_
 rw [if_pos hw]
 unfold Oper.wp
 rw [show (execOp a.eval o).run P w=_ from hy]
 show K (a.put o.dst undef) w'
 rw [aM]
 exact cG _ _ k
theorem aCs {j bx:Nat} {b:Bool} (af:Fr n l a) (ax:o.guard=some (j,b)) (aI:(ops[j]?).bind (·.dst)=some bx) (aq:ep l bx=some (.bool b)) (aJ:Nat.blt bx n=true):Region.wanted o (yielded ops a.tmps)=true:=by
 have bE:bx <n:=Nat.le_of_ble_eq_true aJ
 have h:=af.get bx _ aq
 have ao:=af.size
 have aa:a.tmps[bx]? =some (.bool b):=by
  rw [Array.getElem?_eq_getElem (by omega)]
  simpa [Array.getD_eq_getD_getElem?,ao,bE] using h
 simp [Region.wanted,ax,yielded,aI,aa]
theorem aCr {j bx:Nat} {b jr:Bool} (af:Fr n l a) (ax:o.guard=some (j,b)) (aI:(ops[j]?).bind (·.dst)=some bx) (aq:ep l bx=some (.bool jr)) (b3:(jr == b)=false) (aJ:Nat.blt bx n=true):Region.wanted o (yielded ops a.tmps)=false:=by
 have bE:bx <n:=Nat.le_of_ble_eq_true aJ
 have h:=af.get bx _ aq
 have ao:=af.size
 have aa:a.tmps[bx]? =some (.bool jr):=by
  rw [Array.getElem?_eq_getElem (by omega)]
  simpa [Array.getD_eq_getD_getElem?,ao,bE] using h
 simpa [Region.wanted,ax,yielded,aI,aa] using b3
theorem aCt {j bx:Nat} {b:Bool} (af:Fr n l a) (ax:o.guard=some (j,b)) (aI:(ops[j]?).bind (·.dst)=some bx) (aq:ep l bx=some undef) (aJ:Nat.blt bx n=true):Region.wanted o (yielded ops a.tmps)=false:=by
 have bE:bx <n:=Nat.le_of_ble_eq_true aJ
 have h:=af.get bx _ aq
 have ao:=af.size
 have aa:a.tmps[bx]? =some undef:=by
  rw [Array.getElem?_eq_getElem (by omega)]
  simpa [Array.getD_eq_getD_getElem?,ao,bE] using h
 simp [Region.wanted,ax,yielded,aI,aa,undef]
theorem e8 (hw:Region.wanted o (yielded ops a.tmps)=false) (af:Fr n l a) (aM:o.dst=some d) (aJ:Nat.blt d n=true) (k:∀ aX,Fr n ((d,undef)::l) aX->wpList P ops Q rest aX w):wpList P ops Q (o::rest) a w:=by
 refine wpList_step fun K cG=>?_
 rw [if_neg (by simp [hw]),aM]
 exact cG _ _ (k _ (af.put aJ))
def Cd (a:Act):List Operand->List Value->Prop
 | [],[]=>True
 | x::xs,v::vs=>a.eval x=v/\Cd a xs vs
 | _,_=>False
theorem PZ:∀ {xs:List Operand} {vs:List Value},Cd a xs vs->xs.map a.eval=vs
 | [],[],_=>rfl
 | x::xs,v::vs,h=>by rw [List.map_cons,h.1,PZ h.2]
theorem aCC {f:FuncId} {xs:List Operand} {mg:Array TypeId} {vs:List Value} {R:Ending->World->Prop} {K:Act->World->Prop}
 (av:o.op= .call { callee:=.value (.func f),args:=xs.toArray,argTypes:=mg }) (Fp:∀ args w,(callFunc f args).run P w= .ok (.enter f args) w)
 (jt:Cd a xs vs) (hc:Calls P f vs.toArray w R) (k:∀ e w',R e w'-> ∃ v,e= .returned v/\K (a.put o.dst v) w'):o.wp P a w K Q:=by
 unfold Oper.wp
 have e:(execOp a.eval o).run P w= .ok (.enter f vs.toArray) w:=by
  have I:=PZ jt
  simp only [execOp,av,resolve,List.map_toArray,I]
  simp [go_sem,Act.eval,Deferred.ofValue,invoke,Fp]
 rw [e]
 exact hc.mono fun e w' aE=>by
  obtain ⟨v,rfl,aj⟩:=k e w' aE
  exact aj
theorem Hd {f:FuncId} {xs:List Operand} {mg:Array TypeId} {vs:List Value} {R:Ending->World->Prop} (hw:Region.wanted o (yielded ops a.tmps)=true)
 (av:o.op= .call { callee:=.value (.func f),args:=xs.toArray,argTypes:=mg }) (Fp:∀ args w,(callFunc f args).run P w= .ok (.enter f args) w)
 (jt:Cd a xs vs) (hc:Calls P f vs.toArray w R) (af:Fr n l a) (aM:o.dst=some d) (aJ:Nat.blt d n=true)
 (k:∀ e w',R e w'-> ∃ v,e= .returned v/\ ∀ aX,Fr n ((d,v)::l) aX->wpList P ops Q rest aX w'):wpList P ops Q (o::rest) a w:=by
 refine wpList_step fun K cG=>?_
 rw [if_pos hw]
 refine aCC av Fp jt hc fun e w' aE=>?_
 obtain ⟨v,he,aj⟩:=k e w' aE
 rw [aM]
 exact ⟨v,he,cG _ _ (aj _ (af.put aJ))⟩
end
section
variable {P:Program} {Q:Exit->Act->World->Prop} {a:Act} {w:World}
theorem O8 {c:Code} (iP:Nat->Act->World->Prop) (k:Nat) (h:iP k a w) (aQ:∀ a w,¬ iP 0 a w)
 (round:∀ k a w,iP (k+ 1) a w-> ∀ K:Act->World->Prop,(∀ a w,iP k a w->K a w)->c.wp P (Exit.then K Q) a w):(Code.loop c).wp P Q a w:=
 wp_loop_ghost iP k h fun m a w kR=>by
  cases m with
  | zero=>exact absurd kR (aQ a w)
  | succ m=>exact round m a w kR _ fun aX w' h'=>⟨m,Nat.lt_succ_self m,h'⟩
theorem aAf {fn:Func} {R:Ending->World->Prop} {n:Nat} {l:List (Nat × Value)} (aE:fn.results= #[]) (af:Fr ⟨n,[]⟩ l a) (h:R (.returned (.tuple #[])) w):bodyPost P fn R .ret a w:=
 ⟨af.defers,_,results_none aE _ _ _,h⟩
theorem GZ {fn:Func} {R:Ending->World->Prop} {n:Nat} {t:Nat} {l:List (Nat × Value)} {v:Value} (aE:fn.results= #[.tmp t]) (af:Fr ⟨n,[]⟩ l a) (aq:ep l t=some v) (h:R (.returned v) w):bodyPost P fn R .ret a w:=
 ⟨af.defers,_,results_tmp aE _ _ _,by rw [af.get _ _ aq];exact h⟩
def Vi (P:Program) (a:Act) (w:World):ResultVar->Value->Prop
 | .tmp t,v=>a.tmps.getD t undef=v
 | .cell dY ty,v=>∃ b p,a.tmps.getD dY undef= .pointer (some ⟨b,p,none⟩) /\
  ((∃ cs:List Value,(∀ w,(isAgg ty).run P w= .ok true w)/\(∀ w,(Go.sizeOf ty).run P w= .ok cs.length w)/\e5 w ⟨b,p,none⟩ cs/\v= .agg cs.toArray) \/
   ((∀ w,(isAgg ty).run P w= .ok false w)/\w.cell? ⟨b,p,none⟩=some v))
def Md (P:Program) (a:Act) (w:World):List ResultVar->List Value->Prop
 | [],[]=>True
 | r::rs,v::vs=>Vi P a w r v/\Md P a w rs vs
 | _,_=>False
def pack:List Value->Value
 | [v]=>v
 | vs=>.tuple vs.toArray
def Mc (a:Act):ResultVar->Sem Value
 | .tmp t=>pure (a.tmps.getD t undef)
 | .cell dY t=>do loadVar t (<-asAddr (a.tmps.getD dY undef))
theorem aBs {r:ResultVar} {v:Value} (h:Vi P a w r v):(Mc a r).run P w= .ok v w:=by
 cases r with
 | tmp t=>exact congrArg (fun x=>Result.ok x w) h
 | cell dY ty=>
   obtain ⟨b,p,I,aa⟩:=h
   simp only [Mc,I]
   rcases aa with ⟨cs,ax,ao,hc,rfl⟩ | ⟨ax,hc⟩
   · have aq:=run_loadCells_list (P:=P) w ⟨b,p,none⟩ cs (fun j u aI=>by rw [j9];exact hc j u aI)
     unfold loadCells at aq
     simp [go_sem,loadVar,asAddr,ax,ao,aq]
   · simp [go_sem,loadVar,asAddr,ax,hc]
theorem afx:∀ {rs:List ResultVar} {vs:List Value},Md P a w rs vs->(rs.mapM (Mc a)).run P w= .ok vs w
 | [],[],_=>rfl
 | r::rs,v::vs,h=>by
   have I:=aBs h.1
   have aa:=afx h.2
   rw [List.mapM_cons]
   simp only [Sem.run_bind,I,aa,Result.andThen_ok]
   rfl
theorem aAd {fn:Func} {R:Ending->World->Prop} {n:Nat} {l:List (Nat × Value)} {rs:List ResultVar} {vs:List Value} (aE:fn.results=rs.toArray) (af:Fr ⟨n,[]⟩ l a) (ah:Md P a w rs vs)
 (h:R (.returned (pack vs)) w):bodyPost P fn R .ret a w:=by
 refine ⟨af.defers,pack vs,?_,h⟩
 have I:=afx ah
 unfold results
 have e:(fun x=>match x with | .tmp t=>pure (a.tmps.getD t undef) | .cell dY t=>do loadVar t (<-asAddr (a.tmps.getD dY undef)):ResultVar->Sem Value)=Mc a:=by
  funext x;cases x <;> rfl
 rw [aE,List.mapM_toArray]
 simp only [Sem.run_bind]
 show Result.andThen (((List.toArray <$> rs.mapM (fun x=>match x with | .tmp t=>pure (a.tmps.getD t undef) | .cell dY t=>do loadVar t (<-asAddr (a.tmps.getD dY undef)):ResultVar->Sem Value))).run P w) _=_
 rw [e,map_eq_pure_bind,Sem.run_bind,I]
 match vs with
 | []=>rfl
 | [v]=>rfl
 | v::u::r=>rfl
end
section
variable {P:Program} {ops:Array Oper} {Q:Exit->Act->World->Prop} {a:Act} {w:World} {rest:List Oper} {o:Oper} {n:cE} {d:Nat} {l:List (Nat × Value)}
 {W:World} {M0 X:List Nat} {E:List a7} {D:List bB}
theorem bs.new (hm:bs W M0 X w E D) (t:TypeId) (cs:List Value):bs W M0 X (w.alloc (.cells cs.toArray t)) (a7.dU w.heap.size t cs::E) D:=
 hm.push _ (bp.alloc _ _ _) (an9 w t cs) (fun k aj=>by simp [a7.dU] at aj;subst aj;exact ⟨Nat.le_refl _,by simp⟩) (by simp [a7.dU])
theorem uE {g p sz:Nat} {t tb:TypeId} {x y:Operand} {cs vs:List Value} {v:Value} (i:Nat) (hm:bs W M0 X w E D) (hi:E[i]? =some (a7.dU g tb cs)) (hw:Region.wanted o (yielded ops a.tmps)=true)
 (ah:v.cells=vs.toArray) (ao:∀ w,(Go.sizeOf t).run P w= .ok sz w) (aq:Nat.beq vs.length sz=true) (I:vs.all (·.oneCell')=true) (hle:Nat.ble (p+vs.length) cs.length=true)
 (av:o.op= .store t x y) (ad:a.eval x= .pointer (some ⟨g,p,none⟩)) (hy:a.eval y=v) (aM:o.dst=none)
 (k:∀ w',bs W M0 X w' (E.set i (a7.dU g tb (lay cs p vs))) D->wpList P ops Q rest a w'):wpList P ops Q (o::rest) a w:=by
 obtain ⟨w',I,aa,aw⟩:=XB ah ao aq I hle (hm.e i hi) av ad hy
 exact iC hw I aM (k w' (hm.MB i hi aa aw (by simp [a7.dU]) (fun k aj=>.inl aj)))
theorem bs.Gw {α:Type} (hm:bs W M0 X w E D) (e:TypeId) (size:Nat):bs W M0 X w (a7.row e size (.slice none 0 0) ([]:List α) []::E) D:=
 hm.push _ (bp.refl _ _) (World.ownsRow_nil w 0 e size) (fun k aj=>by simp [a7.row,Value.ownBlock] at aj) (by simp [a7.row,Value.ownBlock])
theorem ayf (o:Option Nat):o.toList.Nodup:=by cases o <;> simp
theorem aco {e:TypeId} {z:Value} {sz bytes:Nat} (h:(P.info? e).map (fun i=>(i.zero,i.size,i.bytes))=some (some z,sz,bytes)):∃ i,P.info? e=some i/\i.zero=some z/\i.size=sz/\i.bytes=bytes:=by
 cases hi:P.info? e with
 | none=>rw [hi] at h;cases h
 | some i=>
   rw [hi] at h
   simp only [Option.map_some,Option.some.injEq,Prod.mk.injEq] at h
   exact ⟨i,rfl,h.1,h.2.1,h.2.2⟩
end
end au
namespace au
open Go Go.RowKit J
section
variable {P:Program} {ops:Array Oper} {C:World->Prop} {pd:Act->Prop} {a:Act} {w:World} {rest:List Oper} {o:Oper} {n:cE} {d:Nat} {l:List (Nat × Value)} {v:Value}
theorem qs (hw:Region.wanted o (yielded ops a.tmps)=false) (af:Fr n l a) (aM:o.dst=some d) (aJ:Nat.blt d n=true) (k:∀ aX,Fr n ((d,undef)::l) aX->wpQuiet P ops C pd rest aX):wpQuiet P ops C pd (o::rest) a:=by
 unfold wpQuiet
 rw [if_neg (by simp [hw]),aM]
 exact k _ (af.put aJ)
theorem aoC {id:Nat} {Q:Exit->Act->World->Prop} {l:List Oper} (hm:P.follows .mixedOrders=true) (bO:Region.lexB .any l.toArray=true)
 (h:wpQuiet P l.toArray (fun w'=>bp [] w w') (fun a=>∀ w',bp [] w w'->Q .normal a w') l a):(Code.region id l.toArray true).wp P Q a w:=
 wp_region_quiet (C:=fun w'=>bp [] w w') hm bO (bp.drew [] w) (by
  refine Eq.mp ?_ h
  rw [List.toList_toArray]) |> fun h=>wp_mono h (fun e a w q=>q)
end
theorem aq9 {w w':World} {p:Addr} {v:Value} (h:bp [] w w') (hc:w.cell? p=some v):w'.cell? p=some v:=
 (World.cell?_of_block (h.block p.block (World.block_lt_of_cell? w p hc) (by simp))).trans hc
theorem Cc {w w':World} {p:Addr} {cs:List Value} (h:bp [] w w') (hc:e5 w p cs):e5 w' p cs:=fun j u aI=>aq9 h (hc j u aI)
section
variable {P:Program} {Q:Exit->Act->World->Prop} {K:Act->World->Prop} {a:Act} {w:World}
theorem qI {i:Nat} (h:Q (.exit i) a w):Exit.then K Q (.exit i) a w:=h
theorem D9 {i:Nat} (h:Q .normal a w):Exit.inBlock i Q (.exit i) a w:=by simpa [Exit.inBlock] using h
theorem Nz (h:Q .ret a w):Exit.then K Q .ret a w:=h
theorem ajs {i:Nat} (h:Q .ret a w):Exit.inBlock i Q .ret a w:=h
theorem Ji {id:Nat} {c:Code} (m7:Act->World->Prop) (ad:∀ K:Act->World->Prop,(∀ a w,m7 a w->K a w)->c.wp P (Exit.inBlock id (Exit.then K Q)) a w) (hy:∀ a w,m7 a w->Q .normal a w):(Code.block id c).wp P Q a w:=by
 refine wp_block (wp_mono (ad _ hy) ?_)
 intro e a w h
 cases e with
 | exit i=>
   by_cases hi:i=id
   · simpa [Exit.inBlock,Exit.then,hi] using h
   · simpa [Exit.inBlock,Exit.then,hi] using h
 | _=>exact h
theorem nd {id:Nat} {l:List Oper} (h:wpList P l.toArray Q l a w):(Code.region id l.toArray false).wp P Q a w:=wp_region_lit h
end
section
variable {W w:World} {M0 X:List Nat} {E:List a7} {D:List bB}
def LM (D:List bB):List bB->Prop
 | []=>True
 | y::r=>(∃ i:Nat,D[i]? =some y)/\LM D r
theorem aen {D:List bB}:∀ {fV:List bB},LM D fV-> ∀ y ∈ fV,y ∈ D
 | [],_,y,hy=>by simp at hy
 | z::r,h,y,hy=>by
   rcases List.mem_cons.1 hy with rfl | e
   · obtain ⟨i,hi⟩:=h.1;exact List.mem_of_getElem? hi
   · exact aen h.2 y e
theorem bs.pick (h:bs W M0 X w E D) {fV:List bB} (ao:LM D fV):bs W M0 X w E fV:=h.less (aen ao)
theorem bs.aaB (h:bs W [] X w E D):bp [] W w:=h.bV
theorem bs.JE (h:bs W M0 X w E D) (i:Nat):bs W M0 X w (E.eraseIdx i) D:=h.drop (List.eraseIdx_sublist E i)
theorem bs.freeze {α:Type} {T:cY α} {e:TypeId} {A:Option Addr} {n c:Nat} {l:List α} {xs:List Value} (h:bs W M0 X w E D) (i j:Nat) (hi:E[i]? =some (a7.row e T.size (.slice A n c) l xs)) (aI:D[j]? =some (bB.rows T xs l)) :
 bs W M0 X w (E.eraseIdx i) (bB.of (b4 T) [.slice A n c] l::D):=by
 have I:=h.JE i
 refine I.more (aA' (h.e i hi) (I.d j aI) ?_)
 intro k aj cN
 rcases List.mem_append.1 cN with ak | ak
 · have bE:=h.hf k ak
   rcases (h.lt k (List.mem_flatMap.2 ⟨_,List.mem_of_getElem? hi,aj⟩)).2 with al | al
   · exact bE.2 al
   · omega
 · obtain ⟨aq,ad⟩:=List.getElem?_eq_some_iff.1 hi
   have a3:E=E.take i++E[i]::E.drop (i+ 1):=by simp
   have aM:=h.bx
   rw [a3,ad] at aM
   have al:bW (E.take i++a7.row e T.size (.slice A n c) l xs::E.drop (i+ 1))=bW (E.take i)++((a7.row e T.size (.slice A n c) l xs).bA++bW (E.drop (i+ 1))):=by simp [bW]
   rw [al,List.nodup_append,List.nodup_append] at aM
   rw [List.eraseIdx_eq_take_drop_succ] at ak
   rcases List.mem_append.1 (by simpa [bW] using ak:k ∈ bW (E.take i)++bW (E.drop (i+ 1))) with aV | aV
   · exact aM.2.2 k aV k (List.mem_append.2 (.inl aj)) rfl
   · exact aM.2.1.2.2 k aj k aV rfl
theorem bs.aaW {g:Nat} {t:TypeId} {cs:List Value} (h:bs W M0 X w E D) (i:Nat) (hi:E[i]? =some (a7.dU g t cs)):bs W M0 X w (E.eraseIdx i) (bB.ik g cs::D):=by
 have I:=h.JE i
 refine I.more ⟨?_,EM (h.e i hi),fun j u aI=>?_⟩
 · intro cN
   have aj:g ∈ (a7.dU g t cs).bA:=by simp [a7.dU]
   rcases List.mem_append.1 cN with ak | ak
   · have bE:=h.hf g ak
     rcases (h.lt g (List.mem_flatMap.2 ⟨_,List.mem_of_getElem? hi,aj⟩)).2 with al | al
     · exact bE.2 al
     · omega
   · obtain ⟨aq,ad⟩:=List.getElem?_eq_some_iff.1 hi
     have a3:E=E.take i++E[i]::E.drop (i+ 1):=by simp
     have aM:=h.bx
     rw [a3,ad] at aM
     have al:bW (E.take i++a7.dU g t cs::E.drop (i+ 1))=bW (E.take i)++((a7.dU g t cs).bA++bW (E.drop (i+ 1))):=by simp [bW]
     rw [al,List.nodup_append,List.nodup_append] at aM
     rw [List.eraseIdx_eq_take_drop_succ] at ak
     rcases List.mem_append.1 (by simpa [bW] using ak:g ∈ bW (E.take i)++bW (E.drop (i+ 1))) with aV | aV
     · exact aM.2.2 g aV g (List.mem_append.2 (.inl aj)) rfl
     · exact aM.2.1.2.2 g aj g aV rfl
 · have:=vF (h.e i hi) aI
   simpa using this
end
end au
namespace au
open Go Go.RowKit J
def dJ (n:Nat):List Nat->Array Bool
 | []=>Array.replicate n false
 | i::d=>(dJ n d).setIfInBounds i true
def BF (K:Act->World->Prop) (Q:Exit->Act->World->Prop):Exit->Act->World->Prop
 | .normal,a,w=>K a w
 | e,a,w=>Q e a w
section
variable {P:Program} {ops:Array Oper} {Q:Exit->Act->World->Prop} {a:Act} {w:World} {o:Oper} {n:cE} {f d i:Nat} {ds:List Nat} {l:List (Nat × Value)} {v:Value}
def Mx (ops:Array Oper) (ds:List Nat) (i:Nat):Bool:=Region.noSelect ops && Region.free .any ops (dJ ops.size ds) i && (Region.ready .any ops (dJ ops.size ds)).contains i
theorem aCB {K:Act->World->Prop} {Q:Exit->Act->World->Prop} (h:o.wp P a w K (BF K Q)):o.wp P a w K Q:=by
 unfold Oper.wp at *
 generalize (execOp a.eval o).run P w=r at *
 cases r with
 | ok n w'=>
   cases n <;> simp only [Oper.upon] at h ⊢ <;>
    first
     | exact h
     | exact Calls.mono h (fun e w'' he=>by cases e <;> first | exact he | exact he)
 | halt x w'=>cases x <;> simp only [Oper.upon] at h ⊢ <;> exact h
theorem V2 {K:Act->World->Prop} (hi:ops[i]? =some o) (h:wpList P ops (BF K (NoPanic Q)) [o] a w):wpOp P ops (NoPanic Q) i K a w:=by
 unfold wpOp
 simp only [hi]
 unfold wpList at h
 split at h
 · rename_i hw
   rw [if_pos hw]
   rcases h with h | ⟨I,aa⟩
   · exact .inl (aCB h)
   · exact .inr ⟨I,aa.elim fun a h=>h.elim fun w h=>⟨a,w,h⟩⟩
 · rename_i hw
   rw [if_neg hw]
   exact h
end
section
variable {P:Program} {o:Oper} {a:Act} {w:World} {t t':TypeId} {x y:Operand} {ca:Array Go.Field} {xs ys:Array Value} {b:Bool}
theorem NK (aO:P.underlying t=some (.struct ca)) (aN:P.stoodInHeld t=false) (hm:P.eqGuardType P.depth t=false)
 (aE:(Op.eqFields 9999 xs ys ca.toList).run P w= .ok b w) (av:o.op= .binOp .eql t x y t') (ad:a.eval x= .agg xs) (hy:a.eval y= .agg ys):bb P o a w (.bool b) w:=by
 have af:P.fieldsOf t=ca:=by simp [Program.fieldsOf,aO]
 have h:=run_equalIn_struct (P:=P) w 9999 t xs ys (by rw [af];exact aO) aN
 rw [af,aE] at h
 have h:(Op.equalIn 10000 t (Value.agg xs) (Value.agg ys)).run P w= .ok b w:=h
 simp only [bb,execOp,av,ad,hy]
 simp [go_sem,Op.equal,Op.maxDepth,h,run_eqGuard_agg w _ _ _ _ _ _ hm]
theorem NL (aO:P.underlying t=some (.struct ca)) (aN:P.stoodInHeld t=false) (hm:P.eqGuardType P.depth t=false)
 (aE:(Op.eqFields 9999 xs ys ca.toList).run P w= .ok b w) (av:o.op= .binOp .neq t x y t') (ad:a.eval x= .agg xs) (hy:a.eval y= .agg ys):bb P o a w (.bool (!b)) w:=by
 have af:P.fieldsOf t=ca:=by simp [Program.fieldsOf,aO]
 have h:=run_equalIn_struct (P:=P) w 9999 t xs ys (by rw [af];exact aO) aN
 rw [af,aE] at h
 have h:(Op.equalIn 10000 t (Value.agg xs) (Value.agg ys)).run P w= .ok b w:=h
 simp only [bb,execOp,av,ad,hy]
 simp [go_sem,Op.equal,Op.maxDepth,h,run_eqGuard_agg w _ _ _ _ _ _ hm]
theorem q4 {d:Nat}:(Op.eqFields d xs ys []).run P w= .ok true w:=rfl
theorem mr {d:Nat} {f:Go.Field} {l:List Go.Field} {k:IntKind} {m n:Int} {e:Prop} [Decidable e] (aJ:(f.name != "_")=true) (hu:P.underlying f.type=some (.int k)) (ax:∀ w,(isAgg f.type).run P w= .ok false w)
 (ad:xs[f.offset]? =some (.int k m)) (hy:ys[f.offset]? =some (.int k n)) (h:(Op.eqFields (d+ 1) xs ys l).run P w= .ok (decide e) w):(Op.eqFields (d+ 1) xs ys (f::l)).run P w= .ok (decide (m=n/\e)) w:=by
 have pQ:f.name≠ "_" :=by simpa using aJ
 simp only [Op.eqFields,pQ,if_true,ne_eq,not_false_iff,part,Sem.run_bind,ax,Result.andThen_ok,ad,hy,Bool.false_eq_true,if_false,Sem.run_pure,run_equalIn_int w d f.type k k m n hu]
 by_cases tu:m=n
 · subst tu;simp [h]
 · simp [tu,show (m == n)=false from by simpa using tu]
end
end au
namespace au
open Go Go.RowKit Go.ChangeShapes Go.WideShapes Go.Deep J
section
variable {H:Type} {enc:TypeId × Value->H} {P:Program}
theorem YY (aq:laidOutB P=true) {W jn:World} {g1:Nat->Bool}:∀ {uG:List TypeId} {vs:List Value} {ds:List (DataW H)} {ps:List MemPlace},DataW.TrodAll enc P W 0 (fun _=>true) true uG vs ds ps ->
 (uG.all fun t=>P.readableRec t && Nat.blt t P.types.size)=true->(∀ p ∈ ps,W.sameAt jn p)->(∀ p ∈ ps,g1 p.block=true)->DataW.TrodAll enc P jn 0 g1 true uG vs ds ps
 | [],vs,ds,ps,h,_,_,_=>by obtain ⟨rfl,rfl,rfl⟩:=trodAll_nil h;exact trodAll_mk0
 | t::uG,vs,ds,ps,h,aE,ao,aN=>by
   obtain ⟨v,DB,d,aGK,p,q,rfl,rfl,rfl,aQ,I⟩:=trodAll_cons h
   simp only [List.all_cons,Bool.and_eq_true] at aE
   exact trodAll_cons_mk (WideElems.Trod_stays aq aE.1.1 (Nat.le_of_ble_eq_true aE.1.2) aQ (fun x ad=>ao x (List.mem_append_left _ ad)) (fun x ad=>aN x (List.mem_append_left _ ad)))
    (YY aq I aE.2 (fun x ad=>ao x (List.mem_append_right _ ad)) (fun x ad=>aN x (List.mem_append_right _ ad)))
theorem ayu {f:Func} {s:ChangeSpec} {W jn:World} {args:Array Value} {ds gs:List (DataW H)} {before:List MemPlace} {tb:TypeId}
 (h3:DataW.Whole enc P f.params.toList s.vars false W args.toList ds gs before) (aq:laidOutB P=true) (aE:(f.params.toList.all fun t=>P.readableRec t && Nat.blt t P.types.size)=true)
 (ah:s.vars= []) (fM:s.fn H ds= { results:=[.lit (.bool true)],args:=ds }) (ag:P.underlying tb=some .bool) (ab7:f.resultTypes= #[tb]) (im:bp [] W jn) :
 s.post enc P f false true false false W args (.bool true) jn:=by
 have tc:=im.below
 have bE:∀ p ∈ before,p.block <W.heap.size:=fun p aN=>h3.lt p aN
 have asq:=h3
 obtain ⟨p,q,dl,oq,CD,ai,aJ⟩:=h3
 rw [ah] at oq
 obtain ⟨rfl,rfl⟩:=trodVars_none oq
 simp only [List.append_nil] at CD
 subst CD
 have hold:∀ x ∈ before,(fun b=>decide (b <W.heap.size)) x.block=true:=fun x ad=>by simpa using bE x ad
 have Rj:∀ g1:Nat->Bool,(∀ x ∈ before,g1 x.block=true)->DataW.TrodAll enc P jn 0 g1 true f.params.toList args.toList ds before:=
  fun g1 zM=>YY aq dl aE (fun x ad=>tc.same (bE x ad)) zM
 have FV:∀ (b:Nat) (g1:Nat->Bool) (aM:Bool),DataW.TrodAll enc P jn b g1 aM f.resultTypes.toList ((Value.bool true).resultList f.resultTypes.size) [.lit (.bool true)] []:=fun b g1 aM=>by
  rw [ab7];exact trodAll_cons_mk (p:=[]) (shut_bool ag true) trodAll_mk0
 have KE:∀ g1:Nat->Bool,DataW.TrodVars enc P jn g1 s.vars [] []:=fun g1=>by rw [ah];rfl
 refine ⟨ds,[],before,[],before,[],asq,?_,?_,?_,World.keptBut_mono (fun x ad=>⟨ad,Or.inr (by simpa using ad)⟩) (tc.frame (· ∈ before)),fun _=>?_⟩
 · simp only [List.append_nil,fM];exact FV _ _ _
 · simp only [List.append_nil,fM];exact Rj _ hold
 · simp only [List.append_nil,fM];exact KE _
 · refine ⟨ok_one ab7 rfl (okWide_bool_mk ag true),_,_,([]++before)++[],⟨[]++before,[],trodAll_append (Rj (fun _=>true) (fun _ _=>rfl)) (FV _ _ _),KE _,rfl,?_,?_⟩,?_⟩
   · intro b off aN
     have fN:MemPlace.cell b off ∈ before:=by simpa using aN
     rw [tc.frozen (bE _ fN)]
     exact ai b off fN
   · intro aK;simpa using aJ aK
   · intro x ad _;simpa using ad
theorem afw {α:Type} {T:cY α} {F:Nat->Prop} {W:World} {b o:Nat} {R:α->Prop}:∀ m:Nat,(∀ i,i <m-> ∃ cs d,e5 W ⟨b,o+i*T.size,none⟩ cs/\T.rd F W cs d/\R d) ->
 ∃ (l:List α) (xs:List Value),l.length=m/\dS T F W xs l/\e5 W ⟨b,o,none⟩ xs/\ ∀ d ∈ l,R d
 | 0,_=>⟨[],[],rfl,rfl,fun j u aI=>by simp at aI,fun d aM=>by cases aM⟩
 | m+ 1,h=>by
   obtain ⟨l,xs,I,aa,aw,bi⟩:=afw m (fun i hi=>h i (by omega))
   obtain ⟨cs,d,c1,c2,c3⟩:=h m (by omega)
   refine ⟨l++[d],xs++cs,by simp [I],aeZ (T:=T) c2 aa,fun j u aI=>?_,fun e he=>?_⟩
   · have aq:=uz (T:=T) aa
     rcases Nat.lt_or_ge j xs.length with bE | Ko
     · exact aw j u (by simpa [List.getElem?_append,bE] using aI)
     · rw [List.getElem?_append_right Ko] at aI
       have:=c1 (j - xs.length) u aI
       rw [aq,I] at this
       rw [show o+j=o+m*T.size+(j - m*T.size) by rw [aq,I] at Ko;omega]
       simpa using this
   · rcases List.mem_append.1 he with ak | ak
     · exact bi e ak
     · simp at ak;subst ak;exact c3
end
end au
namespace au
open Go Go.RowKit Go.ChangeShapes Go.WideShapes Go.Deep J
def g6 {H:Type} (P:Program) (enc:TypeId × Value->H) (N:Nat) (t:TypeId) {α:Type} (T:cY α) (R:α->Prop):Prop:=
 ∀ (W:World) (n:Nat) (cs:List Value) (x:DataW H × List MemPlace),DataW.trod enc P W 0 (fun _=>true) true n t cs=some x->(∀ p ∈ x.2,p.block <W.heap.size)->(∀ m ∈ x.1.weights P t,m<=N)-> ∃ d,T.rd (hI [] W) W cs d/\R d
def iQ (n:Int):Prop:=-9223372036854775808 <=n/\n<= 9223372036854775807
section
variable {H:Type} {enc:TypeId × Value->H} {P:Program} {N:Nat} {t e:TypeId}
theorem xh (aO:P.underlying t=some .string):g6 P enc N t iD (fun s=>s.length<=N):=by
 intro W n cs x h _ hw
 obtain ⟨s,rfl,rfl,_⟩:=DataW.trod_string aO h
 exact ⟨s.data.toList,rfl,hw _ (by simp [DataW.weights])⟩
theorem mS (aO:P.underlying t=some (.int .i64)):g6 P enc N t (e3 .i64) iQ:=by
 intro W n cs x h _ _
 obtain ⟨z,rfl,_,ai⟩:=DataW.trod_int aO h
 exact ⟨z,rfl,by simpa [iQ,Lit.wf,IntKind.min,IntKind.max,IntKind.signed,IntKind.bits] using ai⟩
theorem aAL (aO:P.underlying t=some .bool):g6 P enc N t aB4 (fun _=>True):=by
 intro W n cs x h _ _
 obtain ⟨b,rfl,_⟩:=DataW.trod_bool aO h
 exact ⟨b,rfl,trivial⟩
theorem adx {d:DataW H} {m:Nat} (hm:m ∈ d.weights P e):∀ {l:List (DataW H)},d ∈ l->m ∈ DataW.weightsAll P e l
 | [],h=>by cases h
 | x::r,h=>by
   simp only [DataW.weightsAll,List.mem_append]
   rcases List.mem_cons.1 h with rfl | h
   · exact .inl hm
   · exact .inr (adx hm h)
theorem qi {α:Type} {T:cY α} {R:α->Prop} (aO:P.underlying t=some (.slice e)) (d_:P.cellsOf e=T.size) (gS:Nat.blt 0 T.size=true) (Fq:g6 P enc N e T R):g6 P enc N t (b4 T) (fun l=>l.length*P.bytesOf e<=N/\ ∀ d ∈ l,R d):=by
 have gS:0 <T.size:=Nat.le_of_ble_eq_true gS
 intro W n cs x h aN hw
 rcases open_slice aO h with ⟨rfl,rfl⟩ | ⟨a,t_,cap,m,fE,D,anU,rfl,_,aq,hm,CB,ad,hi⟩
 · exact ⟨[],⟨none,0,rfl,Nat.le_refl _,Nat.zero_le _,fun _=>rfl,fun h=>absurd rfl h⟩,by simp,fun d aM=>by cases aM⟩
 · have dH:m=cap:=by simpa using CB
   subst dH
   have ab4:x.2 =MemPlace.row a (m*P.cellsOf e)++(List.range m).flatMap anU:=congrArg Prod.snd ad
   have abI:x.1 = .slice ((List.range t_).map D) ((List.range (m - t_)).map fun j=>D (t_+j)):=congrArg Prod.fst ad
   have wl:(t_+(m - t_))*P.bytesOf e<=N:=by
    refine hw _ ?_
    rw [abI]
    simp only [DataW.weights,aO,List.length_map,List.length_range]
    exact List.mem_cons_self
   have hlen:t_*P.bytesOf e<=N:=Nat.le_trans (Nat.mul_le_mul_right _ (Nat.le_add_right _ _)) wl
   by_cases aQ:t_= 0
   · subst aQ
     exact ⟨[],⟨some a,m,rfl,by simp,hm,fun h=>(by cases h),fun h=>absurd rfl h⟩,by simp,fun d aM=>by cases aM⟩
   · have il:∀ i,i <t_-> ∃ cs d,(∀ j u,cs[j]? =some u->W.cell? (a.add (i*T.size+j))=some u)/\cs.length=T.size/\T.rd (hI [] W) W cs d/\R d:=fun i c'=>by
      have abR:i <m:=by omega
      obtain ⟨jL,hc,tz⟩:=hi i abR
      obtain ⟨d,aM,eH⟩:=Fq W fE jL _ tz (fun p R3=>aN p (by
       rw [ab4,List.mem_append]
       exact .inr (List.mem_flatMap.2 ⟨i,by simpa using abR,R3⟩))) (fun k aj=>hw k (by
       rw [abI]
       simp only [DataW.weights,aO,List.mem_cons,List.mem_append]
       exact .inr (.inl (adx aj (List.mem_map.2 ⟨i,by simpa using c',rfl⟩)))))
      rw [d_] at hc
      obtain ⟨_,hB,v9⟩:=World.cells?_some hc
      refine ⟨jL,d,fun j u aI=>?_,hB,aM,eH⟩
      have tr:j <T.size:=by rw [<-hB];exact (List.getElem?_eq_some_iff.1 aI).1
      have:=v9 j tr
      rw [aI,Go.Deep.add_add] at this
      exact this
     have ab_:a.spot=none:=by
      obtain ⟨cs,d,I,aa,_⟩:=il 0 (by omega)
      have:=I 0 _ (List.getElem?_eq_getElem (by omega))
      unfold World.cell? at this
      split at this
      · split at this
        · cases this
        · rename_i ao;simpa [Addr.add] using ao
      · cases this
     obtain ⟨ab,Yq,aGA⟩:=a
     simp only at ab_
     subst ab_
     obtain ⟨l,xs,I,aa,aw,bi⟩:=afw (T:=T) (F:=hI [] W) (W:=W) (b:=ab) (o:=Yq) (R:=R) t_ (fun i c'=>by
      obtain ⟨cs,d,c1,_,c3,c4⟩:=il i c'
      exact ⟨cs,d,fun j u aI=>by have:=c1 j u aI;rw [j9] at this;simpa [Nat.add_assoc] using this,c3,c4⟩)
     subst I
     refine ⟨l,⟨_,m,rfl,aq,hm,fun h=>(by cases h),fun _=>⟨rfl,⟨by simp,?_⟩,xs,aa,aw⟩⟩,hlen,bi⟩
     have fN:MemPlace.cell ab Yq ∈ x.2 :=by
      rw [ab4,List.mem_append]
      left
      have:0 <m*P.cellsOf e:=Nat.mul_pos (by omega) (by omega)
      simp only [MemPlace.row,List.mem_map,List.mem_range]
      exact ⟨0,this,by simp⟩
     exact aN _ fN
theorem ady {m:Nat}:∀ {uG:List TypeId} {l:List (DataW H)} {j:Nat} {u:TypeId} {d:DataW H},uG[j]? =some u->l[j]? =some d->m ∈ d.weights P u->m ∈ DataW.weightsEach P uG l
 | [],_,j,_,_,h,_,_=>by simp at h
 | _::_,[],j,_,_,_,h,_=>by simp at h
 | t::uG,x::l,0,u,d,I,aa,hm=>by
   simp only [List.getElem?_cons_zero,Option.some.injEq] at I aa
   subst I;subst aa
   simp only [DataW.weightsEach,List.mem_append]
   exact .inl hm
 | t::uG,x::l,j+ 1,u,d,I,aa,hm=>by
   simp only [DataW.weightsEach,List.mem_append]
   exact .inr (ady (j:=j) (by simpa using I) (by simpa using aa) hm)
theorem nh {ca:Array Go.Field} {W:World} {n:Nat} {cs:List Value} {x:DataW H × List MemPlace} (aO:P.underlying t=some (.struct ca)) (h:DataW.trod enc P W 0 (fun _=>true) true n t cs=some x) (aN:∀ p ∈ x.2,p.block <W.heap.size) (hw:∀ m ∈ x.1.weights P t,m<=N) :
 ∃ fE,cs.length=P.cellsOf t/\ ∀ (j:Nat) (f:Go.Field),ca[j]? =some f-> ∃ y,DataW.trod enc P W 0 (fun _=>true) true fE f.type ((cs.drop f.offset).take (P.cellsOf f.type))=some y/\(∀ p ∈ y.2,p.block <W.heap.size)/\(∀ m ∈ y.1.weights P f.type,m<=N):=by
 obtain ⟨ys,fE,_,ad,aq,aG_,ax⟩:=DataW.trod_struct aO h
 refine ⟨fE,aq,fun j f aI=>?_⟩
 have tr:j <ca.size:=(Array.getElem?_eq_some_iff.1 aI).1
 have hy:ys[j]? =some (ys[j]'(by omega)):=List.getElem?_eq_getElem _
 refine ⟨ys[j]'(by omega),by rw [ax j f aI,hy],fun p R3=>aN p ?_,fun m hm=>hw m ?_⟩
 · rw [ad]
   exact List.mem_flatMap.2 ⟨_,List.getElem_mem _,R3⟩
 · rw [ad]
   simp only [DataW.weights,aO]
   refine ady (j:=j) (u:=f.type) (d:=(ys[j]'(by omega)).1) ?_ ?_ hm
   · rw [List.getElem?_map,Array.getElem?_toList,aI];rfl
   · rw [List.getElem?_map,hy];rfl
theorem fh {ca:Array Go.Field} {W:World} {fE:Nat} {cs:List Value} (af:∀ (j:Nat) (f:Go.Field),ca[j]? =some f-> ∃ y,DataW.trod enc P W 0 (fun _=>true) true fE f.type ((cs.drop f.offset).take (P.cellsOf f.type))=some y/\(∀ p ∈ y.2,p.block <W.heap.size)/\(∀ m ∈ y.1.weights P f.type,m<=N))
 (j:Nat) {f:Go.Field} (aI:ca[j]? =some f) {t off k:Nat} (aO:f.type=t) (av:f.offset=off) (aj:P.cellsOf t=k) {r:List Value} (aE:(cs.drop off).take k=r):∃ y,DataW.trod enc P W 0 (fun _=>true) true fE t r=some y/\(∀ p ∈ y.2,p.block <W.heap.size)/\(∀ m ∈ y.1.weights P t,m<=N):=by
 obtain ⟨y,I,aa,aw⟩:=af j f aI
 rw [aO,av] at I
 rw [aO] at aw
 rw [aj,aE] at I
 exact ⟨y,I,aa,aw⟩
theorem Ym {v:Array Value} {l:List Value} (h:(Value.agg v).cells.toList=l):v=l.toArray:=by
 have h:v.toList=l:=h
 rw [<-h]
theorem O0 {α:Type} {T:cY α} {R:α->Prop} {W:World} {v:Value} {d:DataW H} {ps:List MemPlace} (aE:g6 P enc N t T R) (h:DataW.Trod enc P W 0 (fun _=>true) true t v d ps) (aN:∀ p ∈ ps,p.block <W.heap.size) (hw:∀ m ∈ d.weights P t,m<=N):∃ d',T.rd (hI [] W) W v.cells.toList d'/\R d':=by
 obtain ⟨n,aJ⟩:=h
 exact aE W n _ _ aJ aN hw
end
end au
namespace au
open Go Go.RowKit J
inductive mf
 | i (k:IntKind)
 | b
 | s
 | ck
def mf.ok (P:Program) (t:TypeId):mf->Prop
 | .i k=>P.underlying t=some (.int k)
 | .b=>P.underlying t=some .bool
 | .s=>P.underlying t=some .string
 | .ck=>∃ e,P.underlying t=some (.slice e)
structure lh where
 mY:List (Nat × mf)
 nh:List (Nat × Nat × Nat)
 Hg:List (Nat × Option Nat)
def VP (P:Program):List (Nat × mf)->Prop
 | []=>True
 | p::r=>p.2.ok P p.1 /\VP P r
def On (P:Program) (s j off:Nat):Prop:=∃ ca f sz,P.underlying s=some (.struct ca)/\ca[j]? =some f/\f.offset=off/\sz≠ 0 /\ ∀ w,(Go.sizeOf f.type).run P w= .ok sz w
def P7 (P:Program):List (Nat × Nat × Nat)->Prop
 | []=>True
 | p::r=>On P p.1 p.2.1 p.2.2 /\P7 P r
def Yj (P:Program) (t:Nat):Option Nat->Prop
 | none=>∀ w,(isAgg t).run P w= .ok false w
 | some n=>(∀ w,(isAgg t).run P w= .ok true w)/\ ∀ w,(Go.sizeOf t).run P w= .ok n w
def Vx (P:Program):List (Nat × Option Nat)->Prop
 | []=>True
 | p::r=>Yj P p.1 p.2 /\Vx P r
structure qM (P:Program) (G:lh):Prop where
 mY:VP P G.mY
 nh:P7 P G.nh
 Hg:Vx P G.Hg
theorem eC {P:Program} {s j off sz:Nat} {ca:Array Go.Field} {f:Go.Field} (h:P.underlying s=some (.struct ca)) (af:ca[j]? =some f) (av:f.offset=off) (ao:∀ w,(Go.sizeOf f.type).run P w= .ok sz w) (aQ:Nat.beq sz 0 =false):On P s j off:=
 ⟨ca,f,sz,h,af,av,(fun e=>by subst e;simp at aQ),ao⟩
def nE {β:Type}:List (Nat × β)->Nat->Option β
 | [],_=>none
 | p::r,t=>match Nat.beq p.1 t with
   | true=>some p.2
   | false=>nE r t
def Gj:List (Nat × Nat × Nat)->Nat->Nat->Option Nat
 | [],_,_=>none
 | p::r,s,j=>match Nat.beq p.1 s && Nat.beq p.2.1 j with
   | true=>some p.2.2
   | false=>Gj r s j
theorem AM {P:Program} {l:List (Nat × mf)} (h:VP P l) {t:Nat} {k:mf} (aq:nE l t=some k):k.ok P t:=by
 induction l with
 | nil=>simp [nE] at aq
 | cons p r bq=>
   simp only [nE] at aq
   cases ag:Nat.beq p.1 t with
   | true=>
     rw [ag] at aq
     simp only [Option.some.injEq] at aq
     rw [<-Nat.eq_of_beq_eq_true ag,<-aq];exact h.1
   | false=>rw [ag] at aq;exact bq h.2 aq
theorem afO {P:Program} {l:List (Nat × Option Nat)} (h:Vx P l) {t:Nat} {k:Option Nat} (aq:nE l t=some k):Yj P t k:=by
 induction l with
 | nil=>simp [nE] at aq
 | cons p r bq=>
   simp only [nE] at aq
   cases ag:Nat.beq p.1 t with
   | true=>
     rw [ag] at aq
     simp only [Option.some.injEq] at aq
     rw [<-Nat.eq_of_beq_eq_true ag,<-aq];exact h.1
   | false=>rw [ag] at aq;exact bq h.2 aq
theorem ark {P:Program} {l:List (Nat × Nat × Nat)} (h:P7 P l) {s j off:Nat} (aq:Gj l s j=some off):On P s j off:=by
 induction l with
 | nil=>simp [Gj] at aq
 | cons p r bq=>
   simp only [Gj] at aq
   cases ag:Nat.beq p.1 s && Nat.beq p.2.1 j with
   | true=>
     rw [ag] at aq
     simp only [Option.some.injEq] at aq
     simp only [Bool.and_eq_true] at ag
     rw [<-Nat.eq_of_beq_eq_true ag.1,<-Nat.eq_of_beq_eq_true ag.2,<-aq];exact h.1
   | false=>rw [ag] at aq;exact bq h.2 aq
def i_ (w:World):List (Nat × Nat × List Value)->Prop
 | []=>True
 | m::r=>e5 w ⟨m.1,m.2.1,none⟩ m.2.2 /\i_ w r
theorem ga {w:World}:i_ w []:=trivial
theorem gJ {w:World} {b p:Nat} {cs:List Value} {M:List (Nat × Nat × List Value)} (h:e5 w ⟨b,p,none⟩ cs) (k:i_ w M):i_ w ((b,p,cs)::M):=⟨h,k⟩
theorem adv {w:World} {M:List (Nat × Nat × List Value)} (h:i_ w M) {i b p:Nat} {cs:List Value} (hi:M[i]? =some (b,p,cs)):e5 w ⟨b,p,none⟩ cs:=by
 induction M generalizing i with
 | nil=>simp at hi
 | cons m r bq=>
   cases i with
   | zero=>
     simp only [List.getElem?_cons_zero,Option.some.injEq] at hi
     subst hi
     exact h.1
   | succ i=>exact bq h.2 (by simpa using hi)
theorem j_ {w:World} {g:Nat} {t:TypeId} {cs:List Value} (h:(a7.dU g t cs).ok w):e5 w ⟨g,0,none⟩ cs:=fun j u aI=>by
 have:=vF h aI
 simpa using this
structure gr where
 t:Nat
 j:Nat
 want:Bool
 v:Value
def AG:List (Nat × Value)->Nat->List (Nat × Value)
 | [],_=>[]
 | p::r,d=>match Nat.beq p.1 d with
   | true=>AG r d
   | false=>p::AG r d
def qm:List gr->Nat->List gr
 | [],_=>[]
 | p::r,d=>match Nat.beq p.t d || Nat.beq p.j d with
   | true=>qm r d
   | false=>p::qm r d
def zz:List (Nat × Bool)->Nat->Bool->Bool
 | [],_,_=>false
 | p::r,j,b=>(Nat.beq p.1 j && (p.2 == b)) || zz r j b
def Gk:List gr->List (Nat × Bool)->Nat->Option Value
 | [],_,_=>none
 | p::r,cur,t=>match Nat.beq p.t t && zz cur p.j p.want with
   | true=>some p.v
   | false=>Gk r cur t
def lB (a:Act):List gr->Prop
 | []=>True
 | p::r=>(a.tmps.getD p.j undef= .bool p.want->a.tmps.getD p.t undef=p.v)/\lB a r
def iS (a:Act):List (Nat × Bool)->Prop
 | []=>True
 | p::r=>a.tmps.getD p.1 undef= .bool p.2 /\iS a r
theorem abB {a:Act} {cur:List (Nat × Bool)} (h:iS a cur) {j:Nat} {b:Bool} (bC:zz cur j b=true):a.tmps.getD j undef= .bool b:=by
 induction cur with
 | nil=>simp [zz] at bC
 | cons p r bq=>
   simp only [zz,Bool.or_eq_true,Bool.and_eq_true,beq_iff_eq] at bC
   rcases bC with ⟨I,aa⟩ | bC
   · rw [<-Nat.eq_of_beq_eq_true I,<-aa];exact h.1
   · exact bq h.2 bC
theorem awM {a:Act} {gs:List gr} (h:lB a gs) {cur:List (Nat × Bool)} (hc:iS a cur) {t:Nat} {v:Value} (aq:Gk gs cur t=some v):a.tmps.getD t undef=v:=by
 induction gs with
 | nil=>simp [Gk] at aq
 | cons p r bq=>
   simp only [Gk] at aq
   cases ag:Nat.beq p.t t && zz cur p.j p.want with
   | true=>
     rw [ag] at aq
     simp only [Option.some.injEq] at aq
     simp only [Bool.and_eq_true] at ag
     rw [<-Nat.eq_of_beq_eq_true ag.1,<-aq]
     exact h.1 (abB hc ag.2)
   | false=>rw [ag] at aq;exact bq h.2 aq
def hF (fr:List (Nat × Value)) (gs:List gr) (cur:List (Nat × Bool)):Operand->Option Value
 | .const v=>some v
 | .global g=>some (.pointer (some ⟨g,0,none⟩))
 | .tmp t=>match ep fr t with
   | some v=>some v
   | none=>Gk gs cur t
 | .func _=>none
theorem LF {n:cE} {fr:List (Nat × Value)} {gs:List gr} {cur:List (Nat × Bool)} {a:Act} (af:Fr n fr a) (ax:lB a gs) (hc:iS a cur) {x:Operand} {v:Value} (h:hF fr gs cur x=some v):a.eval x=v:=by
 cases x with
 | const u=>simp only [hF,Option.some.injEq] at h;rw [<-h];rfl
 | global g=>simp only [hF,Option.some.injEq] at h;rw [<-h];rfl
 | func f=>simp [hF] at h
 | tmp t=>
   simp only [hF] at h
   cases aq:ep fr t with
   | some u=>rw [aq] at h;simp only [Option.some.injEq] at h;rw [<-h];exact af.g aq
   | none=>rw [aq] at h;exact awM ax hc h
def C6 (fr:List (Nat × Value)) (gs:List gr) (cur:List (Nat × Bool)):List Operand->Option (List Value)
 | []=>some []
 | x::r=>match hF fr gs cur x,C6 fr gs cur r with
   | some v,some vs=>some (v::vs)
   | _,_=>none
theorem TH {n:cE} {fr:List (Nat × Value)} {gs:List gr} {cur:List (Nat × Bool)} {a:Act} (af:Fr n fr a) (ax:lB a gs) (hc:iS a cur):∀ {xs:List Operand} {vs:List Value},C6 fr gs cur xs=some vs->xs.map a.eval=vs
 | [],vs,h=>by simp only [C6,Option.some.injEq] at h;subst h;rfl
 | x::r,vs,h=>by
   simp only [C6] at h
   split at h
   · rename_i v us I aa
     simp only [Option.some.injEq] at h
     subst h
     rw [List.map_cons,LF af ax hc I,TH af ax hc aa]
   · cases h
def F7:Operand->Bool
 | .const (.int _ n)=>n != 0
 | _=>false
def lL:IntKind->IntKind->Bool
 | .i64,.i64 | .u8,.u8 | .i32,.i32 | .u64,.u64 | .u32,.u32 | .u16,.u16 | .i16,.i16 | .i8,.i8=>true
 | _,_=>false
theorem nz {j k:IntKind} (h:lL j k=true):j=k:=by cases j <;> cases k <;> simp_all [lL]
def kX (k:IntKind):Bool:=lL k .i64
theorem kY {k:IntKind} (h:kX k=true):k= .i64:=nz h
def YE (nB:Option mf) (gK:Bool) (op:BinOp) (j k:IntKind) (m n:Int):Option Value:=
 match op with
 | .add=>match kX j && kX k with | true=>some (.int .i64 (aA (m+n))) | false=>none
 | .sub=>match kX j && kX k with | true=>some (.int .i64 (aA (m - n))) | false=>none
 | .mul=>match kX j && kX k with | true=>some (.int .i64 (aA (m*n))) | false=>none
 | .quo=>match kX j && kX k && gK with | true=>some (.int .i64 (aA (m.tdiv n))) | false=>none
 | .rem=>match kX j && kX k && gK with | true=>some (.int .i64 (m.tmod n)) | false=>none
 | .or=>match kX j && kX k with | true=>some (.int .i64 (TL m n)) | false=>none
 | .and=>match kX j && kX k with | true=>some (.int .i64 (OZ m n)) | false=>none
 | .lss=>match lL j k with | true=>some (.bool (decide (m <n))) | false=>none
 | .leq=>match lL j k with | true=>some (.bool (decide (m<=n))) | false=>none
 | .gtr=>match lL j k with | true=>some (.bool (decide (n <m))) | false=>none
 | .geq=>match lL j k with | true=>some (.bool (decide (n<=m))) | false=>none
 | .eql=>match nB with
   | some (.i i)=>match lL i j && lL j k with | true=>some (.bool (decide (m=n))) | false=>none
   | _=>none
 | .neq=>match nB with
   | some (.i i)=>match lL i j && lL j k with | true=>some (.bool (!decide (m=n))) | false=>none
   | _=>none
 | _=>none
def YF (nB:Option mf) (op:BinOp) (p q:List UInt8):Option Value:=
 match op,nB with
 | .eql,some .s=>some (.bool (decide (p=q)))
 | .neq,some .s=>some (.bool (!decide (p=q)))
 | _,_=>none
def YD (nB:Option mf) (op:BinOp) (p q:Bool):Option Value:=
 match op,nB with
 | .eql,some .b=>some (.bool (p == q))
 | .neq,some .b=>some (.bool (!(p == q)))
 | _,_=>none
def bin (nB:Option mf) (gK:Bool) (op:BinOp):Value->Value->Option Value
 | .int j m,.int k n=>YE nB gK op j k m n
 | .string ⟨⟨p⟩⟩,.string ⟨⟨q⟩⟩=>YF nB op p q
 | .bool p,.bool q=>YD nB op p q
 | _,_=>none
section
variable {P:Program} {o:Oper} {a:Act} {w:World} {x y:Operand} {t t':TypeId}
theorem YG {nB:Option mf} (aj:∀ k,nB=some k->k.ok P t) {gK:Bool} (ai:gK=true-> ∀ k n,a.eval y= .int k n->n≠ 0) {op:BinOp} {u v r:Value} (h:bin nB gK op u v=some r) (av:o.op= .binOp op t x y t') (ad:a.eval x=u) (hy:a.eval y=v):bb P o a w r w:=by
 unfold bin at h
 split at h
 · rename_i j m k n
   unfold YE at h
   split at h
   case h_1=>
    split at h
    · rename_i ag
      simp only [Bool.and_eq_true] at ag
      obtain ⟨I,aa⟩:=ag
      have I:=kY I;have aa:=kY aa
      subst I;subst aa
      simp only [Option.some.injEq] at h
      subst h
      exact aFK av ad hy
    · cases h
   case h_2=>
    split at h
    · rename_i ag
      simp only [Bool.and_eq_true] at ag
      obtain ⟨I,aa⟩:=ag
      have I:=kY I;have aa:=kY aa
      subst I;subst aa
      simp only [Option.some.injEq] at h
      subst h
      exact aGf av ad hy
    · cases h
   case h_3=>
    split at h
    · rename_i ag
      simp only [Bool.and_eq_true] at ag
      obtain ⟨I,aa⟩:=ag
      have I:=kY I;have aa:=kY aa
      subst I;subst aa
      simp only [Option.some.injEq] at h
      subst h
      exact aF6 av ad hy
    · cases h
   case h_4=>
    split at h
    · rename_i ag
      simp only [Bool.and_eq_true] at ag
      obtain ⟨⟨I,aa⟩,aw⟩:=ag
      have I:=kY I;have aa:=kY aa
      subst I;subst aa
      simp only [Option.some.injEq] at h
      subst h
      have b3:=ai aw _ _ hy
      exact ajI av ad hy (by rw [Bool.not_eq_true',decide_eq_false_iff_not];exact b3)
    · cases h
   case h_5=>
    split at h
    · rename_i ag
      simp only [Bool.and_eq_true] at ag
      obtain ⟨⟨I,aa⟩,aw⟩:=ag
      have I:=kY I;have aa:=kY aa
      subst I;subst aa
      simp only [Option.some.injEq] at h
      subst h
      have b3:=ai aw _ _ hy
      exact ajJ av ad hy (by rw [Bool.not_eq_true',decide_eq_false_iff_not];exact b3)
    · cases h
   case h_6=>
    split at h
    · rename_i ag
      simp only [Bool.and_eq_true] at ag
      obtain ⟨I,aa⟩:=ag
      have I:=kY I;have aa:=kY aa
      subst I;subst aa
      simp only [Option.some.injEq] at h
      subst h
      exact aF' av ad hy
    · cases h
   case h_7=>
    split at h
    · rename_i ag
      simp only [Bool.and_eq_true] at ag
      obtain ⟨I,aa⟩:=ag
      have I:=kY I;have aa:=kY aa
      subst I;subst aa
      simp only [Option.some.injEq] at h
      subst h
      exact aFL av ad hy
    · cases h
   case h_8=>
    split at h
    · rename_i ag
      have ag:=nz ag
      subst ag
      simp only [Option.some.injEq] at h
      subst h
      exact aF3 av ad hy
    · cases h
   case h_9=>
    split at h
    · rename_i ag
      have ag:=nz ag
      subst ag
      simp only [Option.some.injEq] at h
      subst h
      exact aF2 av ad hy
    · cases h
   case h_10=>
    split at h
    · rename_i ag
      have ag:=nz ag
      subst ag
      simp only [Option.some.injEq] at h
      subst h
      exact aFY av ad hy
    · cases h
   case h_11=>
    split at h
    · rename_i ag
      have ag:=nz ag
      subst ag
      simp only [Option.some.injEq] at h
      subst h
      exact aFX av ad hy
    · cases h
   case h_12=>
    split at h
    · rename_i i
      have hi:=aj _ rfl
      split at h
      · rename_i ag
        simp only [Bool.and_eq_true] at ag
        have I:=nz ag.1;have aa:=nz ag.2
        subst I;subst aa
        simp only [Option.some.injEq] at h
        subst h
        exact aFV hi av ad hy
      · cases h
    · cases h
   case h_13=>
    split at h
    · rename_i i
      have hi:=aj _ rfl
      split at h
      · rename_i ag
        simp only [Bool.and_eq_true] at ag
        have I:=nz ag.1;have aa:=nz ag.2
        subst I;subst aa
        simp only [Option.some.injEq] at h
        subst h
        exact aF8 hi av ad hy
      · cases h
    · cases h
   case h_14=>cases h
 · rename_i p q
   unfold YF at h
   split at h
   · simp only [Option.some.injEq] at h
     subst h
     exact aFW (aj _ rfl) av ad hy
   · simp only [Option.some.injEq] at h
     subst h
     exact aF9 (aj _ rfl) av ad hy
   · cases h
 · rename_i p q
   unfold YD at h
   split at h
   · simp only [Option.some.injEq] at h
     subst h
     exact aFU (aj _ rfl) av ad hy
   · simp only [Option.some.injEq] at h
     subst h
     exact aF7 (aj _ rfl) av ad hy
   · cases h
 · cases h
end
end au
namespace au
open Go Go.RowKit J
def nth {α:Type}:List α->Nat->Option α
 | [],_=>none
 | x::_,0 =>some x
 | _::r,i+ 1 =>nth r i
theorem cW {α:Type}:∀ (l:List α) (i:Nat),nth l i=l[i]?
 | [],i=>by simp [nth]
 | x::r,0 =>rfl
 | x::r,i+ 1 =>by simp [nth,cW r i]
def Ss:Operand->Bool
 | .const (.bool b)=>b
 | _=>false
def So:Operand->Bool
 | .const (.bool b)=>!b
 | _=>false
def LL (x y:Operand) (b:Bool):Value->Value->Option Value
 | .bool p,.bool q=>match Ss x with
   | true=>some (.bool (b || q))
   | false=>match So y with
     | true=>some (.bool (b && p))
     | false=>some (.bool (cond b p q))
 | .int j m,.int k n=>match lL j k with
   | true=>some (.int j (cond b m n))
   | false=>none
 | .string ⟨⟨p⟩⟩,.string ⟨⟨q⟩⟩=>some (cl (cond b p q))
 | _,_=>none
theorem auT {a:Act} {x:Operand} (h:Ss x=true):a.eval x= .bool true:=by
 unfold Ss at h
 split at h
 · subst h;rfl
 · cases h
theorem auP {a:Act} {x:Operand} (h:So x=true):a.eval x= .bool false:=by
 unfold So at h
 split at h
 · rename_i b
   have:b=false:=by simpa using h
   subst this;rfl
 · cases h
theorem ael {a:Act} {x y:Operand} {b:Bool} {u v r:Value} (h:LL x y b u v=some r) (ad:b=true->a.eval x=u) (hy:b=false->a.eval y=v):(if b then a.eval x else a.eval y)=r:=by
 unfold LL at h
 split at h
 · rename_i p q
   split at h
   · rename_i aO
     simp only [Option.some.injEq] at h
     subst h
     cases b with
     | true=>rw [if_pos rfl,auT aO];rfl
     | false=>rw [if_neg (by simp),hy rfl];rfl
   · split at h
     · rename_i af
       simp only [Option.some.injEq] at h
       subst h
       cases b with
       | true=>rw [if_pos rfl,ad rfl];rfl
       | false=>rw [if_neg (by simp),auP af];rfl
     · simp only [Option.some.injEq] at h
       subst h
       cases b with
       | true=>rw [if_pos rfl,ad rfl];rfl
       | false=>rw [if_neg (by simp),hy rfl];rfl
 · split at h
   · rename_i aj
     have:=nz aj
     subst this
     simp only [Option.some.injEq] at h
     subst h
     cases b with
     | true=>rw [if_pos rfl,ad rfl];rfl
     | false=>rw [if_neg (by simp),hy rfl];rfl
   · cases h
 · simp only [Option.some.injEq] at h
   subst h
   cases b with
   | true=>rw [if_pos rfl,ad rfl];rfl
   | false=>rw [if_neg (by simp),hy rfl];rfl
 · cases h
abbrev Out:=Value × List Nat × List (Nat × Nat)
def ko (ao:List Nat) (v:Value):Option Out:=some (v,ao,[])
def Ca (G:lh) (M:List (Nat × Nat × List Value)) (t m rel:Nat) (ao:List Nat) (GF c6:Nat):Option Out:=
 match nth M m,nE G.Hg t with
 | some (b,off,cs),some none=>match nth cs rel with
   | some v=>some (v,ao,[(GF,b),(c6,off+rel)])
   | none=>none
 | some (b,off,cs),some (some n)=>match Nat.ble (rel+n) cs.length with
   | true=>some (.agg ((cs.drop rel).take n).toArray,ao,[(GF,b),(c6,off+rel)])
   | false=>none
 | _,_=>none
def aax (G:lh) (s d:Nat) (ao:List Nat):Value->Option Out
 | .int k m=>match kX k,nE G.mY s,nE G.mY d with
   | true,some (.i .i64),some (.i .i64)=>ko ao (.int .i64 (aA m))
   | true,some (.i .i64),some (.i .u8)=>ko ao (.int .u8 ((BT m).toNat:Int))
   | _,_,_=>none
 | _=>none
def aaz (G:lh) (t:Nat) (ao:List Nat):Value->Option Out
 | .string ⟨⟨p⟩⟩=>match nE G.mY t with
   | some .s=>ko ao (.int .i64 (p.length:Int))
   | _=>none
 | .slice _ n _=>match nE G.mY t with
   | some .ck=>ko ao (.int .i64 (n:Int))
   | _=>none
 | _=>none
def aaC (fr:List (Nat × Value)) (gs:List gr) (cur:List (Nat × Bool)) (c x y:Operand):List Nat->Option Out
 | 0 ::ao=>match c with
   | .tmp lc=>match hF fr gs cur (.tmp lc),hF fr gs ((lc,true)::cur) x,hF fr gs ((lc,false)::cur) y with
     | some (.bool b),some u,some v=>match LL x y b u v with
       | some r=>ko ao r
       | none=>none
     | _,_,_=>none
   | _=>none
 | _::ao=>match hF fr gs cur c with
   | some (.bool b)=>match b with
     | true=>match hF fr gs cur x with | some v=>ko ao v | none=>none
     | false=>match hF fr gs cur y with | some v=>ko ao v | none=>none
   | _=>none
 | []=>none
def sV (G:lh) (M:List (Nat × Nat × List Value)) (ao:List Nat) (fr:List (Nat × Value)) (gs:List gr) (cur:List (Nat × Bool)):Op->Option Out
 | .move x=>match hF fr gs cur x with | some v=>ko ao v | none=>none
 | .assign x=>match hF fr gs cur x with | some v=>ko ao v | none=>none
 | .pick c x y=>aaC fr gs cur c x y ao
 | .binOp op t x y _=>match hF fr gs cur x,hF fr gs cur y with
   | some u,some v=>match bin (nE G.mY t) (F7 y) op u v with
     | some r=>ko ao r
     | none=>none
   | _,_=>none
 | .unOp .not _ x=>match hF fr gs cur x with
   | some (.bool p)=>ko ao (.bool (!p))
   | _=>none
 | .convert s d x=>match hF fr gs cur x with
   | some v=>aax G s d ao v
   | none=>none
 | .load t x=>match hF fr gs cur x,ao with
   | some (.pointer (some ⟨GF,c6,none⟩)),m::rel::cb=>Ca G M t m rel cb GF c6
   | _,_=>none
 | .fieldAddr s x j=>match hF fr gs cur x,Gj G.nh s j with
   | some (.pointer (some ⟨b,p,none⟩)),some off=>ko ao (.pointer (some ⟨b,p+off,none⟩))
   | _,_=>none
 | .nilCheck x=>match hF fr gs cur x with
   | some (.pointer (some p))=>ko ao (.pointer (some p))
   | _=>none
 | .extract x i=>match hF fr gs cur x with
   | some (.tuple ⟨vs⟩)=>match nth vs i with
     | some v=>ko ao v
     | none=>none
   | _=>none
 | .makeFunc fn ⟨xs⟩ ⟨ys⟩=>match C6 fr gs cur xs,C6 fr gs cur ys with
   | some us,some vs=>ko ao (.func fn us.toArray vs.toArray)
   | _,_=>none
 | .call ⟨.builtin .len,⟨[x]⟩,⟨[t]⟩⟩=>match hF fr gs cur x with
   | some v=>aaz G t ao v
   | none=>none
 | _=>none
theorem lK {ao cb:List Nat} {u v:Value} {l:List (Nat × Nat)} (h:ko ao u=some (v,cb,l)):u=v:=by
 simp only [ko,Option.some.injEq,Prod.mk.injEq] at h
 exact h.1
def ms:List (Nat × Nat)->Prop
 | []=>True
 | p::r=>p.1 =p.2 /\ms r
section
variable {P:Program} {G:lh} {M:List (Nat × Nat × List Value)} {w:World} {a:Act} {o:Oper}
theorem aaw {n:cE} {fr:List (Nat × Value)} {gs:List gr} {cur:List (Nat × Bool)} {ao cb:List Nat} {v:Value} {l:List (Nat × Nat)} (dQ:qM P G) (eL:i_ w M) (af:Fr n fr a) (ax:lB a gs) (hc:iS a cur)
 {op:Op} (av:o.op=op) (h:sV G M ao fr gs cur op=some (v,cb,l)) (aq:ms l):bb P o a w v w:=by
 have opn:∀ {x:Operand} {u:Value},hF fr gs cur x=some u->a.eval x=u:=fun ad=>LF af ax hc ad
 unfold sV at h
 split at h
 · split at h
   · rename_i ad
     rw [<-lK h];exact ajF av (opn ad)
   · cases h
 · split at h
   · rename_i ad
     rw [<-lK h];exact Xy av (opn ad)
   · cases h
 · rename_i c x y
   unfold aaC at h
   split at h
   · split at h
     · rename_i lc
       split at h
       · rename_i b u e4 I aa aw
         split at h
         · rename_i r aE
           rw [<-lK h]
           have kf:a.eval (.tmp lc)= .bool b:=opn I
           have ad:b=true->a.eval x=u:=fun ag=>LF af ax (show iS a ((lc,true)::cur) from ⟨by subst ag;exact kf,hc⟩) aa
           have hy:b=false->a.eval y=e4:=fun ag=>LF af ax (show iS a ((lc,false)::cur) from ⟨by subst ag;exact kf,hc⟩) aw
           have aN:=ael (a:=a) aE ad hy
           cases b with
           | true=>exact NN av kf (by simpa using aN)
           | false=>exact NM av kf (by simpa using aN)
         · cases h
       · cases h
     · cases h
   · split at h
     · rename_i b I
       split at h
       · split at h
         · rename_i u aa
           rw [<-lK h];exact NN av (opn I) (opn aa)
         · cases h
       · split at h
         · rename_i u aa
           rw [<-lK h];exact NM av (opn I) (opn aa)
         · cases h
     · cases h
   · cases h
 · rename_i op t x y t'
   split at h
   · rename_i u e4 I aa
     split at h
     · rename_i r aE
       rw [<-lK h]
       refine YG (fun k aj=>AM dQ.mY aj) (fun ai k n aJ=>?_) aE av (opn I) (opn aa)
       unfold F7 at ai
       split at ai
       · rename_i k' fE
         have:a.eval (.const (.int k' fE))= .int k' fE:=rfl
         rw [this] at aJ
         injection aJ with _ e
         subst e
         simpa using ai
       · cases ai
     · cases h
   · cases h
 · rename_i x
   split at h
   · rename_i p I
     rw [<-lK h];exact ajH av (opn I)
   · cases h
 · rename_i s d x
   split at h
   · rename_i u I
     unfold aax at h
     split at h
     · rename_i k m
       split at h
       · rename_i aa aw bi
         have:=kY aa
         subst this
         rw [<-lK h];exact aFP (AM dQ.mY aw) (AM dQ.mY bi) av (opn I)
       · rename_i aa aw bi
         have:=kY aa
         subst this
         rw [<-lK h];exact aFQ (AM dQ.mY aw) (AM dQ.mY bi) av (opn I)
       · cases h
     · cases h
   · cases h
 · rename_i t x
   split at h
   · rename_i GF c6 m rel iW I
     have ad:=opn I
     unfold Ca at h
     split at h
     · rename_i b off cs aa aw
       split at h
       · rename_i u bi
         simp only [Option.some.injEq,Prod.mk.injEq] at h
         obtain ⟨rfl,_,rfl⟩:=h
         obtain ⟨ak,al,_⟩:=aq
         simp only at ak al
         subst ak;subst al
         rw [cW] at aa bi
         exact XA (afO dQ.Hg aw) av ad (adv eL aa rel u bi)
       · cases h
     · rename_i b off cs k aa aw
       split at h
       · rename_i ag
         simp only [Option.some.injEq,Prod.mk.injEq] at h
         obtain ⟨rfl,_,rfl⟩:=h
         obtain ⟨ak,al,_⟩:=aq
         simp only at ak al
         subst ak;subst al
         rw [cW] at aa
         have ao:=afO dQ.Hg aw
         have hle:=Nat.le_of_ble_eq_true ag
         refine ajE ao.1 ao.2 (by simp;omega) av ad (fun j u aI=>?_)
         have kT:=adv eL aa
         rw [List.getElem?_take] at aI
         split at aI
         · rw [List.getElem?_drop] at aI
           have:=kT (rel+j) u aI
           simpa [Nat.add_assoc] using this
         · cases aI
       · cases h
     · cases h
   · cases h
 · rename_i s x j
   split at h
   · rename_i b p off I aa
     rw [<-lK h]
     obtain ⟨ca,f,sz,dC,bG,fK,iT,arE⟩:=ark dQ.nh aa
     rw [<-fK]
     exact ajA dC bG arE (by cases aQ:Nat.beq sz 0 with | false=>rfl | true=>exact absurd (Nat.eq_of_beq_eq_true aQ) iT) av (opn I)
   · cases h
 · rename_i x
   split at h
   · rename_i p I
     rw [<-lK h];exact ajG av (opn I)
   · cases h
 · rename_i x i
   split at h
   · rename_i vs I
     split at h
     · rename_i u aa
       rw [<-lK h]
       rw [cW] at aa
       exact Iw (vs:=vs) av (opn I) aa
     · cases h
   · cases h
 · rename_i fn xs ys
   split at h
   · rename_i us vs I aa
     rw [<-lK h]
     have ak:=TH af ax hc I
     have al:=TH af ax hc aa
     simp only [bb,execOp,av,Instr.makeFunc]
     rw [show (Array.map a.eval ⟨xs⟩)=us.toArray by rw [<-ak];simp,show (Array.map a.eval ⟨ys⟩)=vs.toArray by rw [<-al];simp]
     rfl
   · cases h
 · rename_i x t
   split at h
   · rename_i u I
     unfold aaz at h
     split at h
     · split at h
       · rename_i aa
         rw [<-lK h];exact ajD (AM dQ.mY aa) av (opn I)
       · cases h
     · split at h
       · rename_i aa
         rw [<-lK h]
         obtain ⟨e,he⟩:=AM dQ.mY aa
         exact ajC he av (opn I)
       · cases h
     · cases h
   · cases h
 · cases h
end
end au
namespace au
open Go Go.RowKit J
def E8 (ops:Array Oper) (j:Nat):Option Nat:=match nth ops.toList j with
 | some o=>o.dst
 | none=>none
theorem abh {ops:Array Oper} {j bx:Nat} (h:E8 ops j=some bx):(ops[j]?).bind (·.dst)=some bx:=by
 unfold E8 at h
 rw [cW,Array.getElem?_toList] at h
 split at h
 · rename_i o av
   rw [av];exact h
 · cases h
abbrev anO:=List (Nat × Value) × List gr × List (Nat × Nat)
def bV (G:lh) (ops:Array Oper) (n:Nat) (M:List (Nat × Nat × List Value)):List Oper->List Nat->List (Nat × Value)->List gr->List (Nat × Nat)->Option anO
 | [],_,fr,gs,l=>some (fr,gs,l)
 | o::rest,ao,fr,gs,l=>match o.dst with
   | none=>none
   | some d=>match Nat.blt d n with
     | false=>none
     | true=>match o.guard with
       | none=>match sV G M ao fr gs [] o.op with
         | some (v,cb,l')=>bV G ops n M rest cb ((d,v)::fr) (qm gs d) (l'++l)
         | none=>none
       | some (j,want)=>match E8 ops j with
         | none=>none
         | some bx=>match Nat.blt bx n with
           | false=>none
           | true=>match ao with
             | 0 ::cb=>match Nat.beq bx d with
               | true=>none
               | false=>match sV G M cb fr gs [(bx,want)] o.op with
                 | some (v,iW,l')=>bV G ops n M rest iW (AG fr d) (⟨d,bx,want,v⟩::qm gs d) (l'++l)
                 | none=>none
             | _::cb=>match ep fr bx with
               | some (.bool b)=>match b == want with
                 | true=>match sV G M cb fr gs [] o.op with
                   | some (v,iW,l')=>bV G ops n M rest iW ((d,v)::fr) (qm gs d) (l'++l)
                   | none=>none
                 | false=>bV G ops n M rest cb ((d,undef)::fr) (qm gs d) l
               | some (.tuple ⟨[]⟩)=>bV G ops n M rest cb ((d,undef)::fr) (qm gs d) l
               | _=>none
             | []=>none
def B5 (fr:List (Nat × Value)):List Nat->Option (List (Nat × Value))
 | []=>some []
 | t::r=>match ep fr t,B5 fr r with
   | some v,some vs=>some ((t,v)::vs)
   | _,_=>none
def dup (l:List Nat):List (Nat × Nat):=l.map fun x=>(x,x)
def lz (G:lh) (ops:Array Oper) (n:Nat) (M:List (Nat × Nat × List Value)) (os:List Oper) (ao:List Nat) (fr:List (Nat × Value)) (eT:List Nat):Option (List (Nat × Value) × List (Nat × Nat)):=
 match bV G ops n M os ao fr [] [] with
 | some (fr',_,l)=>match B5 fr' eT with
   | some k=>some (k,l)
   | none=>none
 | none=>none
theorem JD:∀ l:List Nat,ms (dup l)
 | []=>trivial
 | x::r=>⟨rfl,JD r⟩
theorem vQ:∀ {l l':List (Nat × Nat)},ms (l++l')->ms l/\ms l'
 | [],_,h=>⟨trivial,h⟩
 | _::_,_,h=>⟨⟨h.1,(vQ h.2).1⟩,(vQ h.2).2⟩
theorem Ph {fr:List (Nat × Value)}:∀ {eT:List Nat} {k:List (Nat × Value)},B5 fr eT=some k->Hv fr k
 | [],k,h=>by simp only [B5,Option.some.injEq] at h;subst h;trivial
 | t::r,k,h=>by
   simp only [B5] at h
   split at h
   · rename_i v vs I aa
     simp only [Option.some.injEq] at h
     subst h
     exact ⟨I,Ph aa⟩
   · cases h
theorem ayA {a:Act} {n:cE} {d:Nat} {v:Value} (ao:a.tmps.size=n) (aM:Nat.blt d n=true):(a.put (some d) v).tmps.getD d undef=v:=by
 have bE:d <n:=Nat.le_of_ble_eq_true aM
 simp [Act.put,ao,bE]
theorem LU {a:Act} {d t:Nat} {v:Value} (h:t≠d):(a.put (some d) v).tmps.getD t undef=a.tmps.getD t undef:=by
 simp only [Act.put,Array.getD_eq_getD_getElem?]
 rw [Array.getElem?_setIfInBounds,if_neg (fun e=>h e.symm)]
theorem vZ {a:Act} {d:Nat} {v:Value}:∀ {gs:List gr},lB a gs->lB (a.put (some d) v) (qm gs d)
 | [],_=>trivial
 | p::r,h=>by
   simp only [qm]
   cases ag:Nat.beq p.t d || Nat.beq p.j d with
   | true=>exact vZ h.2
   | false=>
     simp only [Bool.or_eq_false_iff] at ag
     have I:p.t≠d:=fun e=>by rw [e] at ag;simp at ag
     have aa:p.j≠d:=fun e=>by rw [e] at ag;simp at ag
     refine ⟨?_,vZ h.2⟩
     rw [LU I,LU aa];exact h.1
theorem S4 {d t:Nat} {v:Value}:∀ {fr:List (Nat × Value)},ep (AG fr d) t=some v->t≠d/\ep fr t=some v
 | [],h=>by simp [AG,ep] at h
 | p::r,h=>by
   simp only [AG] at h
   cases ag:Nat.beq p.1 d with
   | true=>
     rw [ag] at h
     obtain ⟨I,aa⟩:=S4 h
     refine ⟨I,?_⟩
     have e:=Nat.eq_of_beq_eq_true ag
     simp only [ep]
     cases hc:Nat.beq p.1 t with
     | true=>exact absurd ((Nat.eq_of_beq_eq_true hc).symm.trans e) I
     | false=>exact aa
   | false=>
     rw [ag] at h
     simp only [ep] at h ⊢
     cases hc:Nat.beq p.1 t with
     | true=>
       rw [hc] at h
       refine ⟨fun e=>?_,h⟩
       rw [Nat.eq_of_beq_eq_true hc,e] at ag
       simp at ag
     | false=>
       rw [hc] at h
       exact S4 h
theorem Fr.Mf {n:cE} {d:Nat} {fr:List (Nat × Value)} {a:Act} {v:Value} (af:Fr n fr a):Fr n (AG fr d) (a.put (some d) v):=
 ⟨by simpa [Act.put] using af.size,af.defers,fun t u h=>by obtain ⟨I,aa⟩:=S4 h;rw [LU I];exact af.get t u aa⟩
def CM:Op->Bool
 | .load _ _=>true
 | _=>false
theorem aqK {G:lh} {M:List (Nat × Nat × List Value)} {ao:List Nat} {fr:List (Nat × Value)} {gs:List gr} {cur:List (Nat × Bool)} {op:Op} (h:CM op=false):sV G M ao fr gs cur op=sV G [] ao fr gs cur op:=by
 cases op with
 | load t x=>simp [CM] at h
 | unOp u t x=>cases u <;> rfl
 | call c=>
   unfold sV
   split <;> first | rfl | (rename_i e;cases e;done) | (rename_i e;cases e;rfl)
 | _=>rfl
theorem PA {P:Program} {G:lh} {M:List (Nat × Nat × List Value)} {C:World->Prop} {a:Act} {o:Oper} {n:cE} {fr:List (Nat × Value)} {gs:List gr} {cur:List (Nat × Bool)} {ao cb:List Nat} {v:Value} {l:List (Nat × Nat)} (dQ:qM P G) (eL:∀ w,C w->i_ w M) (af:Fr n fr a) (ax:lB a gs) (hc:iS a cur)
 (h:sV G M ao fr gs cur o.op=some (v,cb,l)) (aq:ms l):(∀ w,C w->bb P o a w v w)/\(CM o.op=false-> ∀ w,bb P o a w v w):=
 ⟨fun w hA=>aaw dQ (eL w hA) af ax hc rfl h aq,fun aJ w=>aaw dQ (M:=[]) trivial af ax hc rfl (by rw [<-aqK aJ];exact h) aq⟩
theorem agF {ops:Array Oper} {o:Oper} {a:Act} {n:cE} {l:List (Nat × Value)} {j bx:Nat} {want:Bool} (af:Fr n l a) (ax:o.guard=some (j,want)) (aI:(ops[j]?).bind (·.dst)=some bx) (aJ:Nat.blt bx n=true) :
 Region.wanted o (yielded ops a.tmps)=true ↔ a.tmps.getD bx undef= .bool want:=by
 have bE:bx <n:=Nat.le_of_ble_eq_true aJ
 have ao:=af.size
 have aa:a.tmps[bx]? =some (a.tmps.getD bx undef):=by
  rw [Array.getElem?_eq_getElem (by omega)]
  simp [Array.getD_eq_getD_getElem?,ao,bE]
 simp only [Region.wanted,ax,yielded,aI,Option.bind_some,aa,beq_iff_eq]
 constructor
 · intro h
   split at h
   · rename_i b ag
     simp only [Option.some.injEq] at h ag
     rw [ag,h]
   · cases h
 · intro h
   rw [h]
def anX (P:Program) (ops:Array Oper) (C:World->Prop) (o:Oper) (d:Nat) (a:Act) (u:Value):Prop:=
 o.dst=some d/\((Region.wanted o (yielded ops a.tmps)=true/\(∀ w,C w->bb P o a w u w)/\(CM o.op=false-> ∀ w,bb P o a w u w))\/(Region.wanted o (yielded ops a.tmps)=false/\u=undef))
section
variable {P:Program} {G:lh} {ops:Array Oper} {n:cE} {M:List (Nat × Nat × List Value)} {C:World->Prop}
theorem PW (dQ:qM P G) (eL:∀ w,C w->i_ w M) {o:Oper} {rest:List Oper} {ao:List Nat} {fr:List (Nat × Value)} {gs:List gr} {l k2:List (Nat × Nat)} {fJ:List (Nat × Value)} {kQ:List gr} {a:Act}
 (af:Fr n fr a) (ax:lB a gs) (h:bV G ops n M (o::rest) ao fr gs l=some (fJ,kQ,k2)) (ai:ms k2)
 (RT:∀ {os:List Oper} {ao:List Nat} {fr:List (Nat × Value)} {gs:List gr} {l:List (Nat × Nat)},bV G ops n M os ao fr gs l=some (fJ,kQ,k2)->ms l) :
 ∃ d u cb fr' zu l',anX P ops C o d a u/\Fr n fr' (a.put (some d) u)/\lB (a.put (some d) u) zu/\bV G ops n M rest cb fr' zu l'=some (fJ,kQ,k2):=by
 rw [bV] at h
 split at h
 · cases h
 · rename_i d aM
   split at h
   · cases h
   · rename_i aJ
     split at h
     · rename_i io
       split at h
       · rename_i v cb l' I
         have he:=(vQ (RT h)).1
         exact ⟨d,v,cb,_,_,_,⟨aM,.inl ⟨MJ io,PA (cur:=[]) dQ eL af ax trivial I he⟩⟩,af.put aJ,vZ ax,h⟩
       · cases h
     · rename_i j want io
       split at h
       · cases h
       · rename_i bx rh
         have zD:=abh rh
         split at h
         · cases h
         · rename_i FN
           split at h
           · rename_i cb
             split at h
             · cases h
             · rename_i b3
               split at h
               · rename_i v iW l' I
                 have he:=(vQ (RT h)).1
                 have RW:bx≠d:=fun e=>by rw [e] at b3;simp at b3
                 by_cases Kk:a.tmps.getD bx undef= .bool want
                 · refine ⟨d,v,iW,_,_,_,⟨aM,.inl ⟨(agF af io zD FN).2 Kk,PA (cur:=[(bx,want)]) dQ eL af ax ⟨Kk,trivial⟩ I he⟩⟩,af.Mf,(show lB (a.put (some d) v) (⟨d,bx,want,v⟩::qm gs d) from ⟨fun _=>ayA af.size aJ,vZ ax⟩),h⟩
                 · refine ⟨d,undef,iW,_,_,_,⟨aM,.inr ⟨by rw [Bool.eq_false_iff];exact fun hw=>Kk ((agF af io zD FN).1 hw),rfl⟩⟩,af.Mf,(show lB (a.put (some d) undef) (⟨d,bx,want,v⟩::qm gs d) from ⟨fun ad=>?_,vZ ax⟩),h⟩
                   simp only at ad
                   rw [LU RW] at ad
                   exact absurd ad Kk
               · cases h
           · rename_i q cb aT
             split at h
             · rename_i b ag
               split at h
               · rename_i tc
                 have tc:b=want:=by simpa using tc
                 subst tc
                 split at h
                 · rename_i v iW l' I
                   have he:=(vQ (RT h)).1
                   exact ⟨d,v,iW,_,_,_,⟨aM,.inl ⟨aCs af io zD ag FN,PA (cur:=[]) dQ eL af ax trivial I he⟩⟩,af.put aJ,vZ ax,h⟩
                 · cases h
               · rename_i tc
                 exact ⟨d,undef,cb,_,_,_,⟨aM,.inr ⟨aCr af io zD ag tc FN,rfl⟩⟩,af.put aJ,vZ ax,h⟩
             · rename_i ag
               exact ⟨d,undef,cb,_,_,_,⟨aM,.inr ⟨aCt af io zD ag FN,rfl⟩⟩,af.put aJ,vZ ax,h⟩
             · cases h
           · cases h
theorem vR {fJ:List (Nat × Value)} {kQ:List gr} {k2:List (Nat × Nat)} (ai:ms k2):∀ {os:List Oper} {ao:List Nat} {fr:List (Nat × Value)} {gs:List gr} {l:List (Nat × Nat)},bV G ops n M os ao fr gs l=some (fJ,kQ,k2)->ms l
 | [],ao,fr,gs,l,h=>by
   simp only [bV,Option.some.injEq,Prod.mk.injEq] at h
   rw [h.2.2];exact ai
 | o::rest,ao,fr,gs,l,h=>by
   rw [bV] at h
   split at h
   · cases h
   · split at h
     · cases h
     · split at h
       · split at h
         · exact (vQ (vR ai h)).2
         · cases h
       · split at h
         · cases h
         · split at h
           · cases h
           · split at h
             · split at h
               · cases h
               · split at h
                 · exact (vQ (vR ai h)).2
                 · cases h
             · split at h
               · split at h
                 · split at h
                   · exact (vQ (vR ai h)).2
                   · cases h
                 · exact vR ai h
               · exact vR ai h
               · cases h
             · cases h
theorem afQ {w:World} {Q:Exit->Act->World->Prop} (dQ:qM P G) (eL:i_ w M) {fJ:List (Nat × Value)} {kQ:List gr} {k2:List (Nat × Nat)} (ai:ms k2):∀ (k:Nat) {rest:List Oper} {ao:List Nat} {fr:List (Nat × Value)} {gs:List gr} {l:List (Nat × Nat)} {a:Act},
 Fr n fr a->lB a gs->bV G ops n M (rest.take k) ao fr gs l=some (fJ,kQ,k2)->(∀ aX,Fr n fJ aX->wpList P ops Q (rest.drop k) aX w)->wpList P ops Q rest a w
 | 0,rest,ao,fr,gs,l,a,af,_,h,aj=>by
   simp only [List.take_zero,bV,Option.some.injEq,Prod.mk.injEq] at h
   have:=aj a (by rw [<-h.1];exact af)
   simpa using this
 | k+ 1,[],ao,fr,gs,l,a,af,_,h,aj=>by
   simp only [List.take_nil,bV,Option.some.injEq,Prod.mk.injEq] at h
   have:=aj a (by rw [<-h.1];exact af)
   simpa using this
 | k+ 1,o::rest,ao,fr,gs,l,a,af,ax,h,aj=>by
   rw [List.take_succ_cons] at h
   obtain ⟨d,u,cb,fr',zu,l',⟨aM,fP⟩,dR,fl,h'⟩:=PW (C:=fun w'=>w'=w) dQ (fun w' e=>by subst e;exact eL) af ax h ai (vR ai)
   have next:=afQ dQ eL ai k dR fl h' (by simpa using aj)
   refine wpList_step fun K cG=>?_
   rcases fP with ⟨hw,hy,_⟩ | ⟨hw,rfl⟩
   · rw [if_pos hw]
     unfold Oper.wp
     rw [show (execOp a.eval o).run P w=_ from hy w rfl]
     show K (a.put o.dst u) w
     rw [aM]
     exact cG _ _ next
   · rw [if_neg (by simp [hw]),aM]
     exact cG _ _ next
theorem aeH {pd:Act->Prop} (dQ:qM P G) (eL:∀ w,C w->i_ w M) {fJ:List (Nat × Value)} {kQ:List gr} {k2:List (Nat × Nat)} (ai:ms k2):∀ (k:Nat) {rest:List Oper} {ao:List Nat} {fr:List (Nat × Value)} {gs:List gr} {l:List (Nat × Nat)} {a:Act},
 Fr n fr a->lB a gs->bV G ops n M (rest.take k) ao fr gs l=some (fJ,kQ,k2)->(∀ aX,Fr n fJ aX->wpQuiet P ops C pd (rest.drop k) aX)->wpQuiet P ops C pd rest a
 | 0,rest,ao,fr,gs,l,a,af,_,h,aj=>by
   simp only [List.take_zero,bV,Option.some.injEq,Prod.mk.injEq] at h
   have:=aj a (by rw [<-h.1];exact af)
   simpa using this
 | k+ 1,[],ao,fr,gs,l,a,af,_,h,aj=>by
   simp only [List.take_nil,bV,Option.some.injEq,Prod.mk.injEq] at h
   have:=aj a (by rw [<-h.1];exact af)
   simpa using this
 | k+ 1,o::rest,ao,fr,gs,l,a,af,ax,h,aj=>by
   rw [List.take_succ_cons] at h
   obtain ⟨d,u,cb,fr',zu,l',⟨aM,fP⟩,dR,fl,h'⟩:=PW (C:=C) dQ eL af ax h ai (vR ai)
   have next:=aeH dQ eL ai k dR fl h' (by simpa using aj)
   unfold wpQuiet
   rcases fP with ⟨hw,hy,_⟩ | ⟨hw,rfl⟩
   · rw [if_pos hw]
     refine ⟨u,fun w hc=>?_,?_⟩
     · unfold Oper.quietAt
       rw [show (execOp a.eval o).run P w=_ from hy w hc]
       exact ⟨rfl,rfl⟩
     · rw [aM];exact next
   · rw [if_neg (by simp [hw]),aM]
     exact next
theorem PX {os:List Oper} {ao:List Nat} {fr:List (Nat × Value)} {eT:List Nat} {k:List (Nat × Value)} {L:List (Nat × Nat)} (h:lz G ops n M os ao fr eT=some (k,L)):∃ fJ kQ,bV G ops n M os ao fr [] []=some (fJ,kQ,L)/\Hv fJ k:=by
 unfold lz at h
 split at h
 · rename_i fr' zu l I
   split at h
   · rename_i k' aa
     simp only [Option.some.injEq,Prod.mk.injEq] at h
     obtain ⟨rfl,rfl⟩:=h
     exact ⟨fr',zu,I,Ph aa⟩
   · cases h
 · cases h
theorem g1 (k:Nat) (eT ao:List Nat) {w:World} {Q:Exit->Act->World->Prop} {rest:List Oper} {fr fr':List (Nat × Value)} {L:List Nat} {a:Act} (dQ:qM P G) (eL:i_ w M) (af:Fr n fr a) (he:lz G ops n M (rest.take k) ao fr eT=some (fr',dup L))
 (next:∀ aX,Fr n fr' aX->wpList P ops Q (rest.drop k) aX w):wpList P ops Q rest a w:=by
 obtain ⟨fJ,kQ,I,aa⟩:=PX he
 exact afQ (gs:=[]) dQ eL (JD L) k af trivial I fun aX dR=>next aX (dR.sub aa)
theorem ayX (k:Nat) (eT ao:List Nat) {pd:Act->Prop} {rest:List Oper} {fr fr':List (Nat × Value)} {L:List Nat} {a:Act} (dQ:qM P G) (eL:∀ w,C w->i_ w M) (af:Fr n fr a) (he:lz G ops n M (rest.take k) ao fr eT=some (fr',dup L))
 (next:∀ aX,Fr n fr' aX->wpQuiet P ops C pd (rest.drop k) aX):wpQuiet P ops C pd rest a:=by
 obtain ⟨fJ,kQ,I,aa⟩:=PX he
 exact aeH (gs:=[]) dQ eL (JD L) k af trivial I fun aX dR=>next aX (dR.sub aa)
end
def e0:List Nat->Nat->Bool
 | [],_=>false
 | i::r,j=>Nat.beq i j || e0 r j
section
variable {P:Program} {ops:Array Oper} {Q:Exit->Act->World->Prop} {md:Region.Mode} {S:World->Prop} {p:Nat}
def uL (P:Program) (md:Region.Mode) (ops:Array Oper) (Q:Exit->Act->World->Prop) (p:Nat) (S:World->Prop):Nat->Array Bool->Act->World->Prop
 | 0,listed,a,w=>Region.ready md ops listed= []/\Q .normal a w
 | cA+ 1,listed,a,w=>
   (Region.ready md ops listed= []->Q .normal a w) /\
   ∀ i ∈ Region.ready md ops listed,wpOp P ops Q i (fun aX w'=>((listed.setIfInBounds i true).getD p false=false->S w')/\uL P md ops Q p S cA (listed.setIfInBounds i true) aX w') a w
theorem agO:∀ (cA:Nat) (listed:Array Bool) (a:Act) (w:World),uL P md ops Q p S cA listed a w->wpAny P md ops Q cA listed a w
 | 0,_,_,_,h=>h
 | cA+ 1,_,_,_,h=>⟨h.1,fun i hi=>wpOp_mono (fun aX w' h'=>agO cA _ aX w' h'.2) (h.2 i hi)⟩
theorem afK {b8:Array Bool} {i p:Nat} (h:b8.getD p false=true):(b8.setIfInBounds i true).getD p false=true:=by
 simp only [Array.getD_eq_getD_getElem?,Array.getElem?_setIfInBounds] at h ⊢
 split
 · rename_i e
   subst e
   split
   · rfl
   · rename_i bE
     rw [Array.getElem?_eq_none (by omega)] at h
     cases h
 · exact h
theorem agM {rV:Nat} {BP:World->Prop}:∀ (cA:Nat) (listed:Array Bool) (a:Act) (w:World),listed.getD p false=true->uL P md ops Q rV BP cA listed a w->uL P md ops Q p S cA listed a w
 | 0,_,_,_,_,h=>h
 | cA+ 1,_,_,_,aN,h=>⟨h.1,fun i hi=>wpOp_mono (fun aX w' h'=>⟨fun af=>absurd ((afK aN).symm.trans af) (by simp),agM cA _ aX w' (afK aN) h'.2⟩) (h.2 i hi)⟩
def mn:List Oper->Nat->Nat->List Nat->List Nat
 | [],_,_,acc=>acc
 | o::r,k,i,acc=>mn r (k+ 1) i (match o.after.toList.any fun e=>Region.binds .any e && (Nat.beq e.on i || e0 acc e.on) with | true=>k::acc | false=>acc)
theorem wq {l:List Nat} {j:Nat} (h:e0 l j=true):j ∈ l:=by
 induction l with
 | nil=>simp [e0] at h
 | cons i r bq=>
   simp only [e0,Bool.or_eq_true] at h
   rcases h with h | h
   · rw [Nat.eq_of_beq_eq_true h];simp
   · exact List.mem_cons_of_mem _ (bq h)
def Bw (ops:Array Oper) (i:Nat) (U:List Nat):Prop:=∀ u ∈ U,∃ o,ops[u]? =some o/\ ∃ e ∈ o.after,Region.binds .any e=true/\(e.on=i\/e.on ∈ U)
theorem Pl {ops:Array Oper} {i:Nat}:∀ {l:List Oper} {k:Nat} {acc:List Nat},(∀ m o,l[m]? =some o->ops[k+m]? =some o)->Bw ops i acc->Bw ops i (mn l k i acc)
 | [],_,_,_,h=>h
 | o::r,k,acc,aq,h=>by
   rw [mn]
   refine Pl (fun m eI hm=>by have:=aq (m+ 1) eI (by simpa using hm);rwa [show k+(m+ 1)=k+ 1 +m by omega] at this) ?_
   split
   · rename_i ag
     intro u hu
     rcases List.mem_cons.1 hu with rfl | hu
     · simp only [List.any_eq_true,Bool.and_eq_true,Bool.or_eq_true] at ag
       obtain ⟨e,he,I,aa⟩:=ag
       refine ⟨o,by simpa using aq 0 o rfl,e,by simpa using he,I,?_⟩
       rcases aa with aa | aa
       · exact .inl (Nat.eq_of_beq_eq_true aa)
       · exact .inr (List.mem_cons_of_mem _ (wq aa))
     · obtain ⟨eI,kV,e,he,I,aa⟩:=h u hu
       exact ⟨eI,kV,e,he,I,aa.imp id (List.mem_cons_of_mem _)⟩
   · exact h
def VX (ops:Array Oper) (p i:Nat) (ds:List Nat):Bool:=(match nth ops.toList p with
 | none=>true
 | some _=>e0 (mn ops.toList 0 i []) p) && (mn ops.toList 0 i []).all fun u=>!(dJ ops.size ds).getD u false
theorem VY {ops:Array Oper} {p i:Nat} {ds:List Nat} (h:VX ops p i ds=true):Bw ops i (mn ops.toList 0 i [])/\(ops[p]? =none\/p ∈ mn ops.toList 0 i [])/\ ∀ u ∈ mn ops.toList 0 i [],(dJ ops.size ds).getD u false=false:=by
 unfold VX at h
 rw [Bool.and_eq_true] at h
 refine ⟨Pl (fun m o hm=>by simpa using hm) (fun u hu=>by simp at hu),?_,fun u hu=>?_⟩
 · have I:=h.1
   rw [cW,Array.getElem?_toList] at I
   split at I
   · rename_i aJ;exact .inl aJ
   · exact .inr (wq I)
 · have:=List.all_eq_true.1 h.2 u hu
   simpa using this
theorem aCz {i:Nat} {cX:Oper} {v:Value} (hi:ops[i]? =some cX) (lI:∀ (j:Nat) (o:Oper) cs b,ops[j]? =some o->o.op≠ .select cs b) (tw:p≠i)
 (eE:∀ c a w,Q (.panic c) (a.put cX.dst v) w->Q (.panic c) a w) {U:List Nat} (Fj:Bw ops i U) (atM:ops[p]? =none\/p ∈ U) :
 ∀ (cA:Nat) (listed:Array Bool) (a:Act) (w:World),
   (∀ j dK,ops[j]? =some dK->j≠i->listed.getD j true=false->(∀ e ∈ dK.after,Region.binds .any e=true->e.on≠i)->cX.apart ops dK=true) ->
   listed.getD p false=false->(∀ u ∈ U,listed.getD u false=false)->i ∈ Region.ready .any ops listed->YieldsIf P ops S cX v a->S w ->
   uL P .any ops Q p S cA (listed.setIfInBounds i true) (a.put cX.dst v) w->uL P .any ops Q p S (cA+ 1) listed a w:=by
 intro cA
 induction cA with
 | zero=>
   intro listed a w _ _ _ aE hy fk H
   refine ⟨fun h=>(by rw [h] at aE;cases aE),fun j aI=>?_⟩
   by_cases fm:j=i
   · subst fm;exact hy.wpOp hi fk ⟨fun _=>fk,H⟩
   · have:=ready_mono aI fm
     rw [H.1] at this
     cases this
 | succ cA bq=>
   intro listed a w nq mD js aE hy fk H
   refine ⟨fun h=>(by rw [h] at aE;cases aE),fun j aI=>?_⟩
   by_cases fm:j=i
   · subst fm;exact hy.wpOp hi fk ⟨fun _=>fk,H⟩
   · have I:=H.2 j (ready_mono aI fm)
     obtain ⟨wc,dK,mC,iU⟩:=mem_ready.1 aI
     have rn:∀ e ∈ dK.after,Region.binds .any e=true->e.on≠i:=fun e he ag heq=>by
      have I:=iU e he ag
      have aQ:=(mem_ready.1 aE).1
      rw [heq] at I
      rcases Nat.lt_or_ge i listed.size with h' | h'
      · simp [h'] at aQ I;rw [aQ] at I;cases I
      · simp [Array.getElem?_eq_none h'] at I
     have FB:j ∉ U:=fun FD=>by
      obtain ⟨eI,kV,e,he,ag,aa⟩:=Fj j FD
      rw [mC] at kV
      simp only [Option.some.injEq] at kV
      subst kV
      rcases aa with aa | aa
      · exact rn e he ag aa
      · have aw:=iU e he ag
        rw [js _ aa] at aw
        cases aw
     have abU:j≠p:=fun e=>by
      subst e
      rcases atM with h | h
      · rw [mC] at h;cases h
      · exact FB h
     have R8:∀ u ∈ U,(listed.setIfInBounds j true).getD u false=false:=fun u hu=>by
      have:=js u hu
      have b3:j≠u:=fun e=>FB (e ▸ hu)
      simp only [Array.getD_eq_getD_getElem?,Array.getElem?_setIfInBounds,if_neg b3] at this ⊢
      exact this
     have R4:(listed.setIfInBounds j true).getD p false=false:=by
      simp only [Array.getD_eq_getD_getElem?,Array.getElem?_setIfInBounds,if_neg abU] at mD ⊢
      exact mD
     have ab5:((listed.setIfInBounds i true).setIfInBounds j true).getD p false=false:=by
      simp only [Array.getD_eq_getD_getElem?,Array.getElem?_setIfInBounds,if_neg abU,if_neg (Ne.symm tw)] at mD ⊢
      exact mD
     have aa:=wpOp_putIf mC (nq j dK mC fm wc rn) (fun cs b=>lI i cX cs b hi) (fun cs b=>lI j dK cs b mC) eE hy I
     have Fu:∀ k ok,ops[k]? =some ok->k≠i->(listed.setIfInBounds j true).getD k true=false ->
      (∀ e ∈ ok.after,Region.binds .any e=true->e.on≠i)->cX.apart ops ok=true:=fun k ok aj FF js iV=>by
      refine nq k ok aj FF ?_ iV
      by_cases rm:j=k
      · subst rm;exact wc
      · rw [getD_set_ne true rm] at js;exact js
     refine wpOp_mono (fun aX w' aw=>⟨fun _=>aw.2.1 ab5,bq (listed.setIfInBounds j true) aX w' Fu R4 R8 (ready_mono aE (Ne.symm fm)) aw.1 (aw.2.1 ab5) ?_⟩) aa
     rw [Array.setIfInBounds_comm _ _ fm]
     exact aw.2.2
theorem agL {i:Nat} {cX:Oper} {v:Value} (hi:ops[i]? =some cX) (lI:∀ (j:Nat) (o:Oper) cs b,ops[j]? =some o->o.op≠ .select cs b) (tw:p≠i)
 (eE:∀ c a w,Q (.panic c) (a.put cX.dst v) w->Q (.panic c) a w) :
 ∀ (cA:Nat) (listed:Array Bool) (a:Act) (w:World),
   (∀ j dK,ops[j]? =some dK->j≠i->listed.getD j true=false->(∀ e ∈ dK.after,Region.binds .any e=true->e.on≠i)->cX.apart ops dK=true) ->
   (listed.getD p false=false->S w)->i ∈ Region.ready .any ops listed->YieldsIf P ops (fun _=>True) cX v a ->
   uL P .any ops Q p S cA (listed.setIfInBounds i true) (a.put cX.dst v) w->uL P .any ops Q p S (cA+ 1) listed a w:=by
 have FW:∀ (b8:Array Bool) (b:Bool),(b8.setIfInBounds i true).getD p b=b8.getD p b:=fun b8 b=>by
  simp only [Array.getD_eq_getD_getElem?,Array.getElem?_setIfInBounds,if_neg (Ne.symm tw)]
 intro cA
 induction cA with
 | zero=>
   intro listed a w _ fk aE hy H
   refine ⟨fun h=>(by rw [h] at aE;cases aE),fun j aI=>?_⟩
   by_cases fm:j=i
   · subst fm;exact hy.wpOp hi trivial ⟨fun h=>fk (by rwa [FW] at h),H⟩
   · have:=ready_mono aI fm
     rw [H.1] at this
     cases this
 | succ cA bq=>
   intro listed a w nq fk aE hy H
   refine ⟨fun h=>(by rw [h] at aE;cases aE),fun j aI=>?_⟩
   by_cases fm:j=i
   · subst fm;exact hy.wpOp hi trivial ⟨fun h=>fk (by rwa [FW] at h),H⟩
   · have I:=H.2 j (ready_mono aI fm)
     obtain ⟨wc,dK,mC,iU⟩:=mem_ready.1 aI
     have rn:∀ e ∈ dK.after,Region.binds .any e=true->e.on≠i:=fun e he ag heq=>by
      have I:=iU e he ag
      have aQ:=(mem_ready.1 aE).1
      rw [heq] at I
      rcases Nat.lt_or_ge i listed.size with h' | h'
      · simp [h'] at aQ I;rw [aQ] at I;cases I
      · simp [Array.getElem?_eq_none h'] at I
     have aa:=wpOp_putIf mC (nq j dK mC fm wc rn) (fun cs b=>lI i cX cs b hi) (fun cs b=>lI j dK cs b mC) eE hy I
     have Fu:∀ k ok,ops[k]? =some ok->k≠i->(listed.setIfInBounds j true).getD k true=false ->
      (∀ e ∈ ok.after,Region.binds .any e=true->e.on≠i)->cX.apart ops ok=true:=fun k ok aj FF js iV=>by
      refine nq k ok aj FF ?_ iV
      by_cases rm:j=k
      · subst rm;exact wc
      · rw [getD_set_ne true rm] at js;exact js
     have Kd:∀ w',(((listed.setIfInBounds i true).setIfInBounds j true).getD p false=false->S w')->(listed.setIfInBounds j true).getD p false=false->S w':=fun w' ad wi=>
      ad (by rw [Array.setIfInBounds_comm _ _ (Ne.symm fm),FW];exact wi)
     refine wpOp_mono (fun aX w' aw=>⟨Kd w' aw.2.1,bq (listed.setIfInBounds j true) aX w' Fu (Kd w' aw.2.1) (ready_mono aE (Ne.symm fm)) aw.1 ?_⟩) aa
     rw [Array.setIfInBounds_comm _ _ fm]
     exact aw.2.2
end
def e9 (P:Program) (ops:Array Oper) (Q:Exit->Act->World->Prop) (p:Nat) (S:World->Prop) (f:Nat) (ds:List Nat) (a:Act) (w:World):Prop:=((dJ ops.size ds).getD p false=false->S w)/\uL P .any ops (NoPanic Q) p S f (dJ ops.size ds) a w
def AB (ops:List Oper):List Nat->Option (List Oper)
 | []=>some []
 | i::r=>match nth ops i,AB ops r with
   | some o,some os=>some (o::os)
   | _,_=>none
def adX (ops:Array Oper) (i:Nat):Bool:=match nth ops.toList i with
 | some o=>!CM o.op
 | none=>false
def Dw (ops:Array Oper) (p:Nat):List Nat->List Nat->Bool
 | _,[]=>true
 | ds,i::r=>Mx ops ds i && (VX ops p i ds || adX ops i) && !Nat.beq p i && Dw ops p (i::ds) r
def G_:List Nat->List Nat->List Nat
 | [],ds=>ds
 | i::r,ds=>G_ r (i::ds)
section
variable {P:Program} {G:lh} {ops:Array Oper} {n:cE} {M:List (Nat × Nat × List Value)} {S:World->Prop} {Q:Exit->Act->World->Prop} {a:Act} {w:World} {f p:Nat} {ds:List Nat}
theorem aw5 (i:Nat):dJ ops.size (i::ds)=(dJ ops.size ds).setIfInBounds i true:=rfl
theorem e9.wpAny (h:e9 P ops Q p S f ds a w):Go.wpAny P .any ops (NoPanic Q) f (dJ ops.size ds) a w:=agO f _ a w h.2
theorem I5 (hc:(Region.ready .any ops (dJ ops.size ds)).isEmpty=true) (h:Q .normal a w) (fk:(dJ ops.size ds).getD p false=false->S w):e9 P ops Q p S f ds a w:=by
 refine ⟨fk,?_⟩
 have aE:=List.isEmpty_iff.1 hc
 cases f with
 | zero=>exact ⟨aE,NoPanic.normal h⟩
 | succ f=>exact ⟨fun _=>NoPanic.normal h,by rw [aE];simp⟩
theorem e9.next (rV:Nat) (BP:World->Prop) (aN:(dJ ops.size ds).getD p false=true) (h:e9 P ops Q rV BP f ds a w):e9 P ops Q p S f ds a w:=
 ⟨fun af=>absurd (aN.symm.trans af) (by simp),agM f _ a w aN h.2⟩
theorem Yr (dQ:qM P G) (eL:∀ w,S w->i_ w M) (nk:S w) {fJ:List (Nat × Value)} {kQ:List gr} {k2:List (Nat × Nat)} (ai:ms k2):∀ (is:List Nat) {os:List Oper} {ao ds:List Nat} {fr:List (Nat × Value)} {gs:List gr} {l:List (Nat × Nat)} {a:Act},
 (dJ ops.size ds).getD p false=false->AB ops.toList is=some os->Dw ops p ds is=true->Fr n fr a->lB a gs->bV G ops n M os ao fr gs l=some (fJ,kQ,k2)->(∀ aX,Fr n fJ aX->e9 P ops Q p S f (G_ is ds) aX w)->e9 P ops Q p S (f+is.length) ds a w
 | [],os,ao,ds,fr,gs,l,a,_,av,_,af,_,h,aj=>by
   simp only [AB,Option.some.injEq] at av
   subst av
   simp only [bV,Option.some.injEq,Prod.mk.injEq] at h
   exact aj a (by rw [<-h.1];exact af)
 | i::is,os,ao,ds,fr,gs,l,a,mD,av,aO,af,ax,h,aj=>by
   simp only [AB] at av
   split at av
   · rename_i o aHk I aa
     simp only [Option.some.injEq] at av
     subst av
     rw [cW,Array.getElem?_toList] at I
     simp only [Dw,Bool.and_eq_true,Bool.not_eq_true'] at aO
     obtain ⟨⟨⟨oA,wl⟩,tw⟩,aub⟩:=aO
     have FR:p≠i:=fun e=>by rw [e] at tw;simp at tw
     obtain ⟨d,u,cb,fr',zu,l',⟨aM,fP⟩,dR,fl,h'⟩:=PW (C:=S) dQ eL af ax h ai (vR ai)
     have R4:(dJ ops.size (i::ds)).getD p false=false:=by
      rw [aw5]
      simp only [Array.getD_eq_getD_getElem?,Array.getElem?_setIfInBounds,if_neg (Ne.symm FR)] at mD ⊢
      exact mD
     have next:=Yr dQ eL nk ai is R4 aa aub dR fl h' aj
     simp only [Mx,Bool.and_eq_true] at oA
     refine ⟨fun _=>nk,?_⟩
     have:=next.2
     rw [show f+(i::is).length=f+is.length+ 1 by simp [Nat.add_assoc]]
     rw [Bool.or_eq_true] at wl
     rcases wl with wl | FO
     · refine aCz (v:=u) I (Region.noSelect_spec oA.1.1) FR (fun c a w h=>h) (VY wl).1 (VY wl).2.1 (f+is.length) _ a w (Region.free_spec I oA.1.2) mD (VY wl).2.2 (by simpa using oA.2) (fP.imp (fun ⟨x,y,_⟩=>⟨x,y⟩) id) nk ?_
       rw [aM]
       exact this
     · have atG:CM o.op=false:=by
        unfold adX at FO
        rw [cW,Array.getElem?_toList,I] at FO
        simpa using FO
       refine agL (v:=u) I (Region.noSelect_spec oA.1.1) FR (fun c a w h=>h) (f+is.length) _ a w (Region.free_spec I oA.1.2) (fun _=>nk) (by simpa using oA.2) (fP.imp (fun ⟨x,_,y⟩=>⟨x,fun w _=>y atG w⟩) id) ?_
       rw [aM]
       exact this
   · cases av
theorem an2 (is:List Nat) (k:Nat) (eT ao:List Nat) {os:List Oper} {fr fr':List (Nat × Value)} {L:List Nat} (dQ:qM P G) (eL:∀ w,S w->i_ w M) (af:Fr n fr a) (aj:Nat.beq is.length k=true) (mD:(dJ ops.size ds).getD p false=false) (hi:AB ops.toList is=some os) (aO:Dw ops p ds is=true)
 (he:lz G ops n M os ao fr eT=some (fr',dup L)) (nk:S w) (next:∀ aX,Fr n fr' aX->e9 P ops Q p S f (G_ is ds) aX w):e9 P ops Q p S (f+k) ds a w:=by
 have aj:=Nat.eq_of_beq_eq_true aj
 subst aj
 obtain ⟨fJ,kQ,I,aa⟩:=PX he
 exact Yr (gs:=[]) dQ eL nk (JD L) is mD hi aO af trivial I fun aX dR=>next aX (dR.sub aa)
theorem lu (i:Nat) {o:Oper} (hi:ops[i]? =some o) (hc:(Region.ready .any ops (dJ ops.size ds) == [i])=true) (fk:(dJ ops.size ds).getD p false=false->S w) (h:wpList P ops (BF (e9 P ops Q p S f (i::ds)) (NoPanic Q)) [o] a w):e9 P ops Q p S (f+ 1) ds a w:=by
 have aE:=eq_of_beq hc
 refine ⟨fk,⟨fun aQ=>(by rw [aE] at aQ;cases aQ),fun j aI=>?_⟩⟩
 rw [aE] at aI
 have:j=i:=by simpa using aI
 subst this
 exact V2 hi h
theorem Yn (i j:Nat) {o eI:Oper} (hi:ops[i]? =some o) (aI:ops[j]? =some eI) (hc:(Region.ready .any ops (dJ ops.size ds) == [i,j])=true) (fk:(dJ ops.size ds).getD p false=false->S w) (h:wpList P ops (BF (e9 P ops Q p S f (i::ds)) (NoPanic Q)) [o] a w)
 (h':wpList P ops (BF (e9 P ops Q p S f (j::ds)) (NoPanic Q)) [eI] a w):e9 P ops Q p S (f+ 1) ds a w:=by
 have aE:=eq_of_beq hc
 refine ⟨fk,⟨fun aQ=>(by rw [aE] at aQ;cases aQ),fun q aT=>?_⟩⟩
 rw [aE] at aT
 have:q=i\/q=j:=by simpa using aT
 rcases this with rfl | rfl
 · exact V2 hi h
 · exact V2 aI h'
theorem jp (h:e9 P ops Q p S f ds a w):wpList P ops (BF (e9 P ops Q p S f ds) (NoPanic Q)) [] a w:=h
end
end au
namespace au
open Go Go.RowKit J
theorem O1 (p q:List UInt8):((⟨⟨p⟩⟩:ByteArray) == ⟨⟨q⟩⟩)=decide (p=q):=by
 show ((⟨p⟩:Array UInt8) == ⟨q⟩)=_
 rw [Bool.eq_iff_iff];simp
structure kJ (cI:Type) [DecidableEq cI] where
 enc:cI->Value
 desc:TypeDesc
 same:∀ a b,Instr.sameNow desc (enc a) (enc b)=some (decide (b=a))
 bits:∀ a,Instr.sameBits 10000 (enc a) (enc a)=true
 check:∀ (P:Program) (w:World) (e:Bool) (t:TypeId) (a:cI),P.underlying t=some desc->(Instr.checkKey e 10000 t (enc a)).run P w= .ok () w
def avb:kJ Int where
 enc n:=.int .i64 n
 desc:=.int .i64
 same a b:=by
  simp only [Instr.sameNow,if_true,Option.some.injEq]
  rw [Bool.eq_iff_iff]
  simp only [beq_iff_eq,decide_eq_true_iff]
  exact eq_comm
 bits a:=by
  have h:∀ n,Instr.sameBits n (.int .i64 a) (.int .i64 a)=true:=fun n=>by cases n <;> simp [Instr.sameBits]
  exact h 10000
 check P w e t a h:=by
  have h':∀ n:Nat,(Instr.checkKey e (n+ 1) t (.int .i64 a)).run P w= .ok () w:=fun n=>by simp [Instr.checkKey,run_underlying h]
  exact h' 9999
def lM:kJ (List UInt8) where
 enc s:=cl s
 desc:=.string
 same a b:=by
  simp only [Instr.sameNow,Option.some.injEq]
  have e:decide (a=b)=decide (b=a):=by rw [decide_eq_decide];exact eq_comm
  exact (O1 a b).trans e
 bits a:=by
  have h:∀ n,Instr.sameBits n (cl a) (cl a)=true:=fun n=>by
   have e:((⟨⟨a⟩⟩:ByteArray) == ⟨⟨a⟩⟩)=true:=(O1 a a).trans (by simp)
   cases n <;> (simp only [Instr.sameBits];exact e)
  exact h 10000
 check P w e t a h:=by
  have h':∀ n:Nat,(Instr.checkKey e (n+ 1) t (cl a)).run P w= .ok () w:=fun n=>by simp [Instr.checkKey,run_underlying h]
  exact h' 9999
section
variable {cI β:Type} [DecidableEq cI] (K:kJ cI) (bV:β->Value)
def Ok (es:List MapEntry) (d:List (cI × β)):Prop:=es.map (fun e=>(e.key,e.val))=d.map (fun p=>(K.enc p.1,bV p.2))
def Yc (w:World) (r:Nat) (d:List (cI × β)):Prop:=∃ es clock,w.heap[r]? =some (.map es clock)/\Ok K bV es.toList d/\(es.toList.map (·.born)).Pairwise (· < ·)/\ ∀ e ∈ es.toList,e.born <clock
def a7.map (r:Nat) (d:List (cI × β)):a7 where
 bA:=[r]
 ok w:=Yc K bV w r d
 law w w' h aj:=by
  obtain ⟨es,c,I,aa⟩:=aj
  exact ⟨es,c,(h r (by simp)).trans I,aa⟩
def bB.map (r:Nat) (d:List (cI × β)):bB where
 ok M w:=r ∉ M/\r <w.heap.size/\Yc K bV w r d
 law M iR w w' ah hm h:=by
  obtain ⟨I,aa,es,c,aw,bi⟩:=h
  exact ⟨fun ad=>by rcases hm r ad with e | e;exact I e;omega,Nat.lt_of_lt_of_le aa ah.size,es,c,(ah.block r aa I).trans aw,bi⟩
end
section
variable {cI β:Type} [DecidableEq cI] {K:kJ cI} {bV:β->Value}
variable {P:Program} {o:Oper} {a:Act} {w:World} {x y z:Operand} {t kt EV:TypeId} {r:Nat} {d:List (cI × β)} {k:cI} {v:β}
theorem aF4 (av:o.op= .makeMap t none):bb P o a w (.map (some w.heap.size)) (w.alloc (.map #[] 0)):=by
 simp only [bb,execOp,av,Sem.run_bind]
 rfl
end
end au
namespace au
open Go Go.RowKit J
def X4 (E:List a7):Prop:=∀ (i:Nat) (x:a7),E[i]? =some x->x.bA.Nodup/\ ∀ (j:Nat) (y:a7),E[j]? =some y->i≠j-> ∀ k ∈ x.bA,k ∉ y.bA
theorem P0:∀ {E:List a7},(bW E).Nodup->X4 E
 | [],_=>fun i x h=>by simp at h
 | e::E,h=>by
   have h':(e.bA++bW E).Nodup:=by simpa [bW] using h
   rw [List.nodup_append] at h'
   obtain ⟨I,aa,aw⟩:=h'
   have bq:=P0 aa
   intro i x ad
   cases i with
   | zero=>
     simp only [List.getElem?_cons_zero,Option.some.injEq] at ad
     subst ad
     refine ⟨I,fun j y hy b3 k aj cN=>?_⟩
     cases j with
     | zero=>exact b3 rfl
     | succ j=>exact aw k aj k (List.mem_flatMap.2 ⟨y,List.mem_of_getElem? (by simpa using hy),cN⟩) rfl
   | succ i=>
     have ad:E[i]? =some x:=by simpa using ad
     refine ⟨(bq i x ad).1,fun j y hy b3 k aj cN=>?_⟩
     cases j with
     | zero=>
       simp only [List.getElem?_cons_zero,Option.some.injEq] at hy
       subst hy
       exact aw k cN k (List.mem_flatMap.2 ⟨x,List.mem_of_getElem? ad,aj⟩) rfl
     | succ j=>exact (bq i x ad).2 j y (by simpa using hy) (by omega) k aj cN
theorem ad2:∀ {E:List a7},X4 E->(bW E).Nodup
 | [],_=>by simp [bW]
 | e::E,h=>by
   have ak:bW (e::E)=e.bA++bW E:=by simp [bW]
   rw [ak,List.nodup_append]
   refine ⟨(h 0 e rfl).1,ad2 fun i x ad=>⟨(h (i+ 1) x (by simpa using ad)).1,fun j y hy b3 k aj=>(h (i+ 1) x (by simpa using ad)).2 (j+ 1) y (by simpa using hy) (by omega) k aj⟩,fun a aK b ag Kh=>?_⟩
   subst Kh
   obtain ⟨x,ad,aj⟩:=List.mem_flatMap.1 ag
   obtain ⟨i,hi,rfl⟩:=List.mem_iff_getElem.1 ad
   exact (h 0 e rfl).2 (i+ 1) E[i] (by simp [hi]) (by omega) a aK aj
def Dr (E:List a7):List Nat->Option (List a7)
 | []=>some []
 | i::r=>match nth E i,Dr E r with
   | some x,some xs=>some (x::xs)
   | _,_=>none
def KH:List Nat->Nat->Bool
 | [],_=>false
 | i::r,j=>Nat.beq i j || KH r j
def Gu:List Nat->Bool
 | []=>true
 | i::r=>!KH r i && Gu r
theorem auH {l:List Nat} {j:Nat} (h:KH l j=false):j ∉ l:=by
 induction l with
 | nil=>simp
 | cons i r bq=>
   simp only [KH,Bool.or_eq_false_iff] at h
   intro hm
   rcases List.mem_cons.1 hm with rfl | e
   · simp at h
   · exact bq h.2 e
theorem adJ:∀ {l:List Nat},Gu l=true->l.Nodup
 | [],_=>by simp
 | i::r,h=>by
   simp only [Gu,Bool.and_eq_true,Bool.not_eq_true'] at h
   exact List.nodup_cons.2 ⟨auH h.1,adJ h.2⟩
theorem Mn {E:List a7}:∀ {is:List Nat} {kH:List a7},Dr E is=some kH-> ∀ (m:Nat) (x:a7),kH[m]? =some x-> ∃ i:Nat,is[m]? =some i/\E[i]? =some x
 | [],kH,h,m,x,ad=>by simp only [Dr,Option.some.injEq] at h;subst h;simp at ad
 | i::r,kH,h,m,x,ad=>by
   simp only [Dr] at h
   split at h
   · rename_i y ys I aa
     simp only [Option.some.injEq] at h
     subst h
     cases m with
     | zero=>
       simp only [List.getElem?_cons_zero,Option.some.injEq] at ad
       subst ad
       exact ⟨i,rfl,by rw [<-cW];exact I⟩
     | succ m=>obtain ⟨q,bk,bF⟩:=Mn aa m x (by simpa using ad);exact ⟨q,by simpa using bk,bF⟩
   · cases h
section
variable {W w w':World} {M0 X:List Nat} {E:List a7} {D:List bB}
theorem bs.sel (h:bs W M0 X w E D) (is:List Nat) {kH:List a7} (aJ:Gu is=true) (ao:Dr E is=some kH):bs W M0 X w kH D:=by
 have tt:∀ x ∈ kH,x ∈ E:=fun x ad=>by
  obtain ⟨m,hm,rfl⟩:=List.mem_iff_getElem.1 ad
  obtain ⟨i,_,hi⟩:=Mn ao m _ (List.getElem?_eq_getElem hm)
  exact List.mem_of_getElem? hi
 have af:∀ k ∈ bW kH,k ∈ bW E:=fun k aj=>by
  obtain ⟨x,ad,Kv⟩:=List.mem_flatMap.1 aj
  exact List.mem_flatMap.2 ⟨x,tt x ad,Kv⟩
 have aM:=P0 h.bx
 have ow:=adJ aJ
 refine ⟨h.bV,h.hf,fun k aj=>h.lt k (af k aj),fun x ad=>h.ok x (tt x ad),ad2 fun m x ad=>?_,fun y hy=>y.law _ _ w w (bp.refl _ _) (fun k aj=>.inl ?_) (h.rd y hy)⟩
 · obtain ⟨i,hi,zP⟩:=Mn ao m x ad
   refine ⟨(aM i x zP).1,fun eU y hy b3 k aj=>?_⟩
   obtain ⟨j,aI,tC⟩:=Mn ao eU y hy
   refine (aM i x zP).2 j y tC (fun e=>?_) k aj
   subst e
   obtain ⟨l1,ak⟩:=List.getElem?_eq_some_iff.1 hi
   obtain ⟨cB,al⟩:=List.getElem?_eq_some_iff.1 aI
   rcases Nat.lt_or_gt_of_ne b3 with bE | bE
   · exact (List.pairwise_iff_getElem.1 ow m eU l1 cB bE) (ak.trans al.symm)
   · exact (List.pairwise_iff_getElem.1 ow eU m cB l1 bE) (al.trans ak.symm)
 · rcases List.mem_append.1 aj with e | e
   · exact List.mem_append.2 (.inl e)
   · exact List.mem_append.2 (.inr (af k e))
theorem Cg (A B:List a7):bW (A++B)=bW A++bW B:=by simp [bW]
theorem bs.into (h:bs W M0 X w E D) (m:Nat):bs w (bW (E.take m)) (X++bW (E.drop m)) w (E.take m) D:=by
 have a3:bW E=bW (E.take m)++bW (E.drop m):=by rw [<-Cg,List.take_append_drop]
 have aM:=h.bx
 rw [a3,List.nodup_append] at aM
 refine ⟨bp.refl _ _,fun k aj=>?_,fun k aj=>⟨(h.lt k (by rw [a3];simp [aj])).1,.inl aj⟩,fun x ad=>h.ok x (List.mem_of_mem_take ad),aM.1,fun y hy=>y.law _ _ w w (bp.refl _ _) (fun k aj=>.inl ?_) (h.rd y hy)⟩
 · rcases List.mem_append.1 aj with e | e
   · refine ⟨Nat.lt_of_lt_of_le (h.hf k e).1 h.bV.size,fun cN=>?_⟩
     have:=(h.lt k (by rw [a3];simp [cN])).2
     rcases this with al | al
     · exact (h.hf k e).2 al
     · have:=(h.hf k e).1;omega
   · exact ⟨(h.lt k (by rw [a3];simp [e])).1,fun cN=>aM.2.2 k cN k e rfl⟩
 · rw [a3]
   simp only [List.mem_append] at aj ⊢
   rcases aj with (e | e) | e <;> simp [e]
def Oo:List bB->Prop
 | []=>True
 | y::r=>(∀ M iR w w',y.ok M w->y.ok iR w')/\Oo r
theorem X5:∀ {D:List bB},Oo D-> ∀ y ∈ D,∀ M iR w w',y.ok M w->y.ok iR w'
 | [],_,y,hy=>by simp at hy
 | z::r,h,y,hy=>by
   rcases List.mem_cons.1 hy with rfl | e
   · exact h.1
   · exact X5 h.2 y e
theorem bs.Yy (h:bs W M0 X w E D) (m:Nat) {lq:List Nat} {qQ:List a7} {fV:List bB} (k:bs w (bW (E.take m)) lq w' qQ fV) (Cn:∀ y ∈ fV,y.ok (X++bW (qQ++E.drop m)) w'):bs W M0 X w' (qQ++E.drop m) (fV++D):=by
 have a3:bW E=bW (E.take m)++bW (E.drop m):=by rw [<-Cg,List.take_append_drop]
 have aM:=h.bx
 rw [a3,List.nodup_append] at aM
 have kd:∀ b ∈ bW (E.take m),b <w.heap.size/\(b ∈ M0\/W.heap.size<=b):=fun b ag=>h.lt b (by rw [a3];simp [ag])
 have eH:∀ b ∈ bW (E.drop m),b <w.heap.size/\(b ∈ M0\/W.heap.size<=b):=fun b ag=>h.lt b (by rw [a3];simp [ag])
 have ah:=k.bV
 have Ri:∀ b ∈ bW qQ,b ∉ bW (E.drop m):=fun b ag fL=>by
  rcases (k.lt b ag).2 with e | e
  · exact aM.2.2 b e b fL rfl
  · have:=(eH b fL).1;omega
 refine ⟨h.bV.trans ah (fun b ag=>(kd b ag).2),h.hf,fun b ag=>?_,fun x ad=>?_,?_,fun y hy=>?_⟩
 · rw [Cg] at ag
   rcases List.mem_append.1 ag with e | e
   · refine ⟨(k.lt b e).1,?_⟩
     rcases (k.lt b e).2 with al | al
     · exact (kd b al).2
     · exact .inr (Nat.le_trans h.bV.size al)
   · exact ⟨Nat.lt_of_lt_of_le (eH b e).1 ah.size,(eH b e).2⟩
 · rcases List.mem_append.1 ad with e | e
   · exact k.ok x e
   · refine x.law w w' (fun b ag=>?_) (h.ok x (List.mem_of_mem_drop e))
     have fL:b ∈ bW (E.drop m):=List.mem_flatMap.2 ⟨x,e,ag⟩
     exact ah.block b (eH b fL).1 (fun aj=>aM.2.2 b aj b fL rfl)
 · rw [Cg,List.nodup_append]
   exact ⟨k.bx,aM.2.1,fun a aK b ag e=>by subst e;exact Ri a aK ag⟩
 · rcases List.mem_append.1 hy with e | e
   · exact Cn y e
   · refine y.law _ _ w w' (ah.mono fun b ag=>?_) (fun b ag=>?_) (h.rd y e)
     · rw [a3];simp [ag]
     · rw [Cg] at ag
       rw [a3]
       simp only [List.mem_append] at ag ⊢
       rcases ag with ak | ak | ak
       · simp [ak]
       · rcases (k.lt b ak).2 with al | al
         · simp [al]
         · exact .inr al
       · simp [ak]
theorem bs.back (h:bs W M0 X w E D) (m:Nat) {qQ:List a7} {fV:List bB} (k:bs w (bW (E.take m)) (X++bW (E.drop m)) w' qQ fV):bs W M0 X w' (qQ++E.drop m) (fV++D):=
 h.Yy m k fun y hy=>y.law _ _ w' w' (bp.refl _ _) (fun b ag=>.inl (by
   rw [Cg] at ag
   simp only [List.mem_append] at ag ⊢
   rcases ag with e | e | e <;> simp [e])) (k.rd y hy)
theorem bs.fX (h:bs W M0 X w E D) (m:Nat) {lq:List Nat} {qQ:List a7} {fV:List bB} (aD:Oo fV) (k:bs w (bW (E.take m)) lq w' qQ fV):bs W M0 X w' (qQ++E.drop m) (fV++D):=
 h.Yy m k fun y hy=>X5 aD y hy _ _ _ _ (k.rd y hy)
end
end au
namespace au
open Go Go.RowKit J
section
variable {P:Program} {ops:Array Oper} {Q:Exit->Act->World->Prop} {a:Act} {w:World} {rest:List Oper} {o:Oper} {n:cE} {d:Nat} {l:List (Nat × Value)}
 {W:World} {M0 X:List Nat} {E:List a7} {D:List bB}
theorem bs.afu (h:bs W M0 X w E D) {α:Type} {T:cY α} {xs:List Value} {li:List α} (aE:dS T (hI (X++bW E) w) w xs li):bs W M0 X w E (bB.rows T xs li::D):=h.more aE
theorem Mm {α:Type} {T:cY α} {t e:TypeId} {x y:Operand} {z:Value} {bytes m c:Nat} {v:Value} {li ml l':List α} {xs cs:List Value} {dY:Addr} (i:Nat) (hm:bs W M0 X w E D) (hi:E[i]? =some (a7.row e T.size v li xs))
 (fD:P.underlying t=some (.slice e)) (jQ:(P.info? e).map (fun i=>(i.zero,i.size,i.bytes))=some (some z,T.size,bytes)) (ai:z.cells.size=T.size) (d_:0 <T.size)
 (aE:bK bytes li ml=some l') (wh:ml.length=m) (mB:0 <bytes)
 (jt:dS T (hI (X++bW E) w) w xs li) (hcs:dS T (hI (X++bW E) w) w cs ml) (il:∀ j u,cs[j]? =some u->w.cell? (dY.add j)=some u)
 (hw:Region.wanted o (yielded ops a.tmps)=true)
 (av:o.op= .call { callee:=.builtin .append,args:=#[x,y],argTypes:=#[t,t] }) (ad:a.eval x=v) (hy:a.eval y= .slice (some dY) m c) (af:Fr n l a) (aM:o.dst=some d) (aJ:Nat.blt d n=true)
 (k:∀ aX A bH w',bp v.ownBlock.toList w w'->Fr n ((d,.slice A l'.length bH)::l) aX->bs W M0 X w' (E.set i (a7.row e T.size (.slice A l'.length bH) l' (xs++cs))) (bB.rows T (xs++cs) l'::D)->wpList P ops Q rest aX w'):wpList P ops Q (o::rest) a w:=by
 obtain ⟨i0,RA,acj,zL,q_⟩:=aco jQ
 obtain ⟨zy,rfl⟩:=I7 aE
 have kj:w.ownsRow 0 e T.size v li.length xs:=hm.e i hi
 subst wh
 have asD:li.length+ml.length<=maxLen:=by
  have aa:=Nat.le_mul_of_pos_right (li.length+ml.length) mB
  simp only [maxLen]
  omega
 obtain ⟨e4,w',fO,aa,aw,_,dA⟩:=run_append_own_at (P:=P) w 0 t o.type e i0 z T.size bytes fD RA acj zL q_ ai d_ v li.length xs kj dY ml.length c cs (uz T hcs)
  il (Dj T hcs) asD zy (Nat.zero_le _)
 have oz:(a7.row e T.size e4 (li++ml) (xs++cs)).ok w':=by
  show w'.ownsRow 0 e T.size e4 (li++ml).length (xs++cs)
  rw [List.length_append];exact aa
 obtain ⟨A,bH,rfl,_⟩:=Ha oz
 have nu:bb P o a w (.slice A (li++ml).length bH) w':=by
  simp only [bb,execOp,av,resolve,invoke,builtin,Sem.run_bind,Sem.run_pure,Result.andThen_ok,List.map_toArray,List.map_cons,List.map_nil,ad,hy,fO]
 have wg:=hm.afu (G1 T hcs jt)
 refine nT hw nu af aM aJ fun aX dR=>k aX A bH w' (bp.grown aw) dR (wg.MB i hi (bp.grown aw) oz (ayf _) fun q aT=>?_)
 have tx:(Value.slice A (li++ml).length bH).ownBlock=some q:=by simpa [a7.row] using aT
 rcases dA with dw | dw
 · left;simpa [a7.row,<-dw] using tx
 · right
   rw [dw] at tx
   injection tx with tx
   subst tx
   refine ⟨Nat.le_refl _,?_⟩
   rcases aa.2 with ⟨ah,_⟩ | ⟨g',cap,cur,ah,_,fl,_⟩
   · rw [ah] at dw;simp [Value.ownBlock] at dw
   · rw [ah] at dw
     have:g'=w.heap.size:=by simpa [Value.ownBlock] using dw
     subst this
     exact (Array.getElem?_eq_some_iff.1 fl).1
theorem Hc {α:Type} {T:cY α} {t e:TypeId} {x y:Operand} {z:Value} {bytes g m c:Nat} {v:Value} {li ml l':List α} {xs cs:List Value} (i j q:Nat) (hm:bs W M0 X w E D) (hi:E[i]? =some (a7.row e T.size v li xs)) (aI:E[j]? =some (a7.dU g e cs)) (aT:D[q]? =some (bB.rows T xs li))
 (fD:P.underlying t=some (.slice e)) (jQ:(P.info? e).map (fun i=>(i.zero,i.size,i.bytes))=some (some z,T.size,bytes)) (ai:z.cells.size=T.size) (d_:Nat.blt 0 T.size=true)
 (aE:bK bytes li ml=some l') (wh:ml.length=m) (mB:Nat.blt 0 bytes=true) (hcs:dS T (hI (X++bW E) w) w cs ml)
 (hw:Region.wanted o (yielded ops a.tmps)=true)
 (av:o.op= .call { callee:=.builtin .append,args:=#[x,y],argTypes:=#[t,t] }) (ad:a.eval x=v) (hy:a.eval y= .slice (some ⟨g,0,none⟩) m c) (af:Fr n l a) (aM:o.dst=some d) (aJ:Nat.blt d n=true)
 (k:∀ aX A bH eX w',Fr n ((d,.slice A l'.length bH)::l) aX->bs W M0 X w' ((E.set i (a7.row e T.size (.slice A l'.length bH) l' eX)).eraseIdx j) (bB.rows T eX l'::D)->wpList P ops Q rest aX w'):wpList P ops Q (o::rest) a w:=by
 have ag:=hm.e j aI
 exact Mm i hm hi fD jQ ai (Nat.le_of_ble_eq_true d_) aE wh (Nat.le_of_ble_eq_true mB) (hm.d q aT) hcs (fun j u hu=>by rw [j9];simpa using vF ag hu) hw av ad hy af aM aJ
  fun aX A bH w' _ dR dH=>k aX A bH _ w' dR (dH.JE j)
theorem Vu {α:Type} {T:cY α} {t e:TypeId} {x y:Operand} {z:Value} {bytes g m c:Nat} {v:Value} {li ml l':List α} {xs cs:List Value} (i j q:Nat) (hm:bs W M0 X w E D) (hi:E[i]? =some (a7.row e T.size v li xs)) (aI:E[j]? =some (a7.dU g e cs)) (aT:D[q]? =some (bB.rows T xs li))
 (fD:P.underlying t=some (.slice e)) (jQ:(P.info? e).map (fun i=>(i.zero,i.size,i.bytes))=some (some z,T.size,bytes)) (ai:z.cells.size=T.size) (d_:Nat.blt 0 T.size=true)
 (aE:bK bytes li ml=some l') (wh:ml.length=m) (mB:Nat.blt 0 bytes=true) (hcs:dS T (hI (X++bW E) w) w cs ml)
 (hw:Region.wanted o (yielded ops a.tmps)=true)
 (av:o.op= .call { callee:=.builtin .append,args:=#[x,y],argTypes:=#[t,t] }) (ad:a.eval x=v) (hy:a.eval y= .slice (some ⟨g,0,none⟩) m c) (af:Fr n l a) (aM:o.dst=some d) (aJ:Nat.blt d n=true)
 (k:∀ aX A bH eX w',bp v.ownBlock.toList w w'->Fr n ((d,.slice A l'.length bH)::l) aX->bs W M0 X w' ((E.set i (a7.row e T.size (.slice A l'.length bH) l' eX)).eraseIdx j) (bB.rows T eX l'::D)->wpList P ops Q rest aX w'):wpList P ops Q (o::rest) a w:=by
 have ag:=hm.e j aI
 exact Mm i hm hi fD jQ ai (Nat.le_of_ble_eq_true d_) aE wh (Nat.le_of_ble_eq_true mB) (hm.d q aT) hcs (fun j u hu=>by rw [j9];simpa using vF ag hu) hw av ad hy af aM aJ
  fun aX A bH w' ah dR dH=>k aX A bH _ w' ah dR (dH.JE j)
theorem aFM {t e:TypeId} {x y:Operand} {v:Value} {sz k:Nat} {xs:List Value} {z:Value} {bytes:Nat} (fD:P.underlying t=some (.slice e)) (jQ:(P.info? e).map (fun i=>(i.zero,i.size,i.bytes))=some (some z,sz,bytes)) (kj:w.ownsRow 0 e sz v k xs)
 (av:o.op= .call { callee:=.builtin .append,args:=#[x,y],argTypes:=#[t,t] }) (ad:a.eval x=v) (hy:a.eval y= .slice none 0 0):bb P o a w v w:=by
 obtain ⟨i0,RA,acj,zL,q_⟩:=aco jQ
 have fO:=run_append_owned_none (P:=P) (w:=w) 0 t o.type e i0 sz fD RA v k xs kj
 simp only [bb,execOp,av,resolve,invoke,builtin,Sem.run_bind,Sem.run_pure,Result.andThen_ok,List.map_toArray,List.map_cons,List.map_nil,ad,hy,fO]
theorem aBC {α:Type} {T:cY α} {t e:TypeId} {x y:Operand} {z:Value} {bytes c:Nat} {v:Value} {li ml l':List α} {xs:List Value} {o9:Option Addr} (i q p:Nat) (hm:bs W M0 X w E D) (hi:E[i]? =some (a7.row e T.size v li xs)) (aT:D[q]? =some (bB.rows T xs li)) (aN:D[p]? =some (bB.of (b4 T) [.slice o9 ml.length c] ml))
 (fD:P.underlying t=some (.slice e)) (jQ:(P.info? e).map (fun i=>(i.zero,i.size,i.bytes))=some (some z,T.size,bytes)) (ai:z.cells.size=T.size) (d_:Nat.blt 0 T.size=true)
 (aE:bK bytes li ml=some l') (mB:Nat.blt 0 bytes=true)
 (hw:Region.wanted o (yielded ops a.tmps)=true)
 (av:o.op= .call { callee:=.builtin .append,args:=#[x,y],argTypes:=#[t,t] }) (ad:a.eval x=v) (hy:a.eval y= .slice o9 ml.length c) (af:Fr n l a) (aM:o.dst=some d) (aJ:Nat.blt d n=true)
 (k:∀ aX A bH eX w',bp v.ownBlock.toList w w'->Fr n ((d,.slice A l'.length bH)::l) aX->bs W M0 X w' (E.set i (a7.row e T.size (.slice A l'.length bH) l' eX)) (bB.rows T eX l'::D)->wpList P ops Q rest aX w'):wpList P ops Q (o::rest) a w:=by
 have jt:=hm.d q aT
 have as5:(b4 T).rd (hI (X++bW E) w) w [.slice o9 ml.length c] ml:=hm.d p aN
 obtain ⟨ea,c1,ak,al,aV,bS,dw⟩:=as5
 simp only [List.cons.injEq,Value.slice.injEq,and_true,true_and] at ak
 obtain ⟨rfl,rfl⟩:=ak
 by_cases wh:ml= []
 · subst wh
   cases o9 with
   | none=>
     have kU:=bS rfl
     subst kU
     have kj:w.ownsRow 0 e T.size v li.length xs:=hm.e i hi
     have oz:(a7.row e T.size v li xs).ok w:=hm.e i hi
     obtain ⟨A,bH,rfl,_⟩:=Ha oz
     obtain ⟨_,rfl⟩:=I7 aE
     refine nT hw (aFM fD jQ kj av ad hy) af aM aJ fun aX dR=>?_
     have aq:li++[]=li:=List.append_nil li
     refine k aX A bH xs w (bp.refl _ w) (by rw [aq];exact dR) ?_
     rw [aq]
     have a3:E.set i (a7.row e T.size (.slice A li.length bH) li xs)=E:=by
      obtain ⟨bE,he⟩:=List.getElem?_eq_some_iff.1 hi
      rw [<-he,List.set_getElem_self]
     rw [a3]
     exact hm.more jt
   | some dY=>
     exact Mm (cs:=[]) i hm hi fD jQ ai (Nat.le_of_ble_eq_true d_) aE rfl (Nat.le_of_ble_eq_true mB) jt rfl (fun j u hu=>by simp at hu) hw av ad hy af aM aJ fun aX A bH w' ah dR dH=>k aX A bH _ w' ah dR dH
 · obtain ⟨dC,bG,cs,fK,iT⟩:=dw wh
   rw [dC] at hy
   exact Mm (cs:=cs) i hm hi fD jQ ai (Nat.le_of_ble_eq_true d_) aE rfl (Nat.le_of_ble_eq_true mB) jt fK (fun j u hu=>by rw [j9];exact iT j u hu) hw av ad hy af aM aJ fun aX A bH w' ah dR dH=>k aX A bH _ w' ah dR dH
theorem aBB {α:Type} {T:cY α} {t e:TypeId} {x y:Operand} {z:Value} {bytes c:Nat} {v:Value} {li ml l':List α} {xs:List Value} {o9:Option Addr} (i q p:Nat) (hm:bs W M0 X w E D) (hi:E[i]? =some (a7.row e T.size v li xs)) (aT:D[q]? =some (bB.rows T xs li)) (aN:D[p]? =some (bB.of (b4 T) [.slice o9 ml.length c] ml))
 (fD:P.underlying t=some (.slice e)) (jQ:(P.info? e).map (fun i=>(i.zero,i.size,i.bytes))=some (some z,T.size,bytes)) (ai:z.cells.size=T.size) (d_:Nat.blt 0 T.size=true)
 (aE:bK bytes li ml=some l') (mB:Nat.blt 0 bytes=true)
 (hw:Region.wanted o (yielded ops a.tmps)=true)
 (av:o.op= .call { callee:=.builtin .append,args:=#[x,y],argTypes:=#[t,t] }) (ad:a.eval x=v) (hy:a.eval y= .slice o9 ml.length c) (af:Fr n l a) (aM:o.dst=some d) (aJ:Nat.blt d n=true)
 (k:∀ aX A bH eX w',Fr n ((d,.slice A l'.length bH)::l) aX->bs W M0 X w' (E.set i (a7.row e T.size (.slice A l'.length bH) l' eX)) (bB.rows T eX l'::D)->wpList P ops Q rest aX w'):wpList P ops Q (o::rest) a w:=
 aBC i q p hm hi aT aN fD jQ ai d_ aE mB hw av ad hy af aM aJ fun aX A bH eX w' _=>k aX A bH eX w'
theorem xk {x:Value} {y:Nat} {code:BoundsCode} {k:IntKind} {i:Int} (ad:x= .int k i) (h:0 <=i/\i<=y):(Instr.sliceBound x y code).run P w= .ok i.toNat w:=by
 subst ad
 simp [Instr.sliceBound,asIntOf,h]
end
end au
namespace au
open Go Go.RowKit J
section
variable {α:Type} {T:cY α}
theorem Va {F:Nat->Prop} {w:World} {d':α} {jL:List Value} (h':T.rd F w jL d'):∀ {li:List α} {xs:List Value} {i:Nat},dS T F w xs li->i <li.length->dS T F w (xs.take (i*T.size)++jL++xs.drop (i*T.size+T.size)) (li.set i d')
 | [],_,i,_,hi=>by simp at hi
 | d::r,xs,0,h,_=>by
   obtain ⟨cs,ys,rfl,I,aa⟩:=h
   have aq:=T.len I
   refine ⟨jL,ys,?_,h',aa⟩
   simp [<-aq]
 | d::r,xs,i+ 1,h,hi=>by
   obtain ⟨cs,ys,rfl,I,aa⟩:=h
   have aq:=T.len I
   have bq:=Va h' aa (i:=i) (by simpa using hi)
   refine ⟨cs,_,?_,I,bq⟩
   have ak:(i+ 1)*T.size=cs.length+i*T.size:=by rw [Nat.add_mul];omega
   rw [ak,List.take_append,List.take_of_length_le (by omega),show cs.length+i*T.size - cs.length=i*T.size by omega,List.drop_append,List.drop_of_length_le (l:=cs) (by omega),
    show cs.length+i*T.size+T.size - cs.length=i*T.size+T.size by omega]
   simp
end
theorem VF {β:Type} {L vs:List β} {p N:Nat} (I:p+vs.length<=N) (aa:N<=L.length):(L.take p++vs++L.drop (p+vs.length)).take N=(L.take N).take p++vs++(L.take N).drop (p+vs.length):=by
 have aq:(L.take p++vs).length=p+vs.length:=by rw [List.length_append,List.length_take];omega
 rw [List.take_append,List.take_of_length_le (by omega),aq,List.take_take,Nat.min_eq_left (by omega),List.drop_take]
section
variable {P:Program} {ops:Array Oper} {Q:Exit->Act->World->Prop} {a:Act} {w:World} {rest:List Oper} {o:Oper} {n:cE} {d:Nat} {l:List (Nat × Value)}
 {W:World} {M0 X:List Nat} {E:List a7} {D:List bB}
theorem aaH {xs cs:List Value} {p:Nat} (h:∀ j u,cs[j]? =some u->xs[p+j]? =some u):(xs.drop p).take cs.length=cs:=by
 apply List.ext_getElem?
 intro j
 rw [List.getElem?_take]
 by_cases aI:j <cs.length
 · rw [if_pos aI,List.getElem?_drop,List.getElem?_eq_getElem aI]
   exact h j _ (List.getElem?_eq_getElem aI)
 · rw [if_neg aI,List.getElem?_eq_none (by omega)]
theorem aBJ {α:Type} {T:cY α} {t e:TypeId} {x y:Operand} {A:Option Addr} {c kk sz:Nat} {li:List α} {xs cs0 vs:List Value} {z:Int} {d0 d':α} {v:Value} (i q:Nat) (hm:bs W M0 X w E D) (hi:E[i]? =some (a7.row e T.size (.slice A li.length c) li xs)) (aT:D[q]? =some (bB.rows T xs li))
 (ai:idx li z=some d0) (hcs:T.rd (hI (X++bW E) w) w cs0 d0) (hB:e5 w ⟨dk A,gg A+z.toNat*T.size,none⟩ cs0) (hw:Region.wanted o (yielded ops a.tmps)=true)
 (ah:v.cells=vs.toArray) (ao:∀ w,(Go.sizeOf t).run P w= .ok sz w) (aq:Nat.beq vs.length sz=true) (I:vs.all (·.oneCell')=true) (hle:Nat.ble (kk+vs.length) cs0.length=true)
 (FM:T.rd (hI (X++bW E) w) w (lay cs0 kk vs) d')
 (av:o.op= .store t x y) (ad:a.eval x= .pointer (some ⟨dk A,gg A+z.toNat*T.size+kk,none⟩)) (hy:a.eval y=v) (aM:o.dst=none)
 (k:∀ eX w',bp (Value.slice A li.length c).ownBlock.toList w w'->bs W M0 X w' (E.set i (a7.row e T.size (.slice A li.length c) (li.set z.toNat d') eX)) (bB.rows T eX (li.set z.toNat d')::D)->wpList P ops Q rest a w'):wpList P ops Q (o::rest) a w:=by
 obtain ⟨hU,yn,Eb⟩:=km ai
 have hlen:vs.length=sz:=Nat.eq_of_beq_eq_true aq
 have CA:kk+vs.length<=cs0.length:=Nat.le_of_ble_eq_true hle
 have kU:=T.len hcs
 have kj:w.ownsRow 0 e T.size (.slice A li.length c) li.length xs:=hm.e i hi
 have at4:dS T (hI (X++bW E) w) w xs li:=hm.d q aT
 rcases kj.2 with ⟨_,dg⟩ | ⟨g,cap,cur,ak,_,ax,ab1,rc,Rq,aud⟩
 · omega
 simp only [Value.slice.injEq,true_and] at ak
 obtain ⟨rfl,rfl⟩:=ak
 have asE:dk (some ⟨g,0,none⟩)=g:=rfl
 have atI:gg (some ⟨g,0,none⟩)= 0 :=rfl
 simp only [asE,atI,Nat.zero_add] at ad hB
 have hmul:(z.toNat+ 1)*T.size<=li.length*T.size:=Nat.mul_le_mul_right _ yn
 have aG3:li.length*T.size<=c*T.size:=Nat.mul_le_mul_right _ ab1
 have aG5:(z.toNat+ 1)*T.size=z.toNat*T.size+T.size:=by rw [Nat.add_mul,Nat.one_mul]
 have rr:xs.length=li.length*T.size:=kj.1
 have hold:(xs.drop (z.toNat*T.size)).take cs0.length=cs0:=aaH fun j u aI=>by
  have:=hB j u aI
  have tr:j <cs0.length:=(List.getElem?_eq_some_iff.1 aI).1
  rw [World.ownsRow.cellAt kj (z.toNat*T.size+j) (by omega)] at this
  exact this
 have eZ:=run_storeCells_at P g (z.toNat*T.size+kk) e vs 0 cur w ax (by omega) (fun u hu=>List.all_eq_true.1 I u hu)
 simp only [Nat.add_zero] at eZ
 obtain ⟨p,aN⟩:∃ p,p=z.toNat*T.size+kk:=⟨_,rfl⟩
 rw [<-aN] at eZ ad
 have aGW:cur.toList.length=c*T.size:=by simpa using Rq
 obtain ⟨eX,Sa⟩:∃ eX,eX=xs.take p++vs++xs.drop (p+vs.length):=⟨_,rfl⟩
 have atF:eX=xs.take (z.toNat*T.size)++lay cs0 kk vs++xs.drop (z.toNat*T.size+T.size):=by
  rw [Sa,SV _ _ _ CA]
  have at':xs=xs.take (z.toNat*T.size)++(cs0++xs.drop (z.toNat*T.size+T.size)):=by
   conv=>lhs;rw [<-List.take_append_drop (z.toNat*T.size) xs]
   congr 1
   rw [<-List.take_append_drop cs0.length (xs.drop (z.toNat*T.size)),hold,List.drop_drop,kU]
  have Kw:(xs.take (z.toNat*T.size)).length=z.toNat*T.size:=by rw [List.length_take];omega
  conv=>lhs;rw [at']
  rw [List.take_append,List.take_of_length_le (by rw [Kw];omega),Kw,List.drop_append,List.drop_of_length_le (l:=xs.take (z.toNat*T.size)) (by rw [Kw];omega),Kw,
   show p - z.toNat*T.size=kk by omega,show p+vs.length - z.toNat*T.size=kk+vs.length by omega,List.take_append_of_le_length (by omega),List.drop_append_of_le_length (by omega)]
  simp
 have aur:eX.length=li.length*T.size:=by
  rw [Sa];simp only [List.length_append,List.length_take,List.length_drop];omega
 have oz:(a7.row e T.size (.slice (some ⟨g,0,none⟩) li.length c) (li.set z.toNat d') eX).ok (w.setRow g (cur.toList.take p++vs++cur.toList.drop (p+vs.length)).toArray):=by
  show World.ownsRow _ 0 e T.size _ (li.set z.toNat d').length eX
  rw [List.length_set]
  refine ⟨aur,.inr ⟨g,c,(cur.toList.take p++vs++cur.toList.drop (p+vs.length)).toArray,rfl,Nat.zero_le _,?_,ab1,rc,?_,?_⟩⟩
  · simp only [World.setRow,Array.getElem?_modify,if_true,ax]
    rfl
  · simp only [List.size_toArray,List.length_append,List.length_take,List.length_drop];omega
  · rw [List.toList_toArray,Sa,<-aud]
    exact VF (by omega) (by omega)
 have Sc:pr P o a w (w.setRow g (cur.toList.take p++vs++cur.toList.drop (p+vs.length)).toArray):=by
  simp only [pr,execOp,av,ad,hy]
  simp only [List.append_assoc,hlen] at eZ ⊢
  have fZ:=ah
  unfold Value.cells at fZ
  simp [go_sem,Instr.storeAt,storeVar,ao,fZ,hlen,eZ]
 have wg:=hm.afu (T:=T) (xs:=eX) (li:=li.set z.toNat d') (by rw [atF];exact Va FM at4 yn)
 have im:bp (Value.slice (some ⟨g,0,none⟩) li.length c).ownBlock.toList w (w.setRow g (cur.toList.take p++vs++cur.toList.drop (p+vs.length)).toArray):=⟨rfl,rfl,rfl,by simp [World.setRow],fun b _ aJ=>by
  simp only [World.setRow,Array.getElem?_modify]
  rw [if_neg (by simpa [Value.ownBlock,eq_comm] using aJ)]⟩
 exact iC hw Sc aM (k eX _ im (wg.MB i hi im oz (by simp [a7.row,Value.ownBlock]) (fun b ag=>.inl (by simpa [a7.row] using ag))))
theorem aBK {α:Type} {T:cY α} {t e:TypeId} {x y:Operand} {A:Option Addr} {c kk sz:Nat} {li cB:List α} {xs cs0 vs:List Value} {z:Int} {d0 d':α} {v:Value} (i q:Nat) (FH:some (li.set z.toNat d')=some cB) (hm:bs W M0 X w E D) (hi:E[i]? =some (a7.row e T.size (.slice A li.length c) li xs)) (aT:D[q]? =some (bB.rows T xs li))
 (ai:idx li z=some d0) (hcs:T.rd (hI (X++bW E) w) w cs0 d0) (hB:e5 w ⟨dk A,gg A+z.toNat*T.size,none⟩ cs0) (hw:Region.wanted o (yielded ops a.tmps)=true)
 (ah:v.cells=vs.toArray) (ao:∀ w,(Go.sizeOf t).run P w= .ok sz w) (aq:Nat.beq vs.length sz=true) (I:vs.all (·.oneCell')=true) (hle:Nat.ble (kk+vs.length) cs0.length=true)
 (FM:T.rd (hI (X++bW E) w) w (lay cs0 kk vs) d')
 (av:o.op= .store t x y) (ad:a.eval x= .pointer (some ⟨dk A,gg A+z.toNat*T.size+kk,none⟩)) (hy:a.eval y=v) (aM:o.dst=none)
 (k:∀ eX w',li.length=cB.length->bp (Value.slice A li.length c).ownBlock.toList w w'->bs W M0 X w' (E.set i (a7.row e T.size (.slice A li.length c) cB eX)) (bB.rows T eX cB::D)->wpList P ops Q rest a w'):wpList P ops Q (o::rest) a w:=by
 obtain rfl:=Option.some.inj FH
 exact aBJ i q hm hi aT ai hcs hB hw ah ao aq I hle FM av ad hy aM fun eX w'=>k eX w' (by rw [List.length_set])
theorem aBo {A:Option Addr} {m c sz:Nat} {t e:TypeId} {lo hi:Option Value} {i j:Int} (aO:P.underlying t=some (.slice e)) (ao:∀ w,(Go.sizeOf e).run P w= .ok sz w)
 (ns:(lo=none/\i= 0)\/lo=some (.int .i64 i)) (jP:(hi=none/\j=m)\/hi=some (.int .i64 j)) (h:0 <=i/\i<=j/\j<=m) (abY:m<=c) :
 (Instr.slice t (.slice A m c) lo hi none).run P w= .ok (.slice (if c=i.toNat then A else A.map (·.add (i.toNat*sz))) (j.toNat - i.toNat) (c - i.toNat)) w:=by
 have ag:(Instr.sliceBounds true m c lo hi none).run P w= .ok (i.toNat,j.toNat,c) w:=by
  have bY:∀ code,(Instr.sliceBound (.int .i64 j) c code).run P w= .ok j.toNat w:=fun code=>xk rfl (by omega)
  have eA:∀ code,(Instr.sliceBound (.int .i64 i) j.toNat code).run P w= .ok i.toNat w:=fun code=>xk rfl (by omega)
  have hJ:j=m-> ∀ code,(Instr.sliceBound (.int .i64 i) m code).run P w= .ok i.toNat w:=fun e code=>xk rfl (by omega)
  rcases ns with ⟨rfl,rfl⟩ | rfl <;> rcases jP with ⟨rfl,aI⟩ | rfl
  · simp [Instr.sliceBounds,aI]
  · simp [Instr.sliceBounds,bY]
  · simp [Instr.sliceBounds,hJ aI,aI]
  · simp [Instr.sliceBounds,bY,eA]
 simp [Instr.slice,run_underlying aO,ag,ao]
theorem NJ {A:Option Addr} {m c sz:Nat} {t e:TypeId} {x:Operand} {lo hi:Option Operand} {i j:Int} (aO:P.underlying t=some (.slice e)) (ao:∀ w,(Go.sizeOf e).run P w= .ok sz w) (av:o.op= .slice t x lo hi none) (ad:a.eval x= .slice A m c)
 (ns:(lo=none/\i= 0)\/ ∃ z,lo=some z/\a.eval z= .int .i64 i) (jP:(hi=none/\j=m)\/ ∃ z,hi=some z/\a.eval z= .int .i64 j) (h:0 <=i/\i<=j/\j<=m) (abY:m<=c) :
 bb P o a w (.slice (if c=i.toNat then A else A.map (·.add (i.toNat*sz))) (j.toNat - i.toNat) (c - i.toNat)) w:=by
 have aE:=aBo (P:=P) (w:=w) (A:=A) (m:=m) (c:=c) (lo:=lo.map a.eval) (hi:=hi.map a.eval) aO ao (i:=i) (j:=j)
  (ns.imp (fun h=>⟨by rw [h.1];rfl,h.2⟩) (fun ⟨z,I,aa⟩=>by rw [I,Option.map_some,aa])) (jP.imp (fun h=>⟨by rw [h.1];rfl,h.2⟩) (fun ⟨z,I,aa⟩=>by rw [I,Option.map_some,aa])) h abY
 simp only [bb,execOp,av,ad,Instr.sliceAt,Sem.run_bind,run_underlying aO,Result.andThen_ok,Option.map_none,aE]
 rfl
theorem Pj {α:Type} {l r:List α} {i j:Int} (h:cut l i j=some r):(0 <=i/\i<=j/\j<=l.length)/\r=(l.take j.toNat).drop i.toNat:=by
 unfold cut at h
 split at h
 · rename_i aQ;exact ⟨aQ,by simpa using h.symm⟩
 · cases h
theorem rZ {α:Type} {T:cY α} {F:Nat->Prop} {w:World}:∀ {l:List α} {xs:List Value} (i j:Nat),dS T F w xs l->dS T F w ((xs.take (j*T.size)).drop (i*T.size)) ((l.take j).drop i)
 | [],xs,i,j,h=>by
   have h:xs= []:=h
   subst h
   have e:(([]:List α).take j).drop i= []:=by simp
   rw [e]
   show List.drop _ (List.take _ _)= []
   simp
 | d::r,xs,i,0,h=>by
   have e:((d::r).take 0).drop i= []:=by simp
   rw [e]
   show List.drop _ (List.take _ _)= []
   simp
 | d::r,xs,0,j+ 1,h=>by
   obtain ⟨cs,ys,rfl,I,aa⟩:=h
   have aq:=T.len I
   have bq:=rZ 0 j aa
   simp only [Nat.zero_mul,List.drop_zero] at bq ⊢
   rw [List.take_succ_cons,show (j+ 1)*T.size=cs.length+j*T.size by rw [Nat.add_mul];omega,List.take_append,List.take_of_length_le (by omega),show cs.length+j*T.size - cs.length=j*T.size by omega]
   exact ⟨cs,_,rfl,I,bq⟩
 | d::r,xs,i+ 1,j+ 1,h=>by
   obtain ⟨cs,ys,rfl,I,aa⟩:=h
   have aq:=T.len I
   have bq:=rZ i j aa
   rw [List.take_succ_cons,List.drop_succ_cons,show (j+ 1)*T.size=cs.length+j*T.size by rw [Nat.add_mul];omega,List.take_append,List.take_of_length_le (by omega),show cs.length+j*T.size - cs.length=j*T.size by omega,
    show (i+ 1)*T.size=cs.length+i*T.size by rw [Nat.add_mul];omega,List.drop_append,List.drop_of_length_le (l:=cs) (by omega),show cs.length+i*T.size - cs.length=i*T.size by omega,List.nil_append]
   exact bq
end
end au
namespace au
open Go Go.RowKit J
section
variable {P:Program} {ops:Array Oper} {Q:Exit->Act->World->Prop} {a:Act} {w:World} {rest:List Oper} {o:Oper} {n:cE} {d:Nat} {l:List (Nat × Value)}
 {W:World} {M0 X:List Nat} {E:List a7} {D:List bB}
theorem Fr.kL (af:Fr n l a) (t:Nat) {b c:Bool} (aq:ep l t=some (.bool b)) (ag:b=c):Fr n ((t,.bool c)::l) a:=
 ⟨af.size,af.defers,fun u v h=>by
  simp only [ep] at h
  cases Ro:Nat.beq t u with
  | true=>
    rw [Ro] at h
    simp only [Option.some.injEq] at h
    rw [<-Nat.eq_of_beq_eq_true Ro,<-h,<-ag]
    exact af.get t _ aq
  | false=>rw [Ro] at h;exact af.get u v h⟩
theorem w9 {t:TypeId} {cs:List Value} (hw:Region.wanted o (yielded ops a.tmps)=true) (hy:bb P o a w (.pointer (some ⟨w.heap.size,0,none⟩)) (w.alloc (.cells cs.toArray t))) (af:Fr n l a) (hm:bs W M0 X w E D)
 (aM:o.dst=some d) (aJ:Nat.blt d n=true) (k:∀ aX g w',bp [] w w'->Fr n ((d,.pointer (some ⟨g,0,none⟩))::l) aX->bs W M0 X w' (a7.dU g t cs::E) D->wpList P ops Q rest aX w'):wpList P ops Q (o::rest) a w:=
 nT hw hy af aM aJ fun aX dR=>k aX _ _ (bp.alloc _ _ _) dR (hm.new t cs)
theorem adP {t:TypeId} {cs:List Value} {m:Nat} (hw:Region.wanted o (yielded ops a.tmps)=true) (hy:bb P o a w (.slice (some ⟨w.heap.size,0,none⟩) m m) (w.alloc (.cells cs.toArray t))) (af:Fr n l a) (hm:bs W M0 X w E D)
 (aM:o.dst=some d) (aJ:Nat.blt d n=true) (k:∀ aX g w',bp [] w w'->Fr n ((d,.slice (some ⟨g,0,none⟩) m m)::l) aX->bs W M0 X w' (a7.dU g t cs::E) D->wpList P ops Q rest aX w'):wpList P ops Q (o::rest) a w:=
 nT hw hy af aM aJ fun aX dR=>k aX _ _ (bp.alloc _ _ _) dR (hm.new t cs)
theorem aFO {t e:TypeId} {sz:Nat} (hu:P.underlying t=some (.slice e)) (ao:∀ w,(Go.sizeOf e).run P w= .ok sz w) (av:o.op= .buildSlice t 0 (List.toArray [])) :
 bb P o a w (.slice (some ⟨w.heap.size,0,none⟩) 0 0) (w.alloc (.cells (List.toArray []) e)):=by
 simp only [bb,execOp,av,Instr.buildSlice,Sem.run_bind,Sem.run_pure,ao,Result.andThen_ok,run_underlying hu]
 simp [Instr.fill,newRow,go_sem]
theorem an1 {S:World->Prop} {f p:Nat} {ds:List Nat} {v:Value} (i:Nat) (hi:ops[i]? =some o) (aO:(Mx ops ds i && !Nat.beq p i)=true) (hw:Region.wanted o (yielded ops a.tmps)=true) (hy:∀ w',bb P o a w' v w') (nk:S w)
 (af:Fr n l a) (aM:o.dst=some d) (aJ:Nat.blt d n=true) (k:∀ aX,Fr n ((d,v)::l) aX->e9 P ops Q p S f (i::ds) aX w):e9 P ops Q p S (f+ 1) ds a w:=by
 simp only [Bool.and_eq_true,Bool.not_eq_true'] at aO
 obtain ⟨oA,tw⟩:=aO
 have FR:p≠i:=fun e=>by rw [e] at tw;simp at tw
 simp only [Mx,Bool.and_eq_true] at oA
 refine ⟨fun _=>nk,?_⟩
 refine agL (v:=v) hi (Region.noSelect_spec oA.1.1) FR (fun c a w h=>h) f _ a w (Region.free_spec hi oA.1.2) (fun _=>nk) (by simpa using oA.2) (.inl ⟨hw,fun w _=>hy w⟩) ?_
 rw [aM]
 exact (k _ (af.put aJ)).2
theorem bs.swap {x y:a7} (h:bs W M0 X w (x::y::E) D):bs W M0 X w (y::x::E) D:=by
 have af:∀ k,k ∈ bW (y::x::E) ↔ k ∈ bW (x::y::E):=fun k=>by
  simp only [bW,List.flatMap_cons,List.mem_append]
  exact ⟨fun h=>by rcases h with h | h | h <;> simp [h],fun h=>by rcases h with h | h | h <;> simp [h]⟩
 refine ⟨h.bV,h.hf,fun k aj=>h.lt k ((af k).1 aj),fun z ai=>h.ok z (by simp only [List.mem_cons] at ai ⊢;rcases ai with h | h | h <;> simp [h]),?_,fun z ai=>z.law _ _ w w (bp.refl _ _) (fun k aj=>.inl (by
  rcases List.mem_append.1 aj with e | e
  · exact List.mem_append.2 (.inl e)
  · exact List.mem_append.2 (.inr ((af k).1 e)))) (h.rd z ai)⟩
 have aM:=h.bx
 have ak:bW (x::y::E)=x.bA++(y.bA++bW E):=by simp [bW]
 have al:bW (y::x::E)=y.bA++(x.bA++bW E):=by simp [bW]
 rw [ak,List.nodup_append,List.nodup_append] at aM
 rw [al,List.nodup_append,List.nodup_append]
 obtain ⟨Zp,⟨apj,apc,apk⟩,Zr⟩:=aM
 exact ⟨apj,⟨Zp,apc,fun a aK b ag=>Zr a aK b (by simp [ag])⟩,fun a aK b ag=>by
  rcases List.mem_append.1 ag with e | e
  · exact fun aV=>Zr b e a (by simp [aK]) aV.symm
  · exact apk a aK b e⟩
end
section
variable {P:Program} {o:Oper} {a:Act} {w:World} {xs ys:Array Value}
theorem Z4 {d sz:Nat} {f:Go.Field} {l:List Go.Field} {us vs:List Value} {e q:Prop} [Decidable e] [Decidable q] (aJ:(f.name != "_")=true) (ax:∀ w,(isAgg f.type).run P w= .ok true w) (ao:∀ w,(Go.sizeOf f.type).run P w= .ok sz w)
 (ad:xs.extract f.offset (f.offset+sz)=us.toArray) (hy:ys.extract f.offset (f.offset+sz)=vs.toArray) (aT:(Op.equalIn (d+ 1) f.type (.agg us.toArray) (.agg vs.toArray)).run P w= .ok (decide q) w)
 (h:(Op.eqFields (d+ 1) xs ys l).run P w= .ok (decide e) w):(Op.eqFields (d+ 1) xs ys (f::l)).run P w= .ok (decide (q/\e)) w:=by
 have pQ:f.name≠ "_" :=by simpa using aJ
 simp only [Op.eqFields,pQ,if_true,ne_eq,not_false_iff,part,Sem.run_bind,ax,ao,Result.andThen_ok,ad,hy,Sem.run_pure,aT]
 by_cases tu:q
 · simp [tu,h]
 · simp [tu]
theorem Z5 {d:Nat} {t:TypeId} {ca:Array Go.Field} {q:Prop} [Decidable q] (aO:P.underlying t=some (.struct ca)) (aN:P.stoodInHeld t=false) (h:(Op.eqFields d xs ys ca.toList).run P w= .ok (decide q) w):(Op.equalIn (d+ 1) t (.agg xs) (.agg ys)).run P w= .ok (decide q) w:=by
 have af:P.fieldsOf t=ca:=by simp [Program.fieldsOf,aO]
 have h':=run_equalIn_struct (P:=P) w d t xs ys (by rw [af];exact aO) aN
 rw [af,h] at h'
 exact h'
theorem vP {d:Nat} {f:Go.Field} {l:List Go.Field} {m n:List UInt8} {e:Prop} [Decidable e] (aJ:(f.name != "_")=true) (hu:P.underlying f.type=some .string) (ax:∀ w,(isAgg f.type).run P w= .ok false w)
 (ad:xs[f.offset]? =some (cl m)) (hy:ys[f.offset]? =some (cl n)) (h:(Op.eqFields (d+ 1) xs ys l).run P w= .ok (decide e) w):(Op.eqFields (d+ 1) xs ys (f::l)).run P w= .ok (decide (m=n/\e)) w:=by
 have pQ:f.name≠ "_" :=by simpa using aJ
 have heq:(Op.equalIn (d+ 1) f.type (cl m) (cl n)).run P w= .ok (decide (m=n)) w:=by
  simp only [Op.equalIn,Sem.run_bind,run_underlying hu,Result.andThen_ok]
  rw [<-O1 m n]
  rfl
 simp only [Op.eqFields,pQ,if_true,ne_eq,not_false_iff,part,Sem.run_bind,ax,Result.andThen_ok,ad,hy,Bool.false_eq_true,if_false,Sem.run_pure,heq]
 by_cases tu:m=n
 · subst tu;simp [h]
 · simp [tu]
end
section
variable {P:Program} {ops:Array Oper} {Q:Exit->Act->World->Prop} {a:Act} {w:World} {rest:List Oper} {o:Oper} {n:cE} {d:Nat} {l:List (Nat × Value)}
 {W:World} {M0 X:List Nat} {E:List a7} {D:List bB}
theorem afc {F:Nat->Prop} {w:World}:∀ s:List UInt8,dS MC F w (s.map fun b=>Value.int .u8 (b.toNat:Int)) s
 | []=>rfl
 | b::r=>⟨[.int .u8 (b.toNat:Int)],_,rfl,rfl,afc r⟩
end
end au
namespace au
open Go Go.RowKit J
section
variable {P:Program} {Q:Exit->Act->World->Prop} {a:Act} {w:World}
theorem Jk {c:Operand} {x y:Code} {t:Bool} {ρ:Type} {p q:Option ρ} {r:ρ} (hc:a.eval c= .bool t) (h:cond t p q=some r) (aO:t=true->p=some r->x.wp P Q a w) (af:t=false->q=some r->y.wp P Q a w):(Code.cond c x y).wp P Q a w:=
 wp_cond_split hc (fun e=>aO e (Pd e h)) (fun e=>af e (Pc e h))
end
end au
namespace au
open Go Go.RowKit J
section
variable {P:Program} {ops:Array Oper} {Q:Exit->Act->World->Prop} {a:Act} {w w0 w':World} {rest:List Oper} {o:Oper} {n:cE} {d:Nat} {l:List (Nat × Value)}
 {W:World} {M0 X:List Nat} {E:List a7} {D:List bB}
theorem aF_ {t:TypeId} {x:Operand} {m:Int} (av:o.op= .unOp .neg t x) (ad:a.eval x= .int .i64 m):bb P o a w (.int .i64 (aA (0 - m))) w:=by
 rw [<-uK]
 simp only [bb,execOp,av,ad]
 simp [go_sem]
theorem bs.LA (h:bs W M0 X w E D) {g:Nat} {t:TypeId} {cs:List Value} {x:a7} (i j:Nat) (hi:E[i]? =some (a7.dU g t cs)) (aI:E[j]? =some x) (b3:i≠j):g ∉ x.bA:=fun aj=>
 (P0 h.bx i _ hi).2 j x aI b3 g (by simp [a7.dU]) aj
theorem JO {M:List Nat} {p:Addr} {cs:List Value} (h:bp M w w') (aJ:p.block ∉ M) (bE:p.block <w.heap.size) (hc:e5 w p cs):e5 w' p cs:=hc.law (h.block p.block bE aJ)
theorem Gx {t:TypeId} {cs:List Value} {m:Nat} (hw:Region.wanted o (yielded ops a.tmps)=true) (hy:bb P o a w (.slice (some ⟨w.heap.size,0,none⟩) m m) (w.alloc (.cells cs.toArray t))) (af:Fr n l a) (hm:bs W M0 X w E D)
 (aM:o.dst=some d) (aJ:Nat.blt d n=true) (k:∀ aX g w',bp [] w w'->w.heap.size<=g->Fr n ((d,.slice (some ⟨g,0,none⟩) m m)::l) aX->bs W M0 X w' (a7.dU g t cs::E) D->wpList P ops Q rest aX w'):wpList P ops Q (o::rest) a w:=
 nT hw hy af aM aJ fun aX dR=>k aX _ _ (bp.alloc _ _ _) (Nat.le_refl _) dR (hm.new t cs)
end
end au
namespace au
open Go Go.RowKit J
def oO:List Oper->Bool
 | []=>true
 | o::r=>(match o.op with
   | .defer _=>false
   | _=>true) && oO r
theorem Lx:∀ {l:List Oper},oO l=true-> ∀ o ∈ l,∀ c,o.op≠ .defer c
 | [],_,o,av,_=>by simp at av
 | p::r,h,o,av,c=>by
   simp only [oO,Bool.and_eq_true] at h
   rcases List.mem_cons.1 av with rfl | e
   · intro al
     rw [al] at h
     exact absurd h.1 (by simp)
   · exact Lx h.2 o e c
def jm (ro:Option Nat):Fence:={ Fence.wide with round:=ro }
theorem Vb {ro:Option Nat} {q:Prop}:(jm ro).depth.isSome=true->q:=fun h=>by simp [jm,Fence.wide] at h
section
variable {P:Program} {ops:Array Oper} {Q:Exit->Act->World->Prop} {K:Act->World->Prop} {a:Act} {w:World} {o:Oper} {ro:Option Nat} {n:Nat}
theorem TG (aM:∀ c,o.op≠ .defer c) (h:o.wp P a w K Q):o.wpIn (jm ro) n P a w K Q:=by
 unfold Oper.wpIn
 refine ⟨fun _ _=>trivial,?_⟩
 rw [Oper.semAt_eq _ _ _ aM]
 unfold Oper.wp at h
 generalize (execOp a.eval o).run P w=r at *
 cases r with
 | ok x w'=>
   cases x <;> simp only [Oper.upon,Oper.uponIn] at h ⊢ <;> first
    | exact h
    | exact ⟨Vb,(callsIn_wide (n:=n - 1)).2 h⟩
    | exact ⟨Vb,fun c cs _=>let ⟨v,w',r,s⟩:=h c cs;⟨v,w',r,stepsIn_wide.2 s⟩⟩
 | halt x w'=>cases x <;> simp only [Oper.upon,Oper.uponIn] at h ⊢ <;> exact h
theorem K2 (eE:∀ a w,¬ Q .outgrown a w):∀ {os:List Oper} {a:Act} {w:World},oO os=true->wpList P ops Q os a w->wpListIn (jm ro) n P ops Q os a w
 | [],_,_,_,h=>h
 | o::r,a,w,aM,h=>by
   have pN:=aM
   simp only [oO,Bool.and_eq_true] at pN
   simp only [wpList] at h
   simp only [wpListIn]
   split
   · rename_i hw
     rw [if_pos hw] at h
     rcases h with h | ⟨_,aX,w',h⟩
     · exact TG (Lx aM o (by simp)) (Oper.wp_mono (fun a w h=>K2 eE pN.2 h) h)
     · exact absurd h (eE _ _)
   · rename_i hw
     rw [if_neg hw] at h
     exact ⟨fun _ _=>trivial,K2 eE pN.2 h⟩
theorem awF (k:Nat) {lo:List Oper} (aM:oO (lo.take k)=true) (h:wpList P ops (Exit.then (wpListIn (jm ro) n P ops Q (lo.drop k)) (fun _ _ _=>False)) (lo.take k) a w):wpListIn (jm ro) n P ops Q lo a w:=by
 have key:∀ (os rest:List Oper) (a:Act) (w:World),oO os=true->wpList P ops (Exit.then (wpListIn (jm ro) n P ops Q rest) (fun _ _ _=>False)) os a w->wpListIn (jm ro) n P ops Q (os++rest) a w:=by
  intro os
  induction os with
  | nil=>intro rest a w _ h;exact h
  | cons o r bq=>
    intro rest a w aM h
    have pN:=aM
    simp only [oO,Bool.and_eq_true] at pN
    simp only [wpList] at h
    simp only [List.cons_append,wpListIn]
    split
    · rename_i hw
      rw [if_pos hw] at h
      rcases h with h | ⟨_,aX,w',h⟩
      · have I:=TG (ro:=ro) (n:=n) (Lx aM o (by simp)) (Oper.wp_mono (fun a w h=>bq rest a w pN.2 h) h)
        refine ⟨I.1,?_⟩
        have aa:=I.2
        revert aa
        generalize (o.semAt (jm ro).round a.eval).run P w=eV
        intro aa
        cases eV with
        | ok x w'=>
          cases x <;> simp only [Oper.uponIn] at aa ⊢ <;> first
           | exact aa
           | exact ⟨aa.1,CallsIn.mono aa.2 (fun e w'' he=>by cases e <;> first | exact he | exact absurd he (by simp [Exit.then,LetsOut]))⟩
           | exact ⟨aa.1,RoundIn.mono aa.2 (fun e w'' he=>by cases e <;> first | exact he | exact absurd he (by simp [Exit.then,LetsOut]))⟩
        | halt x w'=>cases x <;> simp only [Oper.uponIn] at aa ⊢ <;> first | exact aa | exact absurd aa (by simp [Exit.then])
      · exact absurd h (by simp [Exit.then])
    · rename_i hw
      rw [if_neg hw] at h
      exact ⟨fun _ _=>trivial,bq rest _ _ pN.2 h⟩
 have:=key (lo.take k) (lo.drop k) a w aM h
 rwa [List.take_append_drop] at this
theorem aya (eE:∀ a w,¬ Q .outgrown a w) (aM:oO ops.toList=true) {i:Nat} (h:wpOp P ops Q i K a w):wpOpIn (jm ro) n P ops Q i K a w:=by
 unfold wpOp at h
 unfold wpOpIn
 split
 · rename_i aQ
   rw [aQ] at h
   exact h
 · rename_i o av
   rw [av] at h
   have hm:o ∈ ops.toList:=by
    have:=List.mem_of_getElem? (l:=ops.toList) (i:=i) (a:=o) (by rw [Array.getElem?_toList];exact av)
    exact this
   simp only at h
   split
   · rename_i hw
     rw [if_pos hw] at h
     rcases h with h | ⟨_,aX,w',h⟩
     · exact TG (Lx aM o hm) h
     · exact absurd h (eE _ _)
   · rename_i hw
     rw [if_neg hw] at h
     exact ⟨fun _ _=>trivial,h⟩
theorem Yp (eE:∀ a w,¬ Q .outgrown a w) (aM:oO ops.toList=true):∀ {f:Nat} {ls:Array Bool} {a:Act} {w:World},wpAny P .any ops Q f ls a w->wpAnyIn (jm ro) n P .any ops Q f ls a w
 | 0,_,_,_,h=>h
 | f+ 1,ls,a,w,h=>⟨h.1,fun i hi=>aya eE aM (wpOp_mono (fun a w h=>Yp eE aM h) (h.2 i hi))⟩
end
def fW (ro:Option Nat) (n:Nat) (P:Program) (c:Code) (Q:Exit->Act->World->Prop) (a:Act) (w:World):Prop:=(∀ a w,¬ Q .outgrown a w)->c.wpIn (jm ro) n P Q a w
section
variable {P:Program} {Q:Exit->Act->World->Prop} {a:Act} {w:World} {ro:Option Nat} {n:Nat}
theorem MO (h:Q .normal a w):fW ro n P .skip Q a w:=fun _=>wpIn_skip h
theorem V7 {id:Nat} (h:Q (.exit id) a w):fW ro n P (.exit id) Q a w:=fun _=>wpIn_exit h
theorem lY {x y:Code} (h:∀ K:Act->World->Prop,(∀ a w,fW ro n P y Q a w->K a w)->fW ro n P x (Exit.then K Q) a w):fW ro n P (.seq x y) Q a w:=
 fun eE=>wpIn_seq (h _ (fun _ _ h=>h eE) eE)
theorem V6 {c:Operand} {x y:Code} {t:Bool} (hc:a.eval c= .bool t) (aO:t=true->fW ro n P x Q a w) (af:t=false->fW ro n P y Q a w):fW ro n P (.cond c x y) Q a w:=
 fun eE=>wpIn_cond_split hc (fun e=>aO e eE) (fun e=>af e eE)
theorem aCE {c:Operand} {x y:Code} {b:Bool} (hc:a.eval c= .bool b) (ag:b=false) (h:fW ro n P y Q a w):fW ro n P (.cond c x y) Q a w:=fun eE=>wpIn_cond_false (by rw [hc,ag]) (h eE)
theorem V4 {id:Nat} {c:Code} (h:fW ro n P c (Exit.inBlock id Q) a w):fW ro n P (.block id c) Q a w:=fun eE=>wpIn_block (h eE)
theorem V5 {id:Nat} {c:Code} (m7:Act->World->Prop) (ad:∀ K:Act->World->Prop,(∀ a w,m7 a w->K a w)->fW ro n P c (Exit.inBlock id (Exit.then K Q)) a w) (hy:∀ a w,m7 a w->Q .normal a w):fW ro n P (.block id c) Q a w:=by
 intro eE
 refine wpIn_block (wpIn_mono (ad _ hy eE) ?_)
 intro e a w h
 cases e with
 | exit i=>
   by_cases hi:i=id
   · simpa [Exit.inBlock,Exit.then,hi] using h
   · simpa [Exit.inBlock,Exit.then,hi] using h
 | _=>exact h
theorem agR {c:Code} (iP:Nat->Act->World->Prop) (k:Nat) (h:iP k a w) (aQ:∀ a w,¬ iP 0 a w)
 (round:∀ k a w,iP (k+ 1) a w-> ∀ K:Act->World->Prop,(∀ a w,iP k a w->K a w)->fW ro n P c (Exit.then K Q) a w):fW ro n P (.loop c) Q a w:=by
 intro eE
 refine wpIn_loop (fun a w=>∃ n,iP n a w) (fun a w=>leastOf (fun n=>iP n a w)) ⟨k,h⟩ ?_
 intro a w kR
 have I:=(leastOf_spec kR).1
 cases aj:leastOf (fun n=>iP n a w) with
 | zero=>rw [aj] at I;exact absurd I (aQ a w)
 | succ m=>
   rw [aj] at I
   exact round m a w I _ (fun aX w' h'=>⟨⟨m,h'⟩,Nat.lt_succ_of_le ((leastOf_spec ⟨m,h'⟩).2 m h')⟩) eE
theorem nW {id:Nat} {l:List Oper} (aM:oO l=true) (h:wpList P l.toArray Q l a w):fW ro n P (.region id l.toArray false) Q a w:=fun eE=>wpIn_region_lit (K2 eE aM h)
theorem agQ {id m:Nat} {lo:List Oper} (p:Nat) (S:World->World->Prop) (hm:P.follows .mixedOrders=true) (aq:Nat.beq lo.length m=true) (aM:oO lo=true) (h:∀ w',bp [] w w'->e9 P lo.toArray Q p (S w') m [] a w'):fW ro n P (.region id lo.toArray true) Q a w:=by
 have aq:=Nat.eq_of_beq_eq_true aq
 subst aq
 intro eE
 exact wpIn_mono (Q:=NoPanic Q) (wpIn_region_any hm (Yp (Q:=NoPanic Q) (fun a w=>eE a w) aM (h _ (bp.drew [] w)).wpAny)) NoPanic.imp
theorem aCF {id:Nat} {l:List Oper} (h:(∀ a w,¬ Q .outgrown a w)->wpListIn (jm ro) n P l.toArray Q l a w):fW ro n P (.region id l.toArray false) Q a w:=fun eE=>wpIn_region_lit (h eE)
end
def a7.obj (g:Nat) (o:Obj):a7 where
 bA:=[g]
 ok w:=w.heap[g]? =some o
 law w w' h aj:=(h g (by simp)).trans aj
section
variable {W w:World} {M0 X:List Nat} {E:List a7} {D:List bB}
theorem aq_ (w:World) (g:Nat) (o:Obj):bp [g] w (w.putObj g o):=
 ⟨rfl,rfl,rfl,by simp,fun k _ aJ=>World.putObj_heap_other (by simpa using aJ)⟩
theorem bs.putObj {g:Nat} {o:Obj} (hm:bs W M0 X w E D) (i:Nat) (hi:E[i]? =some (a7.obj g o)) (eI:Obj):bs W M0 X (w.putObj g eI) (E.set i (a7.obj g eI)) D:=
 hm.MB i hi (aq_ w g eI) (by
   have h:w.heap[g]? =some o:=hm.e i hi
   exact World.putObj_heap_same (Array.getElem?_eq_some_iff.1 h).1) (by simp [a7.obj]) (fun k aj=>.inl aj)
theorem bs.newObj (hm:bs W M0 X w E D) (o:Obj):bs W M0 X (w.alloc o) (a7.obj w.heap.size o::E) D:=
 hm.push _ (bp.alloc _ _ _) (World.alloc_heap_new w o) (fun k aj=>by simp [a7.obj] at aj;subst aj;exact ⟨Nat.le_refl _,by simp⟩) (by simp [a7.obj])
end
def mark (r:Nat):Deferred:={ target:=.collected r,args:=#[] }
theorem ZY {P:Program} {f:FuncId} {fn:Func} {c:Code} {vs:List Value} {w:World} {R:Ending->World->Prop} {n:Nat}
 (af:P.funcs[f]? =some fn) (ag:fn.body=some c) (aJ:fn.ntmps=n) (aq:Nat.ble vs.length n=true)
 (h:∀ a,Fr ⟨n,[]⟩ (q3 0 vs) a->c.wp P (bodyPostM Fence.wide 0 P fn R) a w):Calls P f vs.toArray w R:=by
 refine (callsIn_wide (n:=0)).1 (callsIn_of_wp_marks af ag trivial (wpIn_wide.2 ?_))
 rw [aJ]
 exact h _ (Fr.init vs n aq)
section
variable {P:Program} {a:Act} {w:World} {W:World} {M0 X:List Nat} {E:List a7} {D:List bB} {fn:Func} {R:Ending->World->Prop} {l:List (Nat × Value)} {n g t u:Nat} {v e4:Value}
theorem ads (i:Nat) (af:Fr ⟨n,[mark g]⟩ l a) (hm:bs W M0 X w E D) (hi:E[i]? =some (a7.obj g (.deferred (some [])))) (h:∀ w',bs W M0 X w' (E.set i (a7.obj g (.deferred none))) D-> ∃ v,(results fn a.tmps).run P w'= .ok v w'/\R (.returned v) w') :
 bodyPostM Fence.wide 0 P fn R .ret a w:=by
 show LeavesInM Fence.wide 0 P fn a.tmps R a.defers .returning w
 rw [af.defers]
 exact ⟨by simp,.inl ⟨g,_,rfl,run_takeDeferred (hm.e i hi),h _ (hm.putObj i hi _)⟩⟩
theorem awT (i:Nat) (aE:fn.results= #[.tmp t]) (af:Fr ⟨n,[mark g]⟩ l a) (hm:bs W M0 X w E D) (hi:E[i]? =some (a7.obj g (.deferred (some [])))) (aq:ep l t=some v)
 (h:∀ w',bs W M0 X w' (E.set i (a7.obj g (.deferred none))) D->R (.returned v) w'):bodyPostM Fence.wide 0 P fn R .ret a w:=
 ads i af hm hi fun w' dH=>⟨_,results_tmp aE _ _ _,by rw [af.get _ _ aq];exact h w' dH⟩
theorem awU (i:Nat) (aE:fn.results= #[.tmp t,.tmp u]) (af:Fr ⟨n,[mark g]⟩ l a) (hm:bs W M0 X w E D) (hi:E[i]? =some (a7.obj g (.deferred (some [])))) (aq:ep l t=some v) (nr:ep l u=some e4)
 (h:∀ w',bs W M0 X w' (E.set i (a7.obj g (.deferred none))) D->R (.returned (.tuple #[v,e4])) w'):bodyPostM Fence.wide 0 P fn R .ret a w:=
 ads i af hm hi fun w' dH=>⟨_,results_tmp2 aE _ _ _,by rw [af.get _ _ aq,af.get _ _ nr];exact h w' dH⟩
end
theorem aqq {P:Program} {f:FuncId} {fn:Func} {c:Code} {vs:List Value} {w:World} {R:Ending->World->Prop} {n:Nat}
 (af:P.funcs[f]? =some fn) (ag:fn.body=some c) (aJ:fn.ntmps=n) (aq:Nat.ble vs.length n=true) (eH:∀ w,¬ R .outgrown w)
 (h:∀ a,Fr ⟨n,[]⟩ (q3 0 vs) a->fW none 1 P c (bodyPost P fn R) a w):CallsIn (jm none) 1 P f vs.toArray w R:=by
 refine callsIn_of_wp af ag trivial ?_
 rw [aJ]
 exact h _ (Fr.init vs n aq) (fun a w h=>eH w h)
theorem an6 {P:Program} {fn:Func} {R:Ending->World->Prop} {a:Act} {w:World} (h:bodyPost P fn R .ret a w):bodyPost P fn R .normal a w:=h
theorem agA {n:Nat} (h:n<=maxLen):J.aA ((n:Int) - 1)=(n:Int) - 1 :=by
 unfold J.aA
 simp only [maxLen] at h
 omega
theorem auy {iZ pre rem:List Int} {x:Int} (h:iZ=(x::rem).reverse++pre):J.idx iZ (rem.length:Int)=some x:=by
 subst h
 unfold J.idx
 rw [if_pos (by omega)]
 simp
def X7 (P:Program) (f:FuncId):Prop:=∀ (m7:List Int->World->Prop) (iZ:List Int) (A:Option Addr) (c fj L:Nat) (w0:World),
 (∀ rem w,m7 rem w-> ∃ W M0 X E,bs W M0 X w E [bB.ik fj [.slice A iZ.length c],bB.of (b4 (e3 .i64)) [.slice A iZ.length c] iZ]) ->
 (∀ x rem w,m7 (x::rem) w->YieldAt (jm none) 0 P L #[.int .i64 (rem.length:Int),.int .i64 x] w (fun e w'=>e= .returned (.bool true)/\m7 rem w')) ->
 m7 iZ.reverse w0->CallsIn (jm none) 1 P f #[.func (.yield L) #[] #[],.pointer (some ⟨fj,0,none⟩)] w0 (fun e w'=>(∃ v,e= .returned v)/\m7 [] w')
section
variable {P:Program} {ops:Array Oper} {Q:Exit->Act->World->Prop} {a:Act} {w:World} {rest:List Oper} {o:Oper} {n:cE} {d L:Nat} {l:List (Nat × Value)}
theorem aBt {vX:Operand} {xs:List Operand} {mg:Array TypeId} {vs:List Value} (av:o.op= .call { callee:=.value vX,args:=xs.toArray,argTypes:=mg }) (Ry:a.eval vX= .func (.yield L) #[] #[]) (jt:Cd a xs vs) :
 (execOp a.eval o).run P w=(Instr.yield L vs.toArray).run P w:=by
 have I:=PZ jt
 simp only [execOp,av,resolve,List.map_toArray,I,Ry]
 simp [Deferred.ofValue,invoke]
theorem aGg {vX:Operand} {xs:List Operand} {mg:Array TypeId} {vs:List Value} {R:Ending->World->Prop} (hw:Region.wanted o (yielded ops a.tmps)=true) (av:o.op= .call { callee:=.value vX,args:=xs.toArray,argTypes:=mg })
 (Ry:a.eval vX= .func (.yield L) #[] #[]) (jt:Cd a xs vs) (hy:YieldAt (jm none) 0 P L vs.toArray w R) (af:Fr n l a) (aM:o.dst=some d) (aJ:Nat.blt d n=true)
 (k:∀ e w',R e w'-> ∃ v,e= .returned v/\ ∀ aX,Fr n ((d,v)::l) aX->wpListIn (jm none) 1 P ops Q rest aX w'):wpListIn (jm none) 1 P ops Q (o::rest) a w:=by
 refine wpListIn_step fun K cG=>?_
 rw [if_pos hw]
 refine ⟨fun _ _=>trivial,?_⟩
 obtain ⟨fn,tmps,assign,body,I,aa⟩:=hy
 rw [Oper.semAt_eq _ _ _ (by rw [av];simp),aBt av Ry jt,I]
 refine ⟨Vb,RoundIn.mono aa ?_⟩
 intro e w' aE
 obtain ⟨v,rfl,aj⟩:=k e w' aE
 rw [aM]
 exact cG _ _ (aj _ (af.put aJ))
end
section
variable {P:Program} {Q:Exit->Act->World->Prop} {a:Act} {w:World} {W:World} {M0 X:List Nat} {E:List a7} {D:List bB}
theorem YS {β:Type} {CP af5 gL dF n fj c:Nat} {A:Option Addr} {l:List (Nat × Value)} {l1:Int->Int->List (Nat × Value)} {assign body:Code} (By:β->List a7) (vd:β->List bB) (rel:List Int->β->Prop) (iZ:List Int) (b0:β) (bk bF:Nat)
 (wb:X7 P CP) (ZU:∀ args w,(callFunc CP args).run P w= .ok (.enter CP args) w)
 (af:Fr ⟨n,[]⟩ l a) (ax:ep l af5=some (.func (.func CP) #[] #[.pointer (some ⟨fj,0,none⟩)])) (R1:Nat.blt gL n=true) (atL:Nat.blt dF n=true)
 (hm:bs W M0 X w (By b0) (vd b0)) (aQ:rel iZ.reverse b0)
 (CE:∀ b,(vd b)[bk]? =some (bB.ik fj [.slice A iZ.length c])) (wj:∀ b,(vd b)[bF]? =some (bB.of (b4 (e3 .i64)) [.slice A iZ.length c] iZ))
 (aK:∀ L i x w aX (K:Act->World->Prop),Fr ⟨n,[]⟩ ((dF,.int .i64 x)::(gL,.int .i64 i)::l) aX->(∀ zi,Fr ⟨n,[]⟩ (l1 i x) zi->K zi w)->fW (some L) 0 P assign (Exit.then K (fun _ _ _=>False)) aX w)
 (ag:∀ L g gX bG dc b i x rem w aX (K:Exit->Act->World->Prop),rel (x::rem) b->Fr ⟨n,[]⟩ (l1 i x) aX->bs W M0 X w (a7.obj g gX::a7.obj bG dc::By b) (vd b) ->
  (∀ jr zi w',rel rem jr->bs W M0 X w' (a7.obj g gX::a7.obj bG dc::By jr) (vd jr)->K .normal zi w')->fW (some L) 0 P body K aX w)
 (asX:∀ g b aX w',rel [] b->Fr ⟨n,[mark g]⟩ l aX->bs W M0 X w' (a7.obj g (.deferred (some []))::By b) (vd b)->Q .normal aX w') :
 (Code.rangeFunc (.tmp af5) #[gL,dF] assign body).wp P Q a w:=by
 refine (wpIn_wide (n:=2)).1 (wpIn_rangeFunc fun fn _=>?_)
 obtain ⟨rec,wk⟩:∃ rec:LoopState->Loop,rec=fun g2=>{ state:=g2,pending:=none,fn,tmps:=a.tmps,params:=#[gL,dF],assign,body,defers:=w.heap.size }:=⟨_,rfl⟩
 obtain ⟨zg,abA⟩:∃ zg,(w.alloc (.deferred (some []))).alloc (.loop (rec .ready))=zg:=⟨_,rfl⟩
 have aty:bs W M0 X zg (a7.obj (w.heap.size+ 1) (.loop (rec .ready))::a7.obj w.heap.size (.deferred (some []))::By b0) (vd b0):=by
  have:=(hm.newObj (.deferred (some []))).newObj (.loop (rec .ready))
  rw [abA] at this
  simpa using this
 refine ⟨w.heap.size+ 1,[mark w.heap.size],zg,{ target:=.fn (.func CP) #[.pointer (some ⟨fj,0,none⟩)],args:=#[.func (.yield (w.heap.size+ 1)) #[] #[]] },zg,CP,
  #[.func (.yield (w.heap.size+ 1)) #[] #[],.pointer (some ⟨fj,0,none⟩)],zg,?_,?_,fun _ _=>trivial,?_,fun _=>by decide,?_⟩
 · rw [<-abA,wk];exact run_enterLoop_outer _ _ _ _ _
 · have Fx:=af.g ax
   simp only [resolve,Fx]
   simp [go_sem]
 · simp [invoke,go_sem,ZU]
 · refine CallsIn.mono (wb (fun rem w'=>∃ b,rel rem b/\bs W M0 X w' (a7.obj (w.heap.size+ 1) (.loop (rec .ready))::a7.obj w.heap.size (.deferred (some []))::By b) (vd b)) iZ A c fj (w.heap.size+ 1) zg ?_ ?_ ⟨b0,aQ,aty⟩) ?_
   · rintro rem w' ⟨b,_,dH⟩
     exact ⟨_,_,_,_,dH.less fun y hy=>by
      simp only [List.mem_cons,List.not_mem_nil,or_false] at hy
      rcases hy with rfl | rfl
      · exact List.mem_of_getElem? (CE b)
      · exact List.mem_of_getElem? (wj b)⟩
   · rintro x rem w' ⟨b,aE,dH⟩
     have aq:w'.heap[w.heap.size+ 1]? =some (.loop (rec .ready)):=dH.e 0 rfl
     have hy:=run_yield (P:=P) (args:=#[.int .i64 (rem.length:Int),.int .i64 x]) aq (by rw [wk];rfl)
     rw [wk] at hy
     refine ⟨fn,_,assign,body,hy,roundIn_of_wpIn trivial ?_⟩
     have as4:Fr ⟨n,[]⟩ ((dF,.int .i64 x)::(gL,.int .i64 (rem.length:Int))::l) ⟨((#[gL,dF]:Array Tmp).zip #[Value.int .i64 (rem.length:Int),.int .i64 x]).foldl (fun tmps (x:Tmp × Value)=>tmps.setIfInBounds x.1 x.2) a.tmps,[]⟩:=by
      have I:=(af.put (v:=.int .i64 (rem.length:Int)) R1).put (v:=.int .i64 x) atL
      have e:((#[gL,dF]:Array Tmp).zip #[Value.int .i64 (rem.length:Int),.int .i64 x]).foldl (fun tmps (x:Tmp × Value)=>tmps.setIfInBounds x.1 x.2) a.tmps=((a.put (some gL) (.int .i64 (rem.length:Int))).put (some dF) (.int .i64 x)).tmps:=by simp [Act.put]
      refine ⟨?_,rfl,?_⟩
      · simp only [e];exact I.size
      · simp only [e];exact I.get
     refine aK (w.heap.size+ 1) _ _ w' _ _ as4 ?_ (fun a w h=>h)
     intro zi as3
     have wg:=dH.putObj 0 rfl (.loop { rec .ready with state:=.busy })
     refine ⟨_,run_beginRound aq (by rw [wk]),?_⟩
     refine ag (w.heap.size+ 1) _ _ _ _ b _ x rem _ zi _ aE as3 wg ?_ (fun a w h=>h)
     intro jr dX ky kW FJ
     have RP:ky.heap[w.heap.size+ 1]? =some (.loop { rec .ready with state:=.busy }):=FJ.e 0 rfl
     refine ⟨_,_,run_endRound none RP,rfl,jr,kW,?_⟩
     have zJ:=FJ.putObj 0 rfl (.loop (rec .ready))
     rw [wk] at zJ ⊢
     exact zJ
   · rintro e ky ⟨⟨v,rfl⟩,b,aE,FJ⟩
     have RP:ky.heap[w.heap.size+ 1]? =some (.loop (rec .ready)):=FJ.e 0 rfl
     have he:=run_endLoop (P:=P) RP (by rw [wk];simp)
     rw [wk] at he
     refine ⟨none,_,he,?_⟩
     have zJ:=FJ.putObj 0 rfl (.loop { rec .ready with state:=.exhausted })
     rw [wk] at zJ
     refine asX w.heap.size b _ _ aE ⟨af.size,?_,af.get⟩ (zJ.drop (List.sublist_cons_self _ _))
     show [mark w.heap.size]++a.defers= [mark w.heap.size]
     rw [af.defers];rfl
end
end au
namespace au
open Go Go.RowKit J
def bB.aB2:bB:=⟨fun _ _=>True,fun _ _ _ _ _ _ _=>trivial⟩
def bB.ad9 {α:Type} (o:Option α) (f:α->bB):bB:=match o with
 | none=>bB.aB2
 | some x=>f x
section
variable {P:Program} {ops:Array Oper} {Q:Exit->Act->World->Prop} {a:Act} {w:World} {rest:List Oper} {o:Oper} {n:cE} {d:Nat} {l:List (Nat × Value)}
 {W:World} {M0 X:List Nat} {E:List a7} {D:List bB}
theorem bs.none (h:bs W M0 X w E D) {α:Type} (f:α->bB):bs W M0 X w E (bB.ad9 (Option.none:Option α) f::D):=h.more (y:=bB.ad9 (Option.none:Option α) f) trivial
theorem aFS {t e:TypeId} {sz:Nat} {x:Operand} {lo hi:Option Operand} (aO:P.underlying t=some (.slice e)) (ao:∀ w,(Go.sizeOf e).run P w= .ok sz w) (av:o.op= .slice t x lo hi none) (ad:a.eval x= .slice none 0 0)
 (ns:(lo=none/\(0 :Int)= 0)\/ ∃ z,lo=some z/\a.eval z= .int .i64 0) (jP:(hi=none/\(0 :Int)=(0 :Nat))\/ ∃ z,hi=some z/\a.eval z= .int .i64 0):bb P o a w (.slice none 0 0) w:=by
 have h:=NJ (P:=P) (w:=w) aO ao av ad ns jP (i:=0) (j:=0) ⟨Int.le_refl _,Int.le_refl _,by omega⟩ (Nat.le_refl 0)
 simpa using h
theorem aFR {t e:TypeId} {A:Option Addr} {m c:Nat} {x:Operand} (aO:P.underlying t=some (.slice e)) (av:o.op= .call { callee:=.builtin .cap,args:=#[x],argTypes:=#[t] }) (ad:a.eval x= .slice A m c):bb P o a w (.int .i64 c) w:=by
 simp [bb,execOp,av,resolve,invoke,builtin,Builtin.cap_,ad,run_underlying aO,goInt]
theorem aGd {t t':TypeId} {x y:Operand} {k:IntKind} {m:Int} {n:Nat} (aJ:Nat.ble n 64 =true) (av:o.op= .binOp .shr t x y t') (ad:a.eval x= .int .u64 m) (hy:a.eval y= .int k (n:Int)):bb P o a w (.int .u64 (uA m n)) w:=by
 have hle:=Nat.le_of_ble_eq_true aJ
 unfold uA
 simp only [bb,execOp,av,ad,hy]
 simp [go_sem,hle]
end
end au
namespace au
open Go Go.RowKit J
section
variable {P:Program} {W w w':World} {M0 X:List Nat} {E:List a7} {D:List bB} {n:cE} {l:List (Nat × Value)} {a:Act} {o:Oper} {ops:Array Oper} {rest:List Oper} {Q:Exit->Act->World->Prop} {d:Nat}
theorem aBp {A:Option Addr} {m c sz:Nat} {t e:TypeId} {j:Int} (aO:P.underlying t=some (.slice e)) (ao:∀ w,(Go.sizeOf e).run P w= .ok sz w) (h:0 <=j/\j<=c) :
 (Instr.slice t (.slice A m c) none (some (.int .i64 j)) (some (.int .i64 j))).run P w= .ok (.slice (if j.toNat= 0 then A else A.map (·.add (0 *sz))) j.toNat j.toNat) w:=by
 have bY:∀ code,(Instr.sliceBound (.int .i64 j) c code).run P w= .ok j.toNat w:=fun code=>xk rfl (by omega)
 have eA:∀ code,(Instr.sliceBound (.int .i64 j) j.toNat code).run P w= .ok j.toNat w:=fun code=>xk rfl (by omega)
 have ag:(Instr.sliceBounds true m c none (some (.int .i64 j)) (some (.int .i64 j))).run P w= .ok (0,j.toNat,j.toNat) w:=by
  simp [Instr.sliceBounds,bY,eA]
 simp [Instr.slice,run_underlying aO,ag,ao]
end
end au
namespace Go.Value
abbrev q {α:Type} (A:Option Addr) (c:Nat) (l:List α):Value:=.slice A l.length c
end Go.Value
namespace au
open Go Go.RowKit J
abbrev hY:=Option Addr
abbrev m8:=List Value
abbrev Bz:=List Int
theorem wn {ops:Array Oper} {a:Act} {o:Oper} (ax:o.guard=none:=by rfl):Region.wanted o (yielded ops a.tmps)=true:=MJ ax
section
variable {W w:World} {M0 X:List Nat} {E kH:List a7} {D fV:List bB} {n:cE} {l l' new fr fJ:List (Nat × Value)} {a:Act}
theorem Fr.cut (af:Fr n l a) (h:B5 l (l'.map (·.1))=some l':=by kernel_rfl):Fr n l' a:=af.sub (Ph h)
def Dq (D:List bB):List Nat->Option (List bB)
 | []=>some []
 | i::r=>match nth D i,Dq D r with
   | some y,some ys=>some (y::ys)
   | _,_=>none
theorem afH:∀ {is:List Nat} {fV:List bB},Dq D is=some fV->LM D fV
 | [],fV,h=>by simp only [Dq,Option.some.injEq] at h;subst h;trivial
 | i::r,fV,h=>by
   simp only [Dq] at h
   split at h
   · rename_i y ys I aa
     simp only [Option.some.injEq] at h
     subst h
     exact ⟨⟨i,by rw [<-cW];exact I⟩,afH aa⟩
   · cases h
theorem bs.hl (h:bs W M0 X w E D) (is:List Nat) (e:Dq D is=some fV:=by kernel_rfl):bs W M0 X w E fV:=h.pick (afH e)
theorem bs.r5 (h:bs W M0 X w E D) (eh is:List Nat) (ak:Gu eh=true:=by kernel_rfl) (al:Dr E eh=some kH:=by kernel_rfl) (e:Dq D is=some fV:=by kernel_rfl):bs W M0 X w kH fV:=(h.sel eh ak al).hl is e
theorem cX {α:Type} {a b:α} (h:some a=some b):a=b:=Option.some.inj h
theorem os {α:Type} {a b:α} (h:some a=some b):b=a:=(Option.some.inj h).symm
def oa:List (Nat × Value)->List (Nat × Value)->List (Nat × Value)
 | [],r=>r
 | x::l,r=>x::oa l r
def s9:List (Nat × Value)->Nat->Bool
 | [],_=>false
 | p::r,j=>Nat.beq p.1 j || s9 r j
def GD:List (Nat × Value)->List (Nat × Value)->List (Nat × Value)
 | _,[]=>[]
 | new,p::r=>match s9 new p.1 with
   | true=>GD new r
   | false=>p::GD (p::new) r
def mo (new fr:List (Nat × Value)):List (Nat × Value):=oa new (GD new fr)
theorem adn {t:Nat} {r:List (Nat × Value)}:∀ {l:List (Nat × Value)},ep (oa l r) t=cond (s9 l t) (ep l t) (ep r t)
 | []=>by simp [oa,s9]
 | p::l=>by
   simp only [oa,ep,s9]
   cases Nat.beq p.1 t with
   | true=>simp
   | false=>simp only [Bool.false_or];exact adn
theorem S3 {t:Nat}:∀ {r new:List (Nat × Value)},s9 new t=false->ep (GD new r) t=ep r t
 | [],_,_=>rfl
 | p::r,new,h=>by
   simp only [GD,ep]
   cases ag:Nat.beq p.1 t with
   | true=>
     have:p.1 =t:=Nat.eq_of_beq_eq_true ag
     rw [this,h]
     simp only [ep,this,Nat.beq_refl]
   | false=>
     cases s9 new p.1 with
     | true=>simp only;exact S3 h
     | false=>simp only [ep,ag];exact S3 (by simp only [s9,ag,Bool.false_or];exact h)
theorem Fr.Jx (af:Fr n (mo new fr) a):Fr n (oa new fr) a:=⟨af.size,af.defers,fun t v aO=>af.get t v (by
 unfold mo
 rw [adn] at aO ⊢
 cases bC:s9 new t with
 | true=>rw [bC] at aO;exact aO
 | false=>rw [bC] at aO;rw [S3 bC];exact aO)⟩
def JQ (G:lh) (ops:Array Oper) (n:Nat) (M:List (Nat × Nat × List Value)) (is ao:List Nat) (fr:List (Nat × Value)) (eT:List Nat):Option (List (Nat × Value) × List (Nat × Nat)):=
 match AB ops.toList is with
 | some os=>lz G ops n M os ao fr eT
 | none=>none
theorem aq' {G:lh} {ops:Array Oper} {n:Nat} {M:List (Nat × Nat × List Value)} {is ao:List Nat} {fr:List (Nat × Value)} {eT:List Nat} {r:List (Nat × Value) × List (Nat × Nat)} (h:JQ G ops n M is ao fr eT=some r):∃ os,AB ops.toList is=some os/\lz G ops n M os ao fr eT=some r:=by
 unfold JQ at h
 split at h
 · rename_i os I;exact ⟨os,I,h⟩
 · cases h
end
end au
namespace J
structure Kind where
 Kind:Int
 ap:List UInt8
 deriving DecidableEq
structure Handler where
 From:Int
 To:Int
 hV:Int
 ap:List UInt8
 deriving DecidableEq
structure Method where
 Name:List UInt8
 Static:Bool
 cw:List Kind
 Returns:Kind
 g8:Int
 g5:Int
 Code:List UInt8
 cz:List Handler
structure Field where
 Name:List UInt8
 Kind:Kind
 deriving DecidableEq
structure ap where
 Name:List UInt8
 cP:List UInt8
 Fields:List Field
 bc:List Method
structure Target where
 ap:Int
 Method:Int
 deriving DecidableEq
structure aU where
 ba:List ap
 a8:List Int
 Fields:List (List Field)
 Names:List (List (List UInt8))
 a9:List (List Target)
structure bj where
 l:List ap
 b2:List ((List UInt8) × Int)
 dj:List Int
structure aY where
 Words:List Int
 aL:Int
 aW:Int
 a5:Int
 a2:Int
 aZ:List Int
 Next:Int
structure b' where
 K:aU
structure bd where
 H:aY
 S:b'
 aL:List Int
 aW:List Int
 dE:List (Int × Bool)
end J
namespace J
open Go
def AL:au.cY Kind where
 size:=2
 rd _ _ cs d:=cs= [.int .i64 d.Kind,au.cl d.ap]
 len h:=by subst h;rfl
 one h v ah:=by subst h;simp only [List.mem_cons,List.not_mem_nil,or_false] at ah;rcases ah with rfl | rfl <;> rfl
 law _ h:=h
def AK:au.cY Handler where
 size:=4
 rd _ _ cs d:=cs= [.int .i64 d.From,.int .i64 d.To,.int .i64 d.hV,au.cl d.ap]
 len h:=by subst h;rfl
 one h v ah:=by subst h;simp only [List.mem_cons,List.not_mem_nil,or_false] at ah;rcases ah with rfl | rfl | rfl | rfl <;> rfl
 law _ h:=h
def oZ:au.cY Method where
 size:=9
 rd F w cs d:=∃ ea c1 c7 c2,cs= [au.cl d.Name,.bool d.Static,.slice ea d.cw.length c1,.int .i64 d.Returns.Kind,au.cl d.Returns.ap,.int .i64 d.g8,.int .i64 d.g5,au.cl d.Code,.slice c7 d.cz.length c2]/\(au.b4 J.AL).rd F w [.slice ea d.cw.length c1] d.cw/\(au.b4 J.AK).rd F w [.slice c7 d.cz.length c2] d.cz
 len h:=by obtain ⟨ea,c1,c7,c2,aQ,_⟩:=h;subst aQ;rfl
 one h v ah:=by obtain ⟨ea,c1,c7,c2,aQ,_⟩:=h;subst aQ;simp only [List.mem_cons,List.not_mem_nil,or_false] at ah;rcases ah with rfl | rfl | rfl | rfl | rfl | rfl | rfl | rfl | rfl <;> rfl
 law aD h:=by obtain ⟨ea,c1,c7,c2,aQ,I,aa⟩:=h;exact ⟨ea,c1,c7,c2,aQ,(au.b4 J.AL).law aD I,(au.b4 J.AK).law aD aa⟩
def iE:au.cY Field where
 size:=3
 rd _ _ cs d:=cs= [au.cl d.Name,.int .i64 d.Kind.Kind,au.cl d.Kind.ap]
 len h:=by subst h;rfl
 one h v ah:=by subst h;simp only [List.mem_cons,List.not_mem_nil,or_false] at ah;rcases ah with rfl | rfl | rfl <;> rfl
 law _ h:=h
def jC:au.cY ap where
 size:=4
 rd F w cs d:=∃ ea c1 c7 c2,cs= [au.cl d.Name,au.cl d.cP,.slice ea d.Fields.length c1,.slice c7 d.bc.length c2]/\(au.b4 J.iE).rd F w [.slice ea d.Fields.length c1] d.Fields/\(au.b4 J.oZ).rd F w [.slice c7 d.bc.length c2] d.bc
 len h:=by obtain ⟨ea,c1,c7,c2,aQ,_⟩:=h;subst aQ;rfl
 one h v ah:=by obtain ⟨ea,c1,c7,c2,aQ,_⟩:=h;subst aQ;simp only [List.mem_cons,List.not_mem_nil,or_false] at ah;rcases ah with rfl | rfl | rfl | rfl <;> rfl
 law aD h:=by obtain ⟨ea,c1,c7,c2,aQ,I,aa⟩:=h;exact ⟨ea,c1,c7,c2,aQ,(au.b4 J.iE).law aD I,(au.b4 J.oZ).law aD aa⟩
def jD:au.cY Target where
 size:=2
 rd _ _ cs d:=cs= [.int .i64 d.ap,.int .i64 d.Method]
 len h:=by subst h;rfl
 one h v ah:=by subst h;simp only [List.mem_cons,List.not_mem_nil,or_false] at ah;rcases ah with rfl | rfl <;> rfl
 law _ h:=h
def aB8:au.cY aU where
 size:=5
 rd F w cs d:=∃ ea c1 c7 c2 qK c3 u6 c4 u7 c5,cs= [.slice ea d.ba.length c1,.slice c7 d.a8.length c2,.slice qK d.Fields.length c3,.slice u6 d.Names.length c4,.slice u7 d.a9.length c5]/\(au.b4 J.jC).rd F w [.slice ea d.ba.length c1] d.ba/\(au.b4 (au.e3 .i64)).rd F w [.slice c7 d.a8.length c2] d.a8/\(au.b4 (au.b4 J.iE)).rd F w [.slice qK d.Fields.length c3] d.Fields/\(au.b4 (au.b4 au.iD)).rd F w [.slice u6 d.Names.length c4] d.Names/\(au.b4 (au.b4 J.jD)).rd F w [.slice u7 d.a9.length c5] d.a9
 len h:=by obtain ⟨ea,c1,c7,c2,qK,c3,u6,c4,u7,c5,aQ,_⟩:=h;subst aQ;rfl
 one h v ah:=by obtain ⟨ea,c1,c7,c2,qK,c3,u6,c4,u7,c5,aQ,_⟩:=h;subst aQ;simp only [List.mem_cons,List.not_mem_nil,or_false] at ah;rcases ah with rfl | rfl | rfl | rfl | rfl <;> rfl
 law aD h:=by obtain ⟨ea,c1,c7,c2,qK,c3,u6,c4,u7,c5,aQ,I,aa,aw,bi,dA⟩:=h;exact ⟨ea,c1,c7,c2,qK,c3,u6,c4,u7,c5,aQ,(au.b4 J.jC).law aD I,(au.b4 (au.e3 .i64)).law aD aa,(au.b4 (au.b4 J.iE)).law aD aw,(au.b4 (au.b4 au.iD)).law aD bi,(au.b4 (au.b4 J.jD)).law aD dA⟩
def aB7:au.cY aY where
 size:=7
 rd F w cs d:=∃ ea c1 c7 c2,cs= [.slice ea d.Words.length c1,.int .i64 d.aL,.int .i64 d.aW,.int .i64 d.a5,.int .i64 d.a2,.slice c7 d.aZ.length c2,.int .i64 d.Next]/\(au.b4 (au.e3 .i64)).rd F w [.slice ea d.Words.length c1] d.Words/\(au.b4 (au.e3 .i64)).rd F w [.slice c7 d.aZ.length c2] d.aZ
 len h:=by obtain ⟨ea,c1,c7,c2,aQ,_⟩:=h;subst aQ;rfl
 one h v ah:=by obtain ⟨ea,c1,c7,c2,aQ,_⟩:=h;subst aQ;simp only [List.mem_cons,List.not_mem_nil,or_false] at ah;rcases ah with rfl | rfl | rfl | rfl | rfl | rfl | rfl <;> rfl
 law aD h:=by obtain ⟨ea,c1,c7,c2,aQ,I,aa⟩:=h;exact ⟨ea,c1,c7,c2,aQ,(au.b4 (au.e3 .i64)).law aD I,(au.b4 (au.e3 .i64)).law aD aa⟩
end J
namespace Go.Value
abbrev c6 (g:Nat):Value:=.pointer (some ⟨g,0,none⟩)
abbrev i (n:Int):Value:=.int .i64 n
end Go.Value
namespace Go.Proofs.YteeliipnilghaaaGreat
open Go Go.RowKit
abbrev ck {α:Type} (T:au.cY α) (A:Option Addr) (c:Nat) (l:List α):au.bB:=au.bB.of (au.b4 T) [.slice A l.length c] l
def pG:au.lh:=⟨[(3,.i .i64),(4,.b),(5,.i .u8),(9,.s),(22,.ck),(25,.ck),(26,.ck),(27,.ck),(28,.ck),(31,.i .i64),(73,.ck),(119,.ck),(120,.ck),(121,.ck),(124,.ck),(126,.ck),(129,.ck),(132,.ck),(202,.ck),(204,.ck)],[(24,0,0),(24,1,1),(24,2,2),(24,3,3),(24,4,4),(24,5,5),(24,6,6),(30,0,0),(30,1,1),(30,2,2),(30,3,3),(30,4,4),(69,0,0),(72,0,0),(72,1,7),(72,2,12),(72,3,13),(72,4,14),(117,0,0),(117,1,1),(117,2,2),(128,0,0),(128,1,1),(131,0,0),(131,1,1),(131,2,2),(131,3,3),(131,4,5),(131,5,6),(131,6,7),(131,7,8),(134,0,0),(134,1,1),(134,2,2),(134,3,3),(136,0,0),(136,1,1),(157,0,0),(157,1,1),(157,2,2),(157,3,3)],[(3,none),(4,none),(5,none),(9,none),(22,none),(24,some 7),(25,none),(26,none),(27,none),(28,none),(30,some 5),(60,none),(69,some 5),(70,none),(113,none),(115,none),(118,none),(120,none),(121,none),(124,none),(126,none),(128,some 2),(129,none),(131,some 9),(132,none),(134,some 4),(136,some 3),(157,some 4),(166,some 2)]⟩
theorem pH:au.qM Tryz.prog pG:=⟨⟨Tryz.underlying3,Tryz.underlying4,Tryz.underlying5,Tryz.underlying9,⟨_,Tryz.underlying22⟩,⟨_,Tryz.underlying25⟩,⟨_,Tryz.underlying26⟩,⟨_,Tryz.underlying27⟩,⟨_,Tryz.underlying28⟩,Tryz.underlying31,⟨_,Tryz.underlying73⟩,⟨_,Tryz.underlying119⟩,⟨_,Tryz.underlying120⟩,⟨_,Tryz.underlying121⟩,⟨_,Tryz.underlying124⟩,⟨_,Tryz.underlying126⟩,⟨_,Tryz.underlying129⟩,⟨_,Tryz.underlying132⟩,⟨_,Tryz.underlying202⟩,⟨_,Tryz.underlying204⟩,trivial⟩,⟨au.eC Tryz.underlying24 rfl rfl Tryz.sizeOf22 rfl,au.eC Tryz.underlying24 rfl rfl Tryz.sizeOf3 rfl,au.eC Tryz.underlying24 rfl rfl Tryz.sizeOf3 rfl,au.eC Tryz.underlying24 rfl rfl Tryz.sizeOf3 rfl,au.eC Tryz.underlying24 rfl rfl Tryz.sizeOf3 rfl,au.eC Tryz.underlying24 rfl rfl Tryz.sizeOf22 rfl,au.eC Tryz.underlying24 rfl rfl Tryz.sizeOf3 rfl,au.eC Tryz.underlying30 rfl rfl Tryz.sizeOf25 rfl,au.eC Tryz.underlying30 rfl rfl Tryz.sizeOf22 rfl,au.eC Tryz.underlying30 rfl rfl Tryz.sizeOf26 rfl,au.eC Tryz.underlying30 rfl rfl Tryz.sizeOf27 rfl,au.eC Tryz.underlying30 rfl rfl Tryz.sizeOf28 rfl,au.eC Tryz.underlying69 rfl rfl Tryz.sizeOf30 rfl,au.eC Tryz.underlying72 rfl rfl Tryz.sizeOf24 rfl,au.eC Tryz.underlying72 rfl rfl Tryz.sizeOf69 rfl,au.eC Tryz.underlying72 rfl rfl Tryz.sizeOf22 rfl,au.eC Tryz.underlying72 rfl rfl Tryz.sizeOf22 rfl,au.eC Tryz.underlying72 rfl rfl Tryz.sizeOf70 rfl,au.eC Tryz.underlying117 rfl rfl Tryz.sizeOf25 rfl,au.eC Tryz.underlying117 rfl rfl Tryz.sizeOf115 rfl,au.eC Tryz.underlying117 rfl rfl Tryz.sizeOf22 rfl,au.eC Tryz.underlying128 rfl rfl Tryz.sizeOf3 rfl,au.eC Tryz.underlying128 rfl rfl Tryz.sizeOf9 rfl,au.eC Tryz.underlying131 rfl rfl Tryz.sizeOf9 rfl,au.eC Tryz.underlying131 rfl rfl Tryz.sizeOf4 rfl,au.eC Tryz.underlying131 rfl rfl Tryz.sizeOf126 rfl,au.eC Tryz.underlying131 rfl rfl Tryz.sizeOf128 rfl,au.eC Tryz.underlying131 rfl rfl Tryz.sizeOf3 rfl,au.eC Tryz.underlying131 rfl rfl Tryz.sizeOf3 rfl,au.eC Tryz.underlying131 rfl rfl Tryz.sizeOf9 rfl,au.eC Tryz.underlying131 rfl rfl Tryz.sizeOf129 rfl,au.eC Tryz.underlying134 rfl rfl Tryz.sizeOf9 rfl,au.eC Tryz.underlying134 rfl rfl Tryz.sizeOf9 rfl,au.eC Tryz.underlying134 rfl rfl Tryz.sizeOf124 rfl,au.eC Tryz.underlying134 rfl rfl Tryz.sizeOf132 rfl,au.eC Tryz.underlying136 rfl rfl Tryz.sizeOf9 rfl,au.eC Tryz.underlying136 rfl rfl Tryz.sizeOf128 rfl,au.eC Tryz.underlying157 rfl rfl Tryz.sizeOf3 rfl,au.eC Tryz.underlying157 rfl rfl Tryz.sizeOf3 rfl,au.eC Tryz.underlying157 rfl rfl Tryz.sizeOf3 rfl,au.eC Tryz.underlying157 rfl rfl Tryz.sizeOf9 rfl,trivial⟩,⟨Tryz.isAgg3,Tryz.isAgg4,Tryz.isAgg5,Tryz.isAgg9,Tryz.isAgg22,⟨Tryz.isAgg24,Tryz.sizeOf24⟩,Tryz.isAgg25,Tryz.isAgg26,Tryz.isAgg27,Tryz.isAgg28,⟨Tryz.isAgg30,Tryz.sizeOf30⟩,Tryz.isAgg60,⟨Tryz.isAgg69,Tryz.sizeOf69⟩,Tryz.isAgg70,Tryz.isAgg113,Tryz.isAgg115,Tryz.isAgg118,Tryz.isAgg120,Tryz.isAgg121,Tryz.isAgg124,Tryz.isAgg126,⟨Tryz.isAgg128,Tryz.sizeOf128⟩,Tryz.isAgg129,⟨Tryz.isAgg131,Tryz.sizeOf131⟩,Tryz.isAgg132,⟨Tryz.isAgg134,Tryz.sizeOf134⟩,⟨Tryz.isAgg136,Tryz.sizeOf136⟩,⟨Tryz.isAgg157,Tryz.sizeOf157⟩,⟨Tryz.isAgg166,Tryz.sizeOf166⟩,trivial⟩⟩
theorem auL:(Tryz.prog.info? 3).map (fun i=>(i.zero,i.size,i.bytes))=some (some (.int .i64 0),1,8):=by kernel_rfl
theorem Sk:(Tryz.prog.info? 9).map (fun i=>(i.zero,i.size,i.bytes))=some (some (au.cl []),1,16):=by kernel_rfl
theorem auK:(Tryz.prog.info? 136).map (fun i=>(i.zero,i.size,i.bytes))=some (some (.agg #[au.cl [],.int .i64 0,au.cl []]),3,40):=by kernel_rfl
theorem Sj:(Tryz.prog.info? 166).map (fun i=>(i.zero,i.size,i.bytes))=some (some (.agg #[.int .i64 0,.int .i64 0]),2,16):=by kernel_rfl
theorem ayp:∀ w,(au.placesOf Tryz.prog 166).run Tryz.prog w= .ok #[(0,1),(1,1)] w:=fun w=>by kernel_rfl
theorem aqB {o:Oper} {a:Act} {w:World} {t':TypeId} {x y:Operand} {X Y:J.Kind} (av:o.op= .binOp .eql 128 x y t') (ad:a.eval x= .agg #[.int .i64 X.Kind,au.cl X.ap]) (hy:a.eval y= .agg #[.int .i64 Y.Kind,au.cl Y.ap]):au.bb Tryz.prog o a w (.bool (decide (X=Y))) w:=by
 have aM:decide (X=Y)=decide (X.Kind=Y.Kind/\X.ap=Y.ap/\True):=by rcases X with ⟨_,_⟩;rcases Y with ⟨_,_⟩;simp
 rw [aM]
 exact au.NK Tryz.underlying128 (by kernel_rfl) (by kernel_rfl) (au.mr rfl Tryz.underlying3 Tryz.isAgg3 rfl rfl (au.vP rfl Tryz.underlying9 Tryz.isAgg9 rfl rfl (by simp [au.q4]))) av ad hy
theorem aqF {o:Oper} {a:Act} {w:World} {t':TypeId} {x y:Operand} {X Y:J.Kind} (av:o.op= .binOp .neq 128 x y t') (ad:a.eval x= .agg #[.int .i64 X.Kind,au.cl X.ap]) (hy:a.eval y= .agg #[.int .i64 Y.Kind,au.cl Y.ap]):au.bb Tryz.prog o a w (.bool (!decide (X=Y))) w:=by
 have aM:decide (X=Y)=decide (X.Kind=Y.Kind/\X.ap=Y.ap/\True):=by rcases X with ⟨_,_⟩;rcases Y with ⟨_,_⟩;simp
 rw [aM]
 exact au.NL Tryz.underlying128 (by kernel_rfl) (by kernel_rfl) (au.mr rfl Tryz.underlying3 Tryz.isAgg3 rfl rfl (au.vP rfl Tryz.underlying9 Tryz.isAgg9 rfl rfl (by simp [au.q4]))) av ad hy
theorem aqz {o:Oper} {a:Act} {w:World} {t':TypeId} {x y:Operand} {X Y:J.Field} (av:o.op= .binOp .eql 136 x y t') (ad:a.eval x= .agg #[au.cl X.Name,.int .i64 X.Kind.Kind,au.cl X.Kind.ap]) (hy:a.eval y= .agg #[au.cl Y.Name,.int .i64 Y.Kind.Kind,au.cl Y.Kind.ap]):au.bb Tryz.prog o a w (.bool (decide (X=Y))) w:=by
 have aM:decide (X=Y)=decide (X.Name=Y.Name/\(X.Kind.Kind=Y.Kind.Kind/\X.Kind.ap=Y.Kind.ap/\True)/\True):=by rcases X with ⟨_,⟨_,_⟩⟩;rcases Y with ⟨_,⟨_,_⟩⟩;simp
 rw [aM]
 exact au.NK Tryz.underlying136 (by kernel_rfl) (by kernel_rfl) (au.vP rfl Tryz.underlying9 Tryz.isAgg9 rfl rfl (au.Z4 (us:=[.int .i64 X.Kind.Kind,au.cl X.Kind.ap]) (vs:=[.int .i64 Y.Kind.Kind,au.cl Y.Kind.ap]) (q:=X.Kind.Kind=Y.Kind.Kind/\X.Kind.ap=Y.Kind.ap/\True) rfl Tryz.isAgg128 Tryz.sizeOf128 rfl rfl (au.Z5 Tryz.underlying128 (by kernel_rfl) (au.mr rfl Tryz.underlying3 Tryz.isAgg3 rfl rfl (au.vP rfl Tryz.underlying9 Tryz.isAgg9 rfl rfl (by simp [au.q4])))) (by simp [au.q4]))) av ad hy
theorem aqD {o:Oper} {a:Act} {w:World} {t':TypeId} {x y:Operand} {X Y:J.Field} (av:o.op= .binOp .neq 136 x y t') (ad:a.eval x= .agg #[au.cl X.Name,.int .i64 X.Kind.Kind,au.cl X.Kind.ap]) (hy:a.eval y= .agg #[au.cl Y.Name,.int .i64 Y.Kind.Kind,au.cl Y.Kind.ap]):au.bb Tryz.prog o a w (.bool (!decide (X=Y))) w:=by
 have aM:decide (X=Y)=decide (X.Name=Y.Name/\(X.Kind.Kind=Y.Kind.Kind/\X.Kind.ap=Y.Kind.ap/\True)/\True):=by rcases X with ⟨_,⟨_,_⟩⟩;rcases Y with ⟨_,⟨_,_⟩⟩;simp
 rw [aM]
 exact au.NL Tryz.underlying136 (by kernel_rfl) (by kernel_rfl) (au.vP rfl Tryz.underlying9 Tryz.isAgg9 rfl rfl (au.Z4 (us:=[.int .i64 X.Kind.Kind,au.cl X.Kind.ap]) (vs:=[.int .i64 Y.Kind.Kind,au.cl Y.Kind.ap]) (q:=X.Kind.Kind=Y.Kind.Kind/\X.Kind.ap=Y.Kind.ap/\True) rfl Tryz.isAgg128 Tryz.sizeOf128 rfl rfl (au.Z5 Tryz.underlying128 (by kernel_rfl) (au.mr rfl Tryz.underlying3 Tryz.isAgg3 rfl rfl (au.vP rfl Tryz.underlying9 Tryz.isAgg9 rfl rfl (by simp [au.q4])))) (by simp [au.q4]))) av ad hy
theorem aqA {o:Oper} {a:Act} {w:World} {t':TypeId} {x y:Operand} {X Y:J.Handler} (av:o.op= .binOp .eql 157 x y t') (ad:a.eval x= .agg #[.int .i64 X.From,.int .i64 X.To,.int .i64 X.hV,au.cl X.ap]) (hy:a.eval y= .agg #[.int .i64 Y.From,.int .i64 Y.To,.int .i64 Y.hV,au.cl Y.ap]):au.bb Tryz.prog o a w (.bool (decide (X=Y))) w:=by
 have aM:decide (X=Y)=decide (X.From=Y.From/\X.To=Y.To/\X.hV=Y.hV/\X.ap=Y.ap/\True):=by rcases X with ⟨_,_,_,_⟩;rcases Y with ⟨_,_,_,_⟩;simp
 rw [aM]
 exact au.NK Tryz.underlying157 (by kernel_rfl) (by kernel_rfl) (au.mr rfl Tryz.underlying3 Tryz.isAgg3 rfl rfl (au.mr rfl Tryz.underlying3 Tryz.isAgg3 rfl rfl (au.mr rfl Tryz.underlying3 Tryz.isAgg3 rfl rfl (au.vP rfl Tryz.underlying9 Tryz.isAgg9 rfl rfl (by simp [au.q4]))))) av ad hy
theorem aqE {o:Oper} {a:Act} {w:World} {t':TypeId} {x y:Operand} {X Y:J.Handler} (av:o.op= .binOp .neq 157 x y t') (ad:a.eval x= .agg #[.int .i64 X.From,.int .i64 X.To,.int .i64 X.hV,au.cl X.ap]) (hy:a.eval y= .agg #[.int .i64 Y.From,.int .i64 Y.To,.int .i64 Y.hV,au.cl Y.ap]):au.bb Tryz.prog o a w (.bool (!decide (X=Y))) w:=by
 have aM:decide (X=Y)=decide (X.From=Y.From/\X.To=Y.To/\X.hV=Y.hV/\X.ap=Y.ap/\True):=by rcases X with ⟨_,_,_,_⟩;rcases Y with ⟨_,_,_,_⟩;simp
 rw [aM]
 exact au.NL Tryz.underlying157 (by kernel_rfl) (by kernel_rfl) (au.mr rfl Tryz.underlying3 Tryz.isAgg3 rfl rfl (au.mr rfl Tryz.underlying3 Tryz.isAgg3 rfl rfl (au.mr rfl Tryz.underlying3 Tryz.isAgg3 rfl rfl (au.vP rfl Tryz.underlying9 Tryz.isAgg9 rfl rfl (by simp [au.q4]))))) av ad hy
theorem aqC {o:Oper} {a:Act} {w:World} {t':TypeId} {x y:Operand} {X Y:J.Target} (av:o.op= .binOp .eql 166 x y t') (ad:a.eval x= .agg #[.int .i64 X.ap,.int .i64 X.Method]) (hy:a.eval y= .agg #[.int .i64 Y.ap,.int .i64 Y.Method]):au.bb Tryz.prog o a w (.bool (decide (X=Y))) w:=by
 have aM:decide (X=Y)=decide (X.ap=Y.ap/\X.Method=Y.Method/\True):=by rcases X with ⟨_,_⟩;rcases Y with ⟨_,_⟩;simp
 rw [aM]
 exact au.NK Tryz.underlying166 (by kernel_rfl) (by kernel_rfl) (au.mr rfl Tryz.underlying3 Tryz.isAgg3 rfl rfl (au.mr rfl Tryz.underlying3 Tryz.isAgg3 rfl rfl (by simp [au.q4]))) av ad hy
theorem aqG {o:Oper} {a:Act} {w:World} {t':TypeId} {x y:Operand} {X Y:J.Target} (av:o.op= .binOp .neq 166 x y t') (ad:a.eval x= .agg #[.int .i64 X.ap,.int .i64 X.Method]) (hy:a.eval y= .agg #[.int .i64 Y.ap,.int .i64 Y.Method]):au.bb Tryz.prog o a w (.bool (!decide (X=Y))) w:=by
 have aM:decide (X=Y)=decide (X.ap=Y.ap/\X.Method=Y.Method/\True):=by rcases X with ⟨_,_⟩;rcases Y with ⟨_,_⟩;simp
 rw [aM]
 exact au.NL Tryz.underlying166 (by kernel_rfl) (by kernel_rfl) (au.mr rfl Tryz.underlying3 Tryz.isAgg3 rfl rfl (au.mr rfl Tryz.underlying3 Tryz.isAgg3 rfl rfl (by simp [au.q4]))) av ad hy
section
open au
variable {n:cE} {fr:List (Nat × Value)} {w:World} {a:Act}
theorem ayY (k:Nat) (ao:List Nat) {ops:Array Oper} {C:World->Prop} {pd:Act->Prop} {rest:List Oper} {M:List (Nat × Nat × List Value)} (fr':List (Nat × Value)) (L:List Nat) (eL:∀ w,C w->i_ w M) (af:Fr n fr a)
 (next:∀ aX,Fr n fr' aX->wpQuiet Tryz.prog ops C pd (rest.drop k) aX) (he:lz pG ops n M (rest.take k) ao fr (fr'.map (·.1))=some (fr',dup L):=by kernel_rfl):wpQuiet Tryz.prog ops C pd rest a:=ayX k _ ao pH eL af he next
theorem rg (ao:List Nat) {id:Nat} {lo:List Oper} {Q:Exit->Act->World->Prop} {M:List (Nat × Nat × List Value)} (fr':List (Nat × Value)) (L:List Nat) (eL:i_ w M) (af:Fr n fr a)
 (next:∀ aX,Fr n fr' aX->Q .normal aX w) (he:lz pG lo.toArray n M lo ao fr (fr'.map (·.1))=some (fr',dup L):=by kernel_rfl):(Code.region id lo.toArray false).wp Tryz.prog Q a w:=by
 refine nd (g1 lo.length _ ao pH eL af (by rw [List.take_length];exact he) fun aX dR=>?_)
 rw [List.drop_length]
 exact next aX dR
theorem Ht (ao:List Nat) {id:Nat} {lo:List Oper} {c:Code} {Q:Exit->Act->World->Prop} (fr':List (Nat × Value)) (af:Fr n fr a)
 (next:∀ aX,Fr n fr' aX->c.wp Tryz.prog Q aX w) (he:lz pG lo.toArray n [] lo ao fr (fr'.map (·.1))=some (fr',dup []):=by kernel_rfl):(Code.seq (.region id lo.toArray false) c).wp Tryz.prog Q a w:=wp_seq_k fun _ cG=>rg ao fr' [] ga af (fun aX dR=>cG _ _ (next aX dR)) he
theorem j' (k:Nat) (ao:List Nat) {ops:Array Oper} {Q:Exit->Act->World->Prop} {rest:List Oper} (hj:List (Nat × Value)) (af:Fr n fr a)
 (next:∀ aX,Fr n (oa hj fr) aX->wpList Tryz.prog ops Q (rest.drop k) aX w) (he:lz pG ops n [] (rest.take k) ao fr ((mo hj fr).map (·.1))=some (mo hj fr,dup []):=by kernel_rfl):wpList Tryz.prog ops Q rest a w:=g1 k _ ao pH ga af he fun aX h=>next aX h.Jx
theorem q1 (k:Nat) (ao:List Nat) {ops:Array Oper} {Q:Exit->Act->World->Prop} {rest:List Oper} {M:List (Nat × Nat × List Value)} (hj:List (Nat × Value)) (L:List Nat) (eL:i_ w M) (af:Fr n fr a)
 (next:∀ aX,Fr n (oa hj fr) aX->wpList Tryz.prog ops Q (rest.drop k) aX w) (he:lz pG ops n M (rest.take k) ao fr ((mo hj fr).map (·.1))=some (mo hj fr,dup L):=by kernel_rfl):wpList Tryz.prog ops Q rest a w:=g1 k _ ao pH eL af he fun aX h=>next aX h.Jx
theorem Zj (ao:List Nat) {id:Nat} {lo:List Oper} {Q:Exit->Act->World->Prop} {M:List (Nat × Nat × List Value)} (hj:List (Nat × Value)) (L:List Nat) (eL:i_ w M) (af:Fr n fr a)
 (next:∀ aX,Fr n (oa hj fr) aX->Q .normal aX w) (he:lz pG lo.toArray n M lo ao fr ((mo hj fr).map (·.1))=some (mo hj fr,dup L):=by kernel_rfl):(Code.region id lo.toArray false).wp Tryz.prog Q a w:=rg ao _ L eL af (fun aX h=>next aX h.Jx) he
theorem Zk (ao:List Nat) {id:Nat} {lo:List Oper} {Q:Exit->Act->World->Prop} (hj:List (Nat × Value)) (af:Fr n fr a)
 (next:∀ aX,Fr n (oa hj fr) aX->Q .normal aX w) (he:lz pG lo.toArray n [] lo ao fr ((mo hj fr).map (·.1))=some (mo hj fr,dup []):=by kernel_rfl):(Code.region id lo.toArray false).wp Tryz.prog Q a w:=Zj ao hj [] ga af next he
theorem oi (ao:List Nat) {id:Nat} {lo:List Oper} {c:Code} {Q:Exit->Act->World->Prop} (hj:List (Nat × Value)) (af:Fr n fr a)
 (next:∀ aX,Fr n (oa hj fr) aX->c.wp Tryz.prog Q aX w) (he:lz pG lo.toArray n [] lo ao fr ((mo hj fr).map (·.1))=some (mo hj fr,dup []):=by kernel_rfl):(Code.seq (.region id lo.toArray false) c).wp Tryz.prog Q a w:=wp_seq_k fun _ cG=>Zj ao hj [] ga af (fun aX dR=>cG _ _ (next aX dR)) he
variable {ops:Array Oper} {Q:Exit->Act->World->Prop} {S:World->Prop} {f p:Nat} {ds:List Nat} {M:List (Nat × Nat × List Value)}
theorem dz (is:List Nat) (k:Nat) (ao:List Nat) (fr':List (Nat × Value)) (L:List Nat) (eL:∀ w,S w->i_ w M) (af:Fr n fr a) (nk:S w) (next:∀ aX,Fr n fr' aX->e9 Tryz.prog ops Q p S f (G_ is ds) aX w)
 (aj:Nat.beq is.length k=true:=by kernel_rfl) (mD:(dJ ops.size ds).getD p false=false:=by kernel_rfl) (aO:Dw ops p ds is=true:=by kernel_rfl) (he:JQ pG ops n M is ao fr (fr'.map (·.1))=some (fr',dup L):=by kernel_rfl):e9 Tryz.prog ops Q p S (f+k) ds a w:=by
 obtain ⟨os,I,aa⟩:=aq' he
 exact an2 is k _ ao pH eL af aj mD I aO aa nk next
theorem dY (is:List Nat) (k:Nat) (ao:List Nat) (hj:List (Nat × Value)) (L:List Nat) (eL:∀ w,S w->i_ w M) (af:Fr n fr a) (nk:S w) (next:∀ aX,Fr n (oa hj fr) aX->e9 Tryz.prog ops Q p S f (G_ is ds) aX w)
 (aj:Nat.beq is.length k=true:=by kernel_rfl) (mD:(dJ ops.size ds).getD p false=false:=by kernel_rfl) (aO:Dw ops p ds is=true:=by kernel_rfl) (he:JQ pG ops n M is ao fr ((mo hj fr).map (·.1))=some (mo hj fr,dup L):=by kernel_rfl):e9 Tryz.prog ops Q p S (f+k) ds a w:=
 dz is k ao _ L eL af nk (fun aX h=>next aX h.Jx) aj mD aO he
end
end Go.Proofs.YteeliipnilghaaaGreat
namespace Go.Proofs.YteeliipnilghaaaGreat
open Go Go.RowKit
theorem mh:Tryz.prog.cellsOf 3 = 1 :=by kernel_rfl
theorem ao4:Tryz.prog.cellsOf 4 = 1 :=by kernel_rfl
theorem vK:Tryz.prog.cellsOf 9 = 1 :=by kernel_rfl
theorem Pf:Tryz.prog.cellsOf 22 = 1 :=by kernel_rfl
theorem aoY:Tryz.prog.cellsOf 24 = 7 :=by kernel_rfl
theorem aoZ:Tryz.prog.cellsOf 25 = 1 :=by kernel_rfl
theorem ao0:Tryz.prog.cellsOf 26 = 1 :=by kernel_rfl
theorem ao1:Tryz.prog.cellsOf 27 = 1 :=by kernel_rfl
theorem ao2:Tryz.prog.cellsOf 28 = 1 :=by kernel_rfl
theorem ao3:Tryz.prog.cellsOf 30 = 5 :=by kernel_rfl
theorem aoT:Tryz.prog.cellsOf 120 = 1 :=by kernel_rfl
theorem aoU:Tryz.prog.cellsOf 121 = 1 :=by kernel_rfl
theorem Y6:Tryz.prog.cellsOf 124 = 1 :=by kernel_rfl
theorem aoV:Tryz.prog.cellsOf 126 = 1 :=by kernel_rfl
theorem Jr:Tryz.prog.cellsOf 128 = 2 :=by kernel_rfl
theorem aoW:Tryz.prog.cellsOf 129 = 1 :=by kernel_rfl
theorem Y7:Tryz.prog.cellsOf 131 = 9 :=by kernel_rfl
theorem aoX:Tryz.prog.cellsOf 132 = 1 :=by kernel_rfl
theorem Y8:Tryz.prog.cellsOf 134 = 4 :=by kernel_rfl
theorem Y9:Tryz.prog.cellsOf 136 = 3 :=by kernel_rfl
theorem Y_:Tryz.prog.cellsOf 157 = 4 :=by kernel_rfl
theorem Y':Tryz.prog.cellsOf 166 = 2 :=by kernel_rfl
theorem aon:Tryz.prog.bytesOf 3 = 8 :=by kernel_rfl
theorem aoo:Tryz.prog.bytesOf 9 = 16 :=by kernel_rfl
theorem aoe:Tryz.prog.bytesOf 120 = 24 :=by kernel_rfl
theorem aof:Tryz.prog.bytesOf 121 = 24 :=by kernel_rfl
theorem aog:Tryz.prog.bytesOf 124 = 24 :=by kernel_rfl
theorem aoh:Tryz.prog.bytesOf 128 = 24 :=by kernel_rfl
theorem aoi:Tryz.prog.bytesOf 131 = 128 :=by kernel_rfl
theorem aoj:Tryz.prog.bytesOf 134 = 80 :=by kernel_rfl
theorem aok:Tryz.prog.bytesOf 136 = 40 :=by kernel_rfl
theorem aol:Tryz.prog.bytesOf 157 = 40 :=by kernel_rfl
theorem aom:Tryz.prog.bytesOf 166 = 16 :=by kernel_rfl
theorem adf {l:List Value} (h:l.length= 2):∃ dz cC,l= [dz,cC]:=match l,h with | [dz,cC],_=>⟨dz,cC,rfl⟩
theorem awx {l:List Value} (h:l.length= 3):∃ dz cC cQ,l= [dz,cC,cQ]:=match l,h with | [dz,cC,cQ],_=>⟨dz,cC,cQ,rfl⟩
theorem adg {l:List Value} (h:l.length= 4):∃ dz cC cQ dX,l= [dz,cC,cQ,dX]:=match l,h with | [dz,cC,cQ,dX],_=>⟨dz,cC,cQ,dX,rfl⟩
theorem awy {l:List Value} (h:l.length= 5):∃ dz cC cQ dX fb,l= [dz,cC,cQ,dX,fb]:=match l,h with | [dz,cC,cQ,dX,fb],_=>⟨dz,cC,cQ,dX,fb,rfl⟩
theorem awz {l:List Value} (h:l.length= 7):∃ dz cC cQ dX fb j8 lr,l= [dz,cC,cQ,dX,fb,j8,lr]:=match l,h with | [dz,cC,cQ,dX,fb,j8,lr],_=>⟨dz,cC,cQ,dX,fb,j8,lr,rfl⟩
theorem awA {l:List Value} (h:l.length= 9):∃ dz cC cQ dX fb j8 lr zj BS,l= [dz,cC,cQ,dX,fb,j8,lr,zj,BS]:=match l,h with | [dz,cC,cQ,dX,fb,j8,lr,zj,BS],_=>⟨dz,cC,cQ,dX,fb,j8,lr,zj,BS,rfl⟩
section
variable {H:Type} {enc:TypeId × Value->H} {N:Nat}
theorem L7:au.g6 Tryz.prog enc N 22 (au.b4 (au.e3 .i64)) (fun l=>l.length* 8 <=N/\ ∀ cv ∈ l,au.iQ cv):=by
 have h:=au.qi (enc:=enc) (N:=N) Tryz.underlying22 mh (by decide) (au.mS Tryz.underlying3)
 rw [aon] at h
 exact h
def Yd (N:Nat) (d:J.aY):Prop:=(d.Words.length* 8 <=N/\ ∀ cv ∈ d.Words,au.iQ cv)/\au.iQ d.aL/\au.iQ d.aW/\au.iQ d.a5/\au.iQ d.a2/\(d.aZ.length* 8 <=N/\ ∀ cv ∈ d.aZ,au.iQ cv)/\au.iQ d.Next
theorem aAH:au.g6 Tryz.prog enc N 24 J.aB7 (Yd N):=by
 intro W n cs x h aN hw
 obtain ⟨fE,aq,af⟩:=au.nh Tryz.underlying24 h aN hw
 replace aq:=aq.trans aoY
 obtain ⟨dz,cC,cQ,dX,fb,j8,lr,rfl⟩:=awz aq
 obtain ⟨Bp,aQ,gL,w0⟩:=au.fh af 0 rfl rfl rfl Pf (r:=[dz]) rfl
 obtain ⟨d0,fS,hP⟩:=(L7) W _ _ _ aQ gL w0
 obtain ⟨o9,eS,dg⟩:=au.lV fS
 obtain rfl:dz=_:=(List.cons.inj dg).1
 obtain ⟨cL,I,dF,er⟩:=au.fh af 1 rfl rfl rfl mh (r:=[cC]) rfl
 obtain ⟨d1,cD,bg⟩:=(au.mS Tryz.underlying3) W _ _ _ I dF er
 have ak:[cC]=_:=cD
 obtain rfl:cC=_:=(List.cons.inj ak).1
 obtain ⟨l9,aa,fF,db⟩:=au.fh af 2 rfl rfl rfl mh (r:=[cQ]) rfl
 obtain ⟨d2,dM,bf⟩:=(au.mS Tryz.underlying3) W _ _ _ aa fF db
 have al:[cQ]=_:=dM
 obtain rfl:cQ=_:=(List.cons.inj al).1
 obtain ⟨qJ,aw,hk,ky⟩:=au.fh af 3 rfl rfl rfl mh (r:=[dX]) rfl
 obtain ⟨d3,gM,cc⟩:=(au.mS Tryz.underlying3) W _ _ _ aw hk ky
 have aV:[dX]=_:=gM
 obtain rfl:dX=_:=(List.cons.inj aV).1
 obtain ⟨Ea,bi,jV,xD⟩:=au.fh af 4 rfl rfl rfl mh (r:=[fb]) rfl
 obtain ⟨d4,mP,da⟩:=(au.mS Tryz.underlying3) W _ _ _ bi jV xD
 have bS:[fb]=_:=mP
 obtain rfl:fb=_:=(List.cons.inj bS).1
 obtain ⟨aFH,dA,C7,DE⟩:=au.fh af 5 rfl rfl rfl Pf (r:=[j8]) rfl
 obtain ⟨d5,L3,ny⟩:=(L7) W _ _ _ dA C7 DE
 obtain ⟨u7,c5,dw⟩:=au.lV L3
 obtain rfl:j8=_:=(List.cons.inj dw).1
 obtain ⟨aFI,hd,TN,VS⟩:=au.fh af 6 rfl rfl rfl mh (r:=[lr]) rfl
 obtain ⟨d6,U_,wv⟩:=(au.mS Tryz.underlying3) W _ _ _ hd TN VS
 have gR:[lr]=_:=U_
 obtain rfl:lr=_:=(List.cons.inj gR).1
 exact ⟨⟨d0,d1,d2,d3,d4,d5,d6⟩,⟨o9,eS,u7,c5,rfl,fS,L3⟩,⟨hP,bg,bf,cc,da,ny,wv⟩⟩
def Es (N:Nat) (d:J.Kind):Prop:=au.iQ d.Kind/\d.ap.length<=N
theorem Vc:au.g6 Tryz.prog enc N 128 J.AL (Es N):=by
 intro W n cs x h aN hw
 obtain ⟨fE,aq,af⟩:=au.nh Tryz.underlying128 h aN hw
 replace aq:=aq.trans Jr
 obtain ⟨dz,cC,rfl⟩:=adf aq
 obtain ⟨Bp,aQ,gL,w0⟩:=au.fh af 0 rfl rfl rfl mh (r:=[dz]) rfl
 obtain ⟨d0,fS,hP⟩:=(au.mS Tryz.underlying3) W _ _ _ aQ gL w0
 have dg:[dz]=_:=fS
 obtain rfl:dz=_:=(List.cons.inj dg).1
 obtain ⟨cL,I,dF,er⟩:=au.fh af 1 rfl rfl rfl vK (r:=[cC]) rfl
 obtain ⟨d1,cD,bg⟩:=(au.xh Tryz.underlying9) W _ _ _ I dF er
 have ak:[cC]=_:=cD
 obtain rfl:cC=_:=(List.cons.inj ak).1
 exact ⟨⟨d0,d1⟩,rfl,⟨hP,bg⟩⟩
def Er (N:Nat) (d:J.Field):Prop:=d.Name.length<=N/\Es N d.Kind
theorem aAF:au.g6 Tryz.prog enc N 136 J.iE (Er N):=by
 intro W n cs x h aN hw
 obtain ⟨fE,aq,af⟩:=au.nh Tryz.underlying136 h aN hw
 replace aq:=aq.trans Y9
 obtain ⟨dz,cC,cQ,rfl⟩:=awx aq
 obtain ⟨Bp,aQ,gL,w0⟩:=au.fh af 0 rfl rfl rfl vK (r:=[dz]) rfl
 obtain ⟨d0,fS,hP⟩:=(au.xh Tryz.underlying9) W _ _ _ aQ gL w0
 have dg:[dz]=_:=fS
 obtain rfl:dz=_:=(List.cons.inj dg).1
 obtain ⟨cL,I,dF,er⟩:=au.fh af 1 rfl rfl rfl Jr (r:=[cC,cQ]) rfl
 obtain ⟨d1,cD,bg⟩:=Vc W _ _ _ I dF er
 have ak:[cC,cQ]=_:=cD
 simp only [List.cons.injEq,and_true] at ak
 obtain ⟨rfl,rfl⟩:=ak
 exact ⟨⟨d0,d1⟩,rfl,⟨hP,bg⟩⟩
theorem afg:au.g6 Tryz.prog enc N 124 (au.b4 J.iE) (fun l=>l.length* 40 <=N/\ ∀ cv ∈ l,Er N cv):=by
 have h:=au.qi (enc:=enc) (N:=N) Tryz.underlying124 Y9 (by decide) aAF
 rw [aok] at h
 exact h
theorem aAO:au.g6 Tryz.prog enc N 126 (au.b4 J.AL) (fun l=>l.length* 24 <=N/\ ∀ cv ∈ l,Es N cv):=by
 have h:=au.qi (enc:=enc) (N:=N) Tryz.underlying126 Jr (by decide) Vc
 rw [aoh] at h
 exact h
def Ou (N:Nat) (d:J.Handler):Prop:=au.iQ d.From/\au.iQ d.To/\au.iQ d.hV/\d.ap.length<=N
theorem aAG:au.g6 Tryz.prog enc N 157 J.AK (Ou N):=by
 intro W n cs x h aN hw
 obtain ⟨fE,aq,af⟩:=au.nh Tryz.underlying157 h aN hw
 replace aq:=aq.trans Y_
 obtain ⟨dz,cC,cQ,dX,rfl⟩:=adg aq
 obtain ⟨Bp,aQ,gL,w0⟩:=au.fh af 0 rfl rfl rfl mh (r:=[dz]) rfl
 obtain ⟨d0,fS,hP⟩:=(au.mS Tryz.underlying3) W _ _ _ aQ gL w0
 have dg:[dz]=_:=fS
 obtain rfl:dz=_:=(List.cons.inj dg).1
 obtain ⟨cL,I,dF,er⟩:=au.fh af 1 rfl rfl rfl mh (r:=[cC]) rfl
 obtain ⟨d1,cD,bg⟩:=(au.mS Tryz.underlying3) W _ _ _ I dF er
 have ak:[cC]=_:=cD
 obtain rfl:cC=_:=(List.cons.inj ak).1
 obtain ⟨l9,aa,fF,db⟩:=au.fh af 2 rfl rfl rfl mh (r:=[cQ]) rfl
 obtain ⟨d2,dM,bf⟩:=(au.mS Tryz.underlying3) W _ _ _ aa fF db
 have al:[cQ]=_:=dM
 obtain rfl:cQ=_:=(List.cons.inj al).1
 obtain ⟨qJ,aw,hk,ky⟩:=au.fh af 3 rfl rfl rfl vK (r:=[dX]) rfl
 obtain ⟨d3,gM,cc⟩:=(au.xh Tryz.underlying9) W _ _ _ aw hk ky
 have aV:[dX]=_:=gM
 obtain rfl:dX=_:=(List.cons.inj aV).1
 exact ⟨⟨d0,d1,d2,d3⟩,rfl,⟨hP,bg,bf,cc⟩⟩
theorem aAP:au.g6 Tryz.prog enc N 129 (au.b4 J.AK) (fun l=>l.length* 40 <=N/\ ∀ cv ∈ l,Ou N cv):=by
 have h:=au.qi (enc:=enc) (N:=N) Tryz.underlying129 Y_ (by decide) aAG
 rw [aol] at h
 exact h
def I0 (N:Nat) (d:J.Method):Prop:=d.Name.length<=N/\True/\(d.cw.length* 24 <=N/\ ∀ cv ∈ d.cw,Es N cv)/\Es N d.Returns/\au.iQ d.g8/\au.iQ d.g5/\d.Code.length<=N/\(d.cz.length* 40 <=N/\ ∀ cv ∈ d.cz,Ou N cv)
theorem aAJ:au.g6 Tryz.prog enc N 131 J.oZ (I0 N):=by
 intro W n cs x h aN hw
 obtain ⟨fE,aq,af⟩:=au.nh Tryz.underlying131 h aN hw
 replace aq:=aq.trans Y7
 obtain ⟨dz,cC,cQ,dX,fb,j8,lr,zj,BS,rfl⟩:=awA aq
 obtain ⟨Bp,aQ,gL,w0⟩:=au.fh af 0 rfl rfl rfl vK (r:=[dz]) rfl
 obtain ⟨d0,fS,hP⟩:=(au.xh Tryz.underlying9) W _ _ _ aQ gL w0
 have dg:[dz]=_:=fS
 obtain rfl:dz=_:=(List.cons.inj dg).1
 obtain ⟨cL,I,dF,er⟩:=au.fh af 1 rfl rfl rfl ao4 (r:=[cC]) rfl
 obtain ⟨d1,cD,bg⟩:=(au.aAL Tryz.underlying4) W _ _ _ I dF er
 have ak:[cC]=_:=cD
 obtain rfl:cC=_:=(List.cons.inj ak).1
 obtain ⟨l9,aa,fF,db⟩:=au.fh af 2 rfl rfl rfl aoV (r:=[cQ]) rfl
 obtain ⟨d2,dM,bf⟩:=(aAO) W _ _ _ aa fF db
 obtain ⟨c7,c2,al⟩:=au.lV dM
 obtain rfl:cQ=_:=(List.cons.inj al).1
 obtain ⟨qJ,aw,hk,ky⟩:=au.fh af 3 rfl rfl rfl Jr (r:=[dX,fb]) rfl
 obtain ⟨d3,gM,cc⟩:=Vc W _ _ _ aw hk ky
 have aV:[dX,fb]=_:=gM
 simp only [List.cons.injEq,and_true] at aV
 obtain ⟨rfl,rfl⟩:=aV
 obtain ⟨Ea,bi,jV,xD⟩:=au.fh af 4 rfl rfl rfl mh (r:=[j8]) rfl
 obtain ⟨d4,mP,da⟩:=(au.mS Tryz.underlying3) W _ _ _ bi jV xD
 have bS:[j8]=_:=mP
 obtain rfl:j8=_:=(List.cons.inj bS).1
 obtain ⟨aFH,dA,C7,DE⟩:=au.fh af 5 rfl rfl rfl mh (r:=[lr]) rfl
 obtain ⟨d5,L3,ny⟩:=(au.mS Tryz.underlying3) W _ _ _ dA C7 DE
 have dw:[lr]=_:=L3
 obtain rfl:lr=_:=(List.cons.inj dw).1
 obtain ⟨aFI,hd,TN,VS⟩:=au.fh af 6 rfl rfl rfl vK (r:=[zj]) rfl
 obtain ⟨d6,U_,wv⟩:=(au.xh Tryz.underlying9) W _ _ _ hd TN VS
 have gR:[zj]=_:=U_
 obtain rfl:zj=_:=(List.cons.inj gR).1
 obtain ⟨aHK,h2,ayi,aCe⟩:=au.fh af 7 rfl rfl rfl aoW (r:=[BS]) rfl
 obtain ⟨d7,aeT,au7⟩:=(aAP) W _ _ _ h2 ayi aCe
 obtain ⟨ajW,aov,kM⟩:=au.lV aeT
 obtain rfl:BS=_:=(List.cons.inj kM).1
 exact ⟨⟨d0,d1,d2,d3,d4,d5,d6,d7⟩,⟨c7,c2,ajW,aov,rfl,dM,aeT⟩,⟨hP,bg,bf,cc,da,ny,wv,au7⟩⟩
theorem aAQ:au.g6 Tryz.prog enc N 132 (au.b4 J.oZ) (fun l=>l.length* 128 <=N/\ ∀ cv ∈ l,I0 N cv):=by
 have h:=au.qi (enc:=enc) (N:=N) Tryz.underlying132 Y7 (by decide) aAJ
 rw [aoi] at h
 exact h
def Ep (N:Nat) (d:J.ap):Prop:=d.Name.length<=N/\d.cP.length<=N/\(d.Fields.length* 40 <=N/\ ∀ cv ∈ d.Fields,Er N cv)/\(d.bc.length* 128 <=N/\ ∀ cv ∈ d.bc,I0 N cv)
theorem aAE:au.g6 Tryz.prog enc N 134 J.jC (Ep N):=by
 intro W n cs x h aN hw
 obtain ⟨fE,aq,af⟩:=au.nh Tryz.underlying134 h aN hw
 replace aq:=aq.trans Y8
 obtain ⟨dz,cC,cQ,dX,rfl⟩:=adg aq
 obtain ⟨Bp,aQ,gL,w0⟩:=au.fh af 0 rfl rfl rfl vK (r:=[dz]) rfl
 obtain ⟨d0,fS,hP⟩:=(au.xh Tryz.underlying9) W _ _ _ aQ gL w0
 have dg:[dz]=_:=fS
 obtain rfl:dz=_:=(List.cons.inj dg).1
 obtain ⟨cL,I,dF,er⟩:=au.fh af 1 rfl rfl rfl vK (r:=[cC]) rfl
 obtain ⟨d1,cD,bg⟩:=(au.xh Tryz.underlying9) W _ _ _ I dF er
 have ak:[cC]=_:=cD
 obtain rfl:cC=_:=(List.cons.inj ak).1
 obtain ⟨l9,aa,fF,db⟩:=au.fh af 2 rfl rfl rfl Y6 (r:=[cQ]) rfl
 obtain ⟨d2,dM,bf⟩:=(afg) W _ _ _ aa fF db
 obtain ⟨c7,c2,al⟩:=au.lV dM
 obtain rfl:cQ=_:=(List.cons.inj al).1
 obtain ⟨qJ,aw,hk,ky⟩:=au.fh af 3 rfl rfl rfl aoX (r:=[dX]) rfl
 obtain ⟨d3,gM,cc⟩:=(aAQ) W _ _ _ aw hk ky
 obtain ⟨qK,c3,aV⟩:=au.lV gM
 obtain rfl:dX=_:=(List.cons.inj aV).1
 exact ⟨⟨d0,d1,d2,d3⟩,⟨c7,c2,qK,c3,rfl,dM,gM⟩,⟨hP,bg,bf,cc⟩⟩
theorem aAR:au.g6 Tryz.prog enc N 25 (au.b4 J.jC) (fun l=>l.length* 80 <=N/\ ∀ cv ∈ l,Ep N cv):=by
 have h:=au.qi (enc:=enc) (N:=N) Tryz.underlying25 Y8 (by decide) aAE
 rw [aoj] at h
 exact h
theorem aAS:au.g6 Tryz.prog enc N 26 (au.b4 (au.b4 J.iE)) (fun l=>l.length* 24 <=N/\ ∀ cv ∈ l,(cv.length* 40 <=N/\ ∀ et ∈ cv,Er N et)):=by
 have h:=au.qi (enc:=enc) (N:=N) Tryz.underlying26 Y6 (by decide) (afg)
 rw [aog] at h
 exact h
theorem aAM:au.g6 Tryz.prog enc N 120 (au.b4 au.iD) (fun l=>l.length* 16 <=N/\ ∀ cv ∈ l,cv.length<=N):=by
 have h:=au.qi (enc:=enc) (N:=N) Tryz.underlying120 vK (by decide) (au.xh Tryz.underlying9)
 rw [aoo] at h
 exact h
theorem aAT:au.g6 Tryz.prog enc N 27 (au.b4 (au.b4 au.iD)) (fun l=>l.length* 24 <=N/\ ∀ cv ∈ l,(cv.length* 16 <=N/\ ∀ et ∈ cv,et.length<=N)):=by
 have h:=au.qi (enc:=enc) (N:=N) Tryz.underlying27 aoT (by decide) (aAM)
 rw [aoe] at h
 exact h
def I1 (N:Nat) (d:J.Target):Prop:=au.iQ d.ap/\au.iQ d.Method
theorem aAK:au.g6 Tryz.prog enc N 166 J.jD (I1 N):=by
 intro W n cs x h aN hw
 obtain ⟨fE,aq,af⟩:=au.nh Tryz.underlying166 h aN hw
 replace aq:=aq.trans Y'
 obtain ⟨dz,cC,rfl⟩:=adf aq
 obtain ⟨Bp,aQ,gL,w0⟩:=au.fh af 0 rfl rfl rfl mh (r:=[dz]) rfl
 obtain ⟨d0,fS,hP⟩:=(au.mS Tryz.underlying3) W _ _ _ aQ gL w0
 have dg:[dz]=_:=fS
 obtain rfl:dz=_:=(List.cons.inj dg).1
 obtain ⟨cL,I,dF,er⟩:=au.fh af 1 rfl rfl rfl mh (r:=[cC]) rfl
 obtain ⟨d1,cD,bg⟩:=(au.mS Tryz.underlying3) W _ _ _ I dF er
 have ak:[cC]=_:=cD
 obtain rfl:cC=_:=(List.cons.inj ak).1
 exact ⟨⟨d0,d1⟩,rfl,⟨hP,bg⟩⟩
theorem aAN:au.g6 Tryz.prog enc N 121 (au.b4 J.jD) (fun l=>l.length* 16 <=N/\ ∀ cv ∈ l,I1 N cv):=by
 have h:=au.qi (enc:=enc) (N:=N) Tryz.underlying121 Y' (by decide) aAK
 rw [aom] at h
 exact h
theorem aAU:au.g6 Tryz.prog enc N 28 (au.b4 (au.b4 J.jD)) (fun l=>l.length* 24 <=N/\ ∀ cv ∈ l,(cv.length* 16 <=N/\ ∀ et ∈ cv,I1 N et)):=by
 have h:=au.qi (enc:=enc) (N:=N) Tryz.underlying28 aoU (by decide) (aAN)
 rw [aof] at h
 exact h
def IZ (N:Nat) (d:J.aU):Prop:=(d.ba.length* 80 <=N/\ ∀ cv ∈ d.ba,Ep N cv)/\(d.a8.length* 8 <=N/\ ∀ cv ∈ d.a8,au.iQ cv)/\(d.Fields.length* 24 <=N/\ ∀ cv ∈ d.Fields,(cv.length* 40 <=N/\ ∀ et ∈ cv,Er N et))/\(d.Names.length* 24 <=N/\ ∀ cv ∈ d.Names,(cv.length* 16 <=N/\ ∀ et ∈ cv,et.length<=N))/\(d.a9.length* 24 <=N/\ ∀ cv ∈ d.a9,(cv.length* 16 <=N/\ ∀ et ∈ cv,I1 N et))
theorem aAI:au.g6 Tryz.prog enc N 30 J.aB8 (IZ N):=by
 intro W n cs x h aN hw
 obtain ⟨fE,aq,af⟩:=au.nh Tryz.underlying30 h aN hw
 replace aq:=aq.trans ao3
 obtain ⟨dz,cC,cQ,dX,fb,rfl⟩:=awy aq
 obtain ⟨Bp,aQ,gL,w0⟩:=au.fh af 0 rfl rfl rfl aoZ (r:=[dz]) rfl
 obtain ⟨d0,fS,hP⟩:=(aAR) W _ _ _ aQ gL w0
 obtain ⟨o9,eS,dg⟩:=au.lV fS
 obtain rfl:dz=_:=(List.cons.inj dg).1
 obtain ⟨cL,I,dF,er⟩:=au.fh af 1 rfl rfl rfl Pf (r:=[cC]) rfl
 obtain ⟨d1,cD,bg⟩:=(L7) W _ _ _ I dF er
 obtain ⟨ea,c1,ak⟩:=au.lV cD
 obtain rfl:cC=_:=(List.cons.inj ak).1
 obtain ⟨l9,aa,fF,db⟩:=au.fh af 2 rfl rfl rfl ao0 (r:=[cQ]) rfl
 obtain ⟨d2,dM,bf⟩:=(aAS) W _ _ _ aa fF db
 obtain ⟨c7,c2,al⟩:=au.lV dM
 obtain rfl:cQ=_:=(List.cons.inj al).1
 obtain ⟨qJ,aw,hk,ky⟩:=au.fh af 3 rfl rfl rfl ao1 (r:=[dX]) rfl
 obtain ⟨d3,gM,cc⟩:=(aAT) W _ _ _ aw hk ky
 obtain ⟨qK,c3,aV⟩:=au.lV gM
 obtain rfl:dX=_:=(List.cons.inj aV).1
 obtain ⟨Ea,bi,jV,xD⟩:=au.fh af 4 rfl rfl rfl ao2 (r:=[fb]) rfl
 obtain ⟨d4,mP,da⟩:=(aAU) W _ _ _ bi jV xD
 obtain ⟨u6,c4,bS⟩:=au.lV mP
 obtain rfl:fb=_:=(List.cons.inj bS).1
 exact ⟨⟨d0,d1,d2,d3,d4⟩,⟨o9,eS,ea,c1,c7,c2,qK,c3,u6,c4,rfl,fS,cD,dM,gM,mP⟩,⟨hP,bg,bf,cc,da⟩⟩
end
end Go.Proofs.YteeliipnilghaaaGreat
namespace bn
open Go Go.RowKit au J
inductive aF (El:Nat->Type):Type
 | p (v:Value)
 | b (i o:Nat)
 | x (t:Nat) (d:El t) (o:Nat)
 | s (t:Nat) (l:List (El t))
 | q (t:Nat) (l:List (El t))
 | r (i g:Nat)
 | v (i g:Nat) (lo hi:Int)
 | e (i g k t:Nat) (j:Int) (d:El t) (o:Nat)
 | w (i g o:Nat)
 | m (i:Nat)
 | n (kt vt:Nat) (d:List (El kt × El vt))
 | f (fn:Fn) (cs:List (aF El))
 | h (fn:Fn) (us:List (aF El))
 | a (l:List (aF El))
 | u (l:List (aF El))
 | i (t:Nat) (y:aF El)
 | pp (i g sz:Nat) (eh:List Int)
 | xg (i g sz:Nat) (q:Int)
inductive aC (El:Nat->Type):Type
 | c (ty:Nat) (cs:List (aF El))
 | r (t g k:Nat) (l:List (El t))
 | k (t sz g:Nat) (cs:List (aF El))
 | z (t g k:Nat) (l:List (El t))
 | m (kt vt:Nat) (d:List (El kt × El vt))
 | o (TC:Obj)
 | no (g:Nat)
structure hW (cI:Type) where
 dec:DecidableEq cI
 pU: @kJ cI dec
structure b6 (El:Nat->Type) (t:Nat) where
 ty:cY (El t)
 agg:Bool
 cs:El t->List (aF El)
 gT:List (aF El)->Option (El t)
 eq:Option (El t->El t->Bool)
 key:Option (hW (El t))
structure bT where
 El:Nat->Type
 es:List (Σ t,b6 El t)
def aB6 {α:Type}:cY α where
 size:=0
 rd _ _ _ _:=False
 len h:=h.elim
 one h:=h.elim
 law _ h:=h
def b6.no {El:Nat->Type} {t:Nat}:b6 El t:=⟨aB6,true,fun _=>[],fun _=>none,none,none⟩
def fC {El:Nat->Type}:List (Σ t,b6 El t)->(t:Nat)->b6 El t
 | [],_=>b6.no
 | e::r,t=>match Nat.decEq e.1 t with
   | isTrue h=>h ▸ e.2
   | isFalse _=>fC r t
def bT.e (T:bT) (t:Nat):b6 T.El t:=fC T.es t
def bT.ty (T:bT) (t:Nat):cY (T.El t):=(T.e t).ty
def b5 {El:Nat->Type}:Option (aC El)->Nat
 | some (.r _ g _ _)=>g
 | some (.k _ _ g _)=>g
 | some (.z _ g _ _)=>g
 | some (.no g)=>g
 | _=>0
def gB {El:Nat->Type}:Option (aC El)->Nat
 | some (.r _ _ k _)=>k
 | some (.z _ _ k _)=>k
 | _=>0
def iy {El:Nat->Type}:Option (aC El)->Option (Σ t,List (El t))
 | some (.r t _ _ l)=>some ⟨t,l⟩
 | some (.z t _ _ l)=>some ⟨t,l⟩
 | _=>none
def iz (T:bT):Option (aC T.El)->Nat
 | some (.r t _ _ _)=>(T.ty t).size
 | some (.k _ sz _ _)=>sz
 | some (.z t _ _ _)=>(T.ty t).size
 | _=>0
def kZ:Value->Prop
 | .slice _ _ _=>True
 | _=>False
def tG:Value->Prop
 | .pointer (some _)=>True
 | _=>False
def w_ (agg:Bool) (xs:List Value):Value:=match agg with
 | true=>.agg ⟨xs⟩
 | false=>xs.headD undef
section
variable (T:bT) (F:Nat->Prop) (w:World)
def zf (t:Nat) (d:T.El t) (v:Value):Prop:=∃ xs,(T.ty t).rd F w xs d/\v=w_ (T.e t).agg xs
def iO {kt vt:Nat} (K:hW (T.El kt)):List MapEntry->List (T.El kt × T.El vt)->Prop
 | [],[]=>True
 | e::es,p::d=>e.key= @kJ.enc _ K.dec K.pU p.1 /\zf T F w vt p.2 e.val/\iO K es d
 | _,_=>False
def vf (kt vt r:Nat) (d:List (T.El kt × T.El vt)):Prop:=∃ K,(T.e kt).key=some K/\ ∃ es clock,w.heap[r]? =some (.map es clock)/\iO T F w K es.toList d/\(es.toList.map (·.born)).Pairwise (· < ·)/\ ∀ e ∈ es.toList,e.born <clock
end
section
variable {T:bT} {F F':Nat->Prop} {w w':World}
theorem iO.law (aD:∀ k,F k->F' k/\w'.heap[k]? =w.heap[k]?) {kt vt:Nat} {K:hW (T.El kt)}:∀ {es:List MapEntry} {d:List (T.El kt × T.El vt)},iO T F w K es d->iO T F' w' K es d
 | [],[],_=>trivial
 | [],_::_,h=>h.elim
 | _::_,[],h=>h.elim
 | e::es,p::d,h=>by
   obtain ⟨I,⟨xs,aa,aw⟩,bi⟩:=h
   exact ⟨I,⟨xs,(T.ty vt).law aD aa,aw⟩,iO.law aD bi⟩
theorem vf.law (aD:∀ k,F k->F' k/\w'.heap[k]? =w.heap[k]?) {kt vt r:Nat} {d:List (T.El kt × T.El vt)} (ao:w'.heap[r]? =w.heap[r]?) (h:vf T F w kt vt r d):vf T F' w' kt vt r d:=by
 obtain ⟨K,I,es,fB,aa,aw,bi⟩:=h
 exact ⟨K,I,es,fB,ao.trans aa,aw.law aD,bi⟩
end
def sy {El:Nat->Type} (ρ:List Value) (bl:List (aC El)) (i g sz:Nat) (q:Int) (v:Value):Prop:=tG v/\ ∃ h,ρ[i]? =some h/\g<=b5 bl[i]? /\(g=b5 bl[i]? -> ∃ A n c,h= .slice A n c/\ 0 <=q/\q <n/\v= .pointer (some ⟨dk A,q.toNat*sz,none⟩))
def qR {El:Nat->Type} (ρ:List Value) (bl:List (aC El)) (i g sz:Nat):List Int->List Value->Prop
 | [],vs=>vs= []
 | q::r,vs=>∃ u us,vs=u::us/\sy ρ bl i g sz q u/\qR ρ bl i g sz r us
section
variable (T:bT) (F:Nat->Prop) (w:World) (ρ:List Value) (bl:List (aC T.El))
mutual
def ar:aF T.El->Value->Prop
 | .p u,v=>v=u
 | .b i o,v=>∃ g,ρ[i]? =some (.pointer (some ⟨g,0,none⟩))/\v= .pointer (some ⟨g,o,none⟩)
 | .x t d o,v=>∃ a q cs,v= .pointer (some ⟨a,q+o,none⟩)/\F a/\(T.ty t).rd F w cs d/\e5 w ⟨a,q,none⟩ cs
 | .s t l,v=>(b4 (T.ty t)).rd F w [v] l
 | .q t l,v=>(b4 (T.ty t)).rd F w [v] l/\ ∃ A,v= .slice A l.length l.length
 | .r i g,v=>kZ v/\ ∃ h,ρ[i]? =some h/\g<=b5 bl[i]? /\(g=b5 bl[i]? ->v=h)
 | .v i g lo hi,v=>kZ v/\ ∃ h,ρ[i]? =some h/\g<=b5 bl[i]? /\(g=b5 bl[i]? -> ∃ A n c B,h= .slice A n c/\ 0 <=lo/\lo<=hi/\hi<=n/\v= .slice B (hi.toNat - lo.toNat) (c - lo.toNat)/\(lo= 0 ->B=A)/\(lo <hi->B=A.map (·.add (lo.toNat*iz T bl[i]?))))
 | .e i g k t j d o,v=>tG v/\ ∃ h,ρ[i]? =some h/\g<=b5 bl[i]? /\(g=b5 bl[i]? ->(∃ A n c,h= .slice A n c/\ 0 <=j/\j <n/\v= .pointer (some ⟨dk A,j.toNat*iz T bl[i]? +o,none⟩))/\k<=gB bl[i]? /\(k=gB bl[i]? -> ∃ l,iy bl[i]? =some ⟨t,l⟩/\idx l j=some d))
 | .w i g o,v=>tG v/\ ∃ h,ρ[i]? =some h/\g<=b5 bl[i]? /\(g=b5 bl[i]? -> ∃ A n c,h= .slice A n c/\ 0 <n/\v= .pointer (some ⟨dk A,o,none⟩))
 | .m i,v=>∃ r,ρ[i]? =some (.map (some r))/\v= .map (some r)
 | .n kt vt d,v=>∃ r,v= .map (some r)/\F r/\vf T F w kt vt r d
 | .f fn cs,v=>∃ vs,v= .func fn #[] ⟨vs⟩/\a4 cs vs
 | .h fn us,v=>∃ vs,v= .func fn ⟨vs⟩ #[]/\a4 us vs
 | .a l,v=>∃ vs,v= .agg ⟨vs⟩/\a4 l vs
 | .u l,v=>∃ vs,v= .tuple ⟨vs⟩/\a4 l vs
 | .i t y,v=>∃ u,v= .iface t u/\ar y u
 | .pp i g sz eh,v=>∃ A c,v= .slice A eh.length c/\eh.length<=c/\(A=none->c= 0)/\(eh≠ []->A=some ⟨dk A,gg A,none⟩/\F (dk A)/\ ∃ xs,qR ρ bl i g sz eh xs/\e5 w ⟨dk A,gg A,none⟩ xs)
 | .xg i g sz q,v=>∃ a o u,v= .pointer (some ⟨a,o,none⟩)/\F a/\sy ρ bl i g sz q u/\e5 w ⟨a,o,none⟩ [u]
def a4:List (aF T.El)->List Value->Prop
 | [],vs=>vs= []
 | y::r,vs=>∃ u us,vs=u::us/\ar y u/\a4 r us
end
end
structure ll (T:bT) (ρ ρ':List Value) (bl bl':List (aC T.El)):Prop where
 at_:∀ (i:Nat) (h:Value),ρ[i]? =some h-> ∃ h',ρ'[i]? =some h'/\(¬ kZ h->h'=h)/\b5 bl[i]? <=b5 bl'[i]? /\(b5 bl'[i]? =b5 bl[i]? ->h'=h/\iz T bl'[i]? =iz T bl[i]? /\gB bl[i]? <=gB bl'[i]? /\(gB bl'[i]? =gB bl[i]? ->iy bl'[i]? =iy bl[i]?))
theorem ll.refl {T:bT} {ρ:List Value} {bl:List (aC T.El)}:ll T ρ ρ bl bl:=⟨fun i h hi=>⟨h,hi,fun _=>rfl,Nat.le_refl _,fun _=>⟨rfl,rfl,Nat.le_refl _,fun _=>rfl⟩⟩⟩
theorem ll.trans {T:bT} {ρ ρ' Ef:List Value} {bl bl' sN:List (aC T.El)} (h:ll T ρ ρ' bl bl') (k:ll T ρ' Ef bl' sN):ll T ρ Ef bl sN:=⟨fun i v hi=>by
 obtain ⟨e4,I,aa,aw,bi⟩:=h.at_ i v hi
 obtain ⟨aCa,bg,bf,cc,da⟩:=k.at_ i e4 I
 refine ⟨aCa,bg,fun ao=>?_,Nat.le_trans aw cc,fun e=>?_⟩
 · have ak:=aa ao
   rw [bf (by rw [ak];exact ao),ak]
 · have ak:b5 bl'[i]? =b5 bl[i]? :=by omega
   have al:b5 sN[i]? =b5 bl'[i]? :=by omega
   refine ⟨(da al).1.trans (bi ak).1,(da al).2.1.trans (bi ak).2.1,Nat.le_trans (bi ak).2.2.1 (da al).2.2.1,fun aV=>?_⟩
   have cC:=(bi ak).2.2.1
   have cQ:=(da al).2.2.1
   exact ((da al).2.2.2 (by omega)).trans ((bi ak).2.2.2 (by omega))⟩
section
variable {T:bT} {F F':Nat->Prop} {w w':World} {ρ ρ':List Value} {bl bl':List (aC T.El)}
theorem sy.later {i g sz:Nat} {q:Int} {v:Value} (aq:ll T ρ ρ' bl bl') (h:sy ρ bl i g sz q v):sy ρ' bl' i g sz q v:=by
 obtain ⟨aQ,u,I,aa,aw⟩:=h
 obtain ⟨nV,bg,_,cc,da⟩:=aq.at_ i _ I
 refine ⟨aQ,nV,bg,Nat.le_trans aa cc,fun e=>?_⟩
 have ak:b5 bl'[i]? =b5 bl[i]? :=by omega
 rw [(da ak).1];exact aw (by omega)
theorem qR.imp {El anN:Nat->Type} {bl:List (aC El)} {bl':List (aC anN)} {i g dm g' sz:Nat} (hi:∀ q v,sy ρ bl i g sz q v->sy ρ' bl' dm g' sz q v):∀ {eh:List Int} {xs:List Value},qR ρ bl i g sz eh xs->qR ρ' bl' dm g' sz eh xs
 | [],_,h=>h
 | q::r,xs,h=>by
   obtain ⟨u,us,rfl,I,aa⟩:=h
   exact ⟨u,us,rfl,hi _ _ I,qR.imp hi aa⟩
theorem qR.at_ {i g sz:Nat}:∀ {eh:List Int} {xs:List Value} {m:Nat} {q:Int},qR ρ bl i g sz eh xs->eh[m]? =some q-> ∃ u,xs[m]? =some u/\sy ρ bl i g sz q u
 | [],_,m,q,_,hm=>by simp at hm
 | p::r,xs,0,q,h,hm=>by
   obtain ⟨u,us,rfl,I,aa⟩:=h
   simp only [List.getElem?_cons_zero,Option.some.injEq] at hm
   subst hm
   exact ⟨u,rfl,I⟩
 | p::r,xs,m+ 1,q,h,hm=>by
   obtain ⟨u,us,rfl,I,aa⟩:=h
   simpa using qR.at_ aa (by simpa using hm)
mutual
theorem ar.later (aD:∀ k,F k->F' k/\w'.heap[k]? =w.heap[k]?) (aq:ll T ρ ρ' bl bl'):∀ (y:aF T.El) {v:Value},ar T F w ρ bl y v->ar T F' w' ρ' bl' y v
 | .p _,_,h=>by simpa only [ar] using h
 | .b i o,v,h=>by
   simp only [ar] at h ⊢
   obtain ⟨g,I,aa⟩:=h
   obtain ⟨h',bg,bf,_⟩:=aq.at_ i _ I
   exact ⟨g,by rw [bg,bf (by simp [kZ])],aa⟩
 | .x t d o,v,h=>by
   simp only [ar] at h ⊢
   obtain ⟨a,q,cs,I,aa,aw,bi⟩:=h
   exact ⟨a,q,cs,I,(aD a aa).1,(T.ty t).law aD aw,bi.law (aD a aa).2⟩
 | .s t l,v,h=>by
   simp only [ar] at h ⊢
   exact (b4 (T.ty t)).law aD h
 | .q t l,v,h=>by
   simp only [ar] at h ⊢
   exact ⟨(b4 (T.ty t)).law aD h.1,h.2⟩
 | .r i g,v,h=>by
   simp only [ar] at h ⊢
   obtain ⟨aQ,u,I,aa,aw⟩:=h
   obtain ⟨nV,bg,_,cc,da⟩:=aq.at_ i _ I
   refine ⟨aQ,nV,bg,Nat.le_trans aa cc,fun e=>?_⟩
   have ak:b5 bl'[i]? =b5 bl[i]? :=by omega
   rw [(da ak).1];exact aw (by omega)
 | .v i g lo hi,v,h=>by
   simp only [ar] at h ⊢
   obtain ⟨aQ,u,I,aa,aw⟩:=h
   obtain ⟨nV,bg,_,cc,da⟩:=aq.at_ i _ I
   refine ⟨aQ,nV,bg,Nat.le_trans aa cc,fun e=>?_⟩
   have ak:b5 bl'[i]? =b5 bl[i]? :=by omega
   rw [(da ak).1,(da ak).2.1];exact aw (by omega)
 | .e i g k t j d o,v,h=>by
   simp only [ar] at h ⊢
   obtain ⟨aQ,u,I,aa,aw⟩:=h
   obtain ⟨nV,bg,_,cc,da⟩:=aq.at_ i _ I
   refine ⟨aQ,nV,bg,Nat.le_trans aa cc,fun e=>?_⟩
   have ak:b5 bl'[i]? =b5 bl[i]? :=by omega
   obtain ⟨bk,bF,b1,gy⟩:=da ak
   obtain ⟨cD,dM,gM⟩:=aw (by omega)
   rw [bk,bF]
   refine ⟨cD,Nat.le_trans dM b1,fun e=>?_⟩
   rw [gy (by omega)];exact gM (by omega)
 | .w i g o,v,h=>by
   simp only [ar] at h ⊢
   obtain ⟨aQ,u,I,aa,aw⟩:=h
   obtain ⟨nV,bg,_,cc,da⟩:=aq.at_ i _ I
   refine ⟨aQ,nV,bg,Nat.le_trans aa cc,fun e=>?_⟩
   have ak:b5 bl'[i]? =b5 bl[i]? :=by omega
   rw [(da ak).1];exact aw (by omega)
 | .m i,v,h=>by
   simp only [ar] at h ⊢
   obtain ⟨g,I,aa⟩:=h
   obtain ⟨h',bg,bf,_⟩:=aq.at_ i _ I
   exact ⟨g,by rw [bg,bf (by simp [kZ])],aa⟩
 | .n kt vt d,v,h=>by
   simp only [ar] at h ⊢
   obtain ⟨r,I,aa,aw⟩:=h
   exact ⟨r,I,(aD r aa).1,aw.law aD (aD r aa).2⟩
 | .f fn cs,v,h=>by
   simp only [ar] at h ⊢
   obtain ⟨vs,I,aa⟩:=h
   exact ⟨vs,I,a4.later aD aq cs aa⟩
 | .h fn us,v,h=>by
   simp only [ar] at h ⊢
   obtain ⟨vs,I,aa⟩:=h
   exact ⟨vs,I,a4.later aD aq us aa⟩
 | .a l,v,h=>by
   simp only [ar] at h ⊢
   obtain ⟨vs,I,aa⟩:=h
   exact ⟨vs,I,a4.later aD aq l aa⟩
 | .u l,v,h=>by
   simp only [ar] at h ⊢
   obtain ⟨vs,I,aa⟩:=h
   exact ⟨vs,I,a4.later aD aq l aa⟩
 | .i t y,v,h=>by
   simp only [ar] at h ⊢
   obtain ⟨u,I,aa⟩:=h
   exact ⟨u,I,ar.later aD aq y aa⟩
 | .pp i g sz eh,v,h=>by
   simp only [ar] at h ⊢
   obtain ⟨A,c,ak,al,aV,bS⟩:=h
   refine ⟨A,c,ak,al,aV,fun aJ=>?_⟩
   obtain ⟨bg,bf,xs,cc,da⟩:=bS aJ
   exact ⟨bg,(aD _ bf).1,xs,cc.imp fun q v=>sy.later aq,da.law (aD _ bf).2⟩
 | .xg i g sz q,v,h=>by
   simp only [ar] at h ⊢
   obtain ⟨a,o,u,ak,al,aV,bS⟩:=h
   exact ⟨a,o,u,ak,(aD _ al).1,aV.later aq,bS.law (aD _ al).2⟩
theorem a4.later (aD:∀ k,F k->F' k/\w'.heap[k]? =w.heap[k]?) (aq:ll T ρ ρ' bl bl'):∀ (l:List (aF T.El)) {vs:List Value},a4 T F w ρ bl l vs->a4 T F' w' ρ' bl' l vs
 | [],_,h=>by simpa only [a4] using h
 | y::r,vs,h=>by
   simp only [a4] at h ⊢
   obtain ⟨u,us,I,aa,aw⟩:=h
   exact ⟨u,us,I,ar.later aD aq y aa,a4.later aD aq r aw⟩
end
theorem a4.len:∀ {l:List (aF T.El)} {vs:List Value},a4 T F w ρ bl l vs->vs.length=l.length
 | [],_,h=>by simp only [a4] at h;subst h;rfl
 | y::r,vs,h=>by
   simp only [a4] at h
   obtain ⟨u,us,rfl,_,aw⟩:=h
   simp [a4.len aw]
theorem a4.at_:∀ {l:List (aF T.El)} {vs:List Value} {i:Nat} {y:aF T.El},a4 T F w ρ bl l vs->l[i]? =some y-> ∃ v,vs[i]? =some v/\ar T F w ρ bl y v
 | [],_,i,y,_,hi=>by simp at hi
 | z::r,vs,0,y,h,hi=>by
   simp only [a4] at h
   obtain ⟨u,us,rfl,aa,_⟩:=h
   simp only [List.getElem?_cons_zero,Option.some.injEq] at hi
   subst hi
   exact ⟨u,rfl,aa⟩
 | z::r,vs,i+ 1,y,h,hi=>by
   simp only [a4] at h
   obtain ⟨u,us,rfl,_,aw⟩:=h
   simpa using a4.at_ aw (by simpa using hi)
theorem a4.bK:∀ {l l':List (aF T.El)} {vs DB:List Value},a4 T F w ρ bl l vs->a4 T F w ρ bl l' DB->a4 T F w ρ bl (l++l') (vs++DB)
 | [],_,_,_,h,h'=>by simp only [a4] at h;subst h;exact h'
 | y::r,l',vs,DB,h,h'=>by
   simp only [a4] at h
   obtain ⟨u,us,rfl,aa,aw⟩:=h
   simp only [List.cons_append,a4]
   exact ⟨u,us++DB,rfl,aa,a4.bK aw h'⟩
theorem a4.drop:∀ {l:List (aF T.El)} {vs:List Value} (n:Nat),a4 T F w ρ bl l vs->a4 T F w ρ bl (l.drop n) (vs.drop n)
 | l,vs,0,h=>by simpa using h
 | [],vs,n+ 1,h=>by simp only [a4] at h;subst h;simp [a4]
 | y::r,vs,n+ 1,h=>by
   simp only [a4] at h
   obtain ⟨u,us,rfl,aa,aw⟩:=h
   simpa using a4.drop n aw
theorem a4.take:∀ {l:List (aF T.El)} {vs:List Value} (n:Nat),a4 T F w ρ bl l vs->a4 T F w ρ bl (l.take n) (vs.take n)
 | l,vs,0,h=>by simp [a4]
 | [],vs,n+ 1,h=>by simp only [a4] at h;subst h;simp [a4]
 | y::r,vs,n+ 1,h=>by
   simp only [a4] at h
   obtain ⟨u,us,rfl,aa,aw⟩:=h
   simp only [List.take_succ_cons,a4]
   exact ⟨u,us.take n,rfl,aa,a4.take n aw⟩
end
end bn
