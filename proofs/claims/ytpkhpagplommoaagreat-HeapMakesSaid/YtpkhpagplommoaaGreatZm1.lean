/- Part 1 of the proof that is ended in the last text: small logic, what the functions compute, walks, plain laws. -/
import Derived.WalkKit
import Derived.Deep.LoopGhost
import Derived.Deep.Quiet
import Derived.Maps.AppendAt
import Derived.KernelRfl
import Derived.Deep.RegionHeld3
import Derived.Laws.StructEq
import Derived.Carry
import Derived.ChangeSame
import Derived.OpenShut
import Derived.Deep.Slices
import Derived.Deep.Fields
import Derived.ChangeMaps5
import Derived.Lib.LaidTab
import Derived.OrdersHeld
import Derived.MapKept
import Derived.Laws.OwnMore
import Derived.Laws.IdiomStrings
import Derived.RangeFuncRecord
import Derived.RangeFuncSeq
import Derived.RangeFuncIn
import Derived.RangeFuncLeaves
import Derived.OrdersIn
import Derived.TacticsIn
import Derived.Deep.OwnRows
import Derived.Lib.AppendZeros
import Derived.Shelf.Spec.SlicesInsert
import Derived.Shelf.Spec.SlicesInsertGrow
import Derived.Test.YtpkhpagplommoaaGreatProg
namespace J
def ap (n:Int):Int:=(n+ 9223372036854775808) % 18446744073709551616 - 9223372036854775808
def nT (n:Int):Int:=n % 18446744073709551616
def WS (a b:Int):Int:=ap ((BitVec.ofInt 64 a ||| BitVec.ofInt 64 b).toNat:Int)
def P5 (a b:Int):Int:=ap ((BitVec.ofInt 64 a &&& BitVec.ofInt 64 b).toNat:Int)
def nO (a:Int) (n:Nat):Int:=a / 2 ^ n
def E5 (n:Int):UInt8:=UInt8.ofNat (n % 256).toNat
def idx {α:Type} (l:List α) (i:Int):Option α:=if 0 <=i then l[i.toNat]? else none
def ej {α:Type} (bytes:Nat) (l m:List α):Option (List α):=if (l.length+m.length)*bytes<= 140737488355328 then some (l++m) else none
def bytesOf (s:List UInt8):Option (List UInt8):=if s.length<= 140737488355328 then some s else none
def MA {α:Type} (z:α) (bytes:Nat) (n:Int):Option (List α):=if 0 <=n/\bytes*n.toNat<= 140737488355328 then some (List.replicate n.toNat z) else none
def E1 {α:Type} (z:α) (bytes:Nat) (n:Int):Option (List α):=if 0 <n/\bytes*n.toNat<= 140737488355328 then some (List.replicate n.toNat z) else none
def L1 (l:List Int) (n x:Int):Option (List Int):=if 0 <=n/\n<=l.length/\(l.length+ 1)* 8 <= 140737488355328 then some (l.take n.toNat++x::l.drop n.toNat) else none
def cut {α:Type} (l:List α) (i j:Int):Option (List α):=if 0 <=i/\i<=j/\j<=l.length then some ((l.take j.toNat).drop i.toNat) else none
theorem di {α:Type} {b:Bool} {x y:Option α} {r:α} (a1:b=true) (h:cond b x y=some r):x=some r:=by subst a1;exact h
theorem dh {α:Type} {b:Bool} {x y:Option α} {r:α} (a1:b=false) (h:cond b x y=some r):y=some r:=by subst a1;exact h
theorem aF {α β:Type} {o:Option α} {f:α->Option β} {r:β} (h:o.bind f=some r):∃ x,o=some x/\f x=some r:=by
 cases o with
 | none=>cases h
 | some x=>exact ⟨x,rfl,h⟩
theorem ux {α:Type} {l:List α} {i:Int} {d:α} (h:idx l i=some d):0 <=i/\i.toNat <l.length/\l[i.toNat]? =some d:=by
 unfold idx at h
 split at h
 · rename_i bE
   exact ⟨bE,(List.getElem?_eq_some_iff.1 h).1,h⟩
 · cases h
theorem ZZ {α:Type} {bytes:Nat} {l m r:List α} (h:ej bytes l m=some r):(l.length+m.length)*bytes<= 140737488355328 /\r=l++m:=by
 unfold ej at h
 split at h
 · rename_i bE;exact ⟨bE,by simpa using h.symm⟩
 · cases h
theorem aFo {α:Type} {z:α} {bytes:Nat} {n:Int} {r:List α} (h:MA z bytes n=some r):0 <=n/\bytes*n.toNat<= 140737488355328 /\r=List.replicate n.toNat z:=by
 unfold MA at h
 split at h
 · rename_i bE;exact ⟨bE.1,bE.2,by simpa using h.symm⟩
 · cases h
theorem ahK {α:Type} {z:α} {bytes:Nat} {n:Int} {r:List α} (h:E1 z bytes n=some r):0 <n/\bytes*n.toNat<= 140737488355328 /\r=List.replicate n.toNat z:=by
 unfold E1 at h
 split at h
 · rename_i bE;exact ⟨bE.1,bE.2,by simpa using h.symm⟩
 · cases h
theorem aEI {l r:List Int} {n x:Int} (h:L1 l n x=some r):0 <=n/\n<=l.length/\(l.length+ 1)* 8 <= 140737488355328 /\r=l.take n.toNat++x::l.drop n.toNat:=by
 unfold L1 at h
 split at h
 · rename_i bE;exact ⟨bE.1,bE.2.1,bE.2.2,by simpa using h.symm⟩
 · cases h
theorem ahM (n:Int):((E5 n).toNat:Int)=n % 256 :=by
 unfold E5
 have bE:0 <=n % 256 :=Int.emod_nonneg _ (by omega)
 have aC:n % 256 < 256 :=Int.emod_lt_of_pos _ (by omega)
 simp only [UInt8.toNat_ofNat']
 omega
end J
namespace J
end J
namespace J
section
variable {κ β:Type} [DecidableEq κ]
def dv:List (κ × β)->κ->Option β
 | [],_=>none
 | p::r,k=>if p.1 =k then some p.2 else dv r k
def hI:List (κ × β)->κ->β->List (κ × β)
 | [],k,v=>[(k,v)]
 | p::r,k,v=>if p.1 =k then (k,v)::r else p::hI r k v
def kE:List (κ × β)->κ->Option Nat
 | [],_=>none
 | p::r,k=>if p.1 =k then some 0 else (kE r k).map (· + 1)
end
end J
namespace J
inductive Way (ρ α:Type)
 | go (a:α)
 | out (r:ρ)
def dw {ρ α:Type} (x:Option (Way ρ α)) (k:α->Option ρ):Option ρ:=match x with
 | none=>none
 | some (.go a)=>k a
 | some (.out r)=>some r
def ed {ρ α β:Type} (x:Option (Way ρ α)) (k:α->Option (Way ρ β)):Option (Way ρ β):=match x with
 | none=>none
 | some (.go a)=>k a
 | some (.out r)=>some (.out r)
def dZ {ρ α:Type} (k:α->Option ρ):Way ρ α->Option ρ
 | .go a=>k a
 | .out r=>some r
def eV {ρ α β:Type} (k:α->Option (Way ρ β)):Way ρ α->Option (Way ρ β)
 | .go a=>k a
 | .out r=>some (.out r)
theorem ef {ρ α:Type} {x:Option (Way ρ α)} {k:α->Option ρ} {r:ρ} (h:dw x k=some r):∃ y,x=some y/\dZ k y=some r:=by
 cases x with
 | none=>cases h
 | some y=>cases y <;> exact ⟨_,rfl,h⟩
theorem e3 {ρ α β:Type} {x:Option (Way ρ α)} {k:α->Option (Way ρ β)} {r:Way ρ β} (h:ed x k=some r):∃ y,x=some y/\eV k y=some r:=by
 cases x with
 | none=>cases h
 | some y=>cases y <;> exact ⟨_,rfl,h⟩
@[simp] theorem qh {ρ α:Type} (a:α) (k:α->Option ρ):dw (some (.go a)) k=k a:=rfl
@[simp] theorem afY {ρ α:Type} (r:ρ) (k:α->Option ρ):dw (some (.out r)) k=some r:=rfl
@[simp] theorem nN {ρ α β:Type} (a:α) (k:α->Option (Way ρ β)):ed (some (.go a)) k=k a:=rfl
@[simp] theorem aKl {ρ α β:Type} (r:ρ) (k:α->Option (Way ρ β)):ed (some (.out r)) k=some (.out r):=rfl
end J
namespace J
end J
namespace a2
open Go Go.RowKit
def ft:List (Nat × Value)->Nat->Option Value
 | [],_=>none
 | p::r,t=>match Nat.beq p.1 t with
   | true=>some p.2
   | false=>ft r t
structure hb where
 n:Nat
 ds:List Deferred
instance:Coe hb Nat:=⟨hb.n⟩
structure Fr (n:hb) (l:List (Nat × Value)) (a:Act):Prop where
 size:a.tmps.size=n.n
 defers:a.defers=n.ds
 get:∀ t v,ft l t=some v->a.tmps.getD t undef=v
theorem Fr.g {n:hb} {l:List (Nat × Value)} {a:Act} {t:Nat} {v:Value} (I:Fr n l a) (h:ft l t=some v):a.eval (.tmp t)=v:=I.get t v h
theorem Fr.put {n:hb} {d:Nat} {l:List (Nat × Value)} {a:Act} {v:Value} (I:Fr n l a) (bT:Nat.blt d n=true):Fr n ((d,v)::l) (a.put (some d) v):=by
 have eh:d <n:=Nat.le_of_ble_eq_true bT
 refine ⟨by simpa [Act.put] using I.size,I.defers,fun t u h=>?_⟩
 have a5:=I.size
 simp only [ft] at h
 cases a1:Nat.beq d t with
 | true=>
   rw [a1] at h
   simp only [Option.some.injEq] at h
   have e:d=t:=Nat.eq_of_beq_eq_true a1
   subst e;subst h
   simp [Act.put,a5,eh]
 | false=>
   rw [a1] at h
   have e:d≠t:=by intro e;subst e;simp at a1
   have:=I.get t u h
   simp only [Act.put,Array.getD_eq_getD_getElem?] at this ⊢
   rw [Array.getElem?_setIfInBounds,if_neg e]
   exact this
def II (l:List (Nat × Value)):List (Nat × Value)->Prop
 | []=>True
 | p::r=>ft l p.1 =some p.2 /\II l r
theorem aE_ {l l':List (Nat × Value)} (h:II l l'):∀ t v,ft l' t=some v->ft l t=some v:=by
 induction l' with
 | nil=>intro t v bA;simp [ft] at bA
 | cons p r cv=>
   intro t v bA
   simp only [ft] at bA
   cases a1:Nat.beq p.1 t with
   | true=>
     rw [a1] at bA
     have e:p.1 =t:=Nat.eq_of_beq_eq_true a1
     simp only [Option.some.injEq] at bA
     rw [<-e,<-bA];exact h.1
   | false=>rw [a1] at bA;exact cv h.2 t v bA
theorem Fr.sub {n:hb} {l l':List (Nat × Value)} {a:Act} (I:Fr n l a) (h:II l l'):Fr n l' a:=
 ⟨I.size,I.defers,fun t v bA=>I.get t v (aE_ h t v bA)⟩
def xx:Nat->List Value->List (Nat × Value)
 | _,[]=>[]
 | k,v::r=>(k,v)::xx (k+ 1) r
theorem aE9 (vs:List Value):∀ k t v,ft (xx k vs) t=some v->k<=t/\vs[t - k]? =some v:=by
 induction vs with
 | nil=>intro k t v h;simp [xx,ft] at h
 | cons u r cv=>
   intro k t v h
   simp only [xx,ft] at h
   cases a1:Nat.beq k t with
   | true=>
     rw [a1] at h
     have e:k=t:=Nat.eq_of_beq_eq_true a1
     subst e
     simpa using h
   | false=>
     rw [a1] at h
     have e:k≠t:=by intro e;subst e;simp at a1
     obtain ⟨aC,aU⟩:=cv (k+ 1) t v h
     refine ⟨by omega,?_⟩
     have:t - k=(t - (k+ 1))+ 1 :=by omega
     rw [this];simpa using aU
theorem Fr.init (vs:List Value) (n:Nat) (h:Nat.ble vs.length n=true):Fr ⟨n,[]⟩ (xx 0 vs) { tmps:=vs.toArray++Array.replicate (n - vs.toArray.size) undef,defers:=[] }:=by
 have hle:vs.length<=n:=by simpa using h
 refine ⟨by simp;omega,rfl,fun t v bA=>?_⟩
 obtain ⟨_,aU⟩:=aE9 vs 0 t v bA
 have eh:t <vs.length:=by
  rcases Nat.lt_or_ge t vs.length with h | h
  · exact h
  · rw [List.getElem?_eq_none (by simpa using h)] at aU;cases aU
 have bS:vs[t]? =some v:=by simpa using aU
 rw [Array.getD_eq_getD_getElem?]
 rw [List.getElem?_eq_getElem eh,Option.some.injEq] at bS
 simp [Array.getElem?_append,eh,bS]
theorem enter {P:Program} {f:FuncId} {fn:Func} {c:Code} {vs:List Value} {w:World} {R:Ending->World->Prop} {n:Nat}
 (I:P.funcs[f]? =some fn) (a1:fn.body=some c) (af:fn.ntmps=n) (az:Nat.ble vs.length n=true)
 (h:∀ a,Fr ⟨n,[]⟩ (xx 0 vs) a->c.wp P (bodyPost P fn R) a w):Calls P f vs.toArray w R:=by
 refine calls_of_wp I a1 ?_
 rw [af]
 exact h _ (Fr.init vs n az)
structure a' (M:List Nat) (w aD:World):Prop where
 os:aD.os=w.os
 tape:aD.tape=w.tape
 output:aD.output=w.output
 size:w.heap.size<=aD.heap.size
 block:∀ k,k <w.heap.size->k ∉ M->aD.heap[k]? =w.heap[k]?
theorem a'.refl (M:List Nat) (w:World):a' M w w:=⟨rfl,rfl,rfl,Nat.le_refl _,fun _ _ _=>rfl⟩
theorem a'.trans {M iu:List Nat} {a b c:World} (h:a' M a b) (k:a' iu b c) (hm:∀ x ∈ iu,x ∈ M\/a.heap.size<=x):a' M a c:=
 ⟨k.os.trans h.os,k.tape.trans h.tape,k.output.trans h.output,Nat.le_trans h.size k.size,fun i hi af=>
   (k.block i (Nat.lt_of_lt_of_le hi h.size) (fun ai=>by rcases hm i ai with e | e;exact af e;omega)).trans (h.block i hi af)⟩
theorem a'.drew (M:List Nat) (w:World):a' M w w.drew:=⟨rfl,rfl,rfl,Nat.le_refl _,fun _ _ _=>rfl⟩
theorem a'.alloc (M:List Nat) (w:World) (o:Obj):a' M w (w.alloc o):=⟨rfl,rfl,rfl,by simp,fun k bh _=>Below.heap_alloc _ _ _ bh⟩
theorem a'.set (w:World) (a:Addr) (u:Value):a' [a.block] w (w.setCell a u):=
 ⟨rfl,rfl,rfl,by simp [World.setCell],fun k _ af=>Below.heap_setCell _ _ _ _ (by simpa using af)⟩
theorem a'.mono {M iu:List Nat} {a b:World} (h:a' M a b) (hm:∀ x ∈ M,x ∈ iu):a' iu a b:=⟨h.os,h.tape,h.output,h.size,fun k bh af=>h.block k bh (fun ai=>af (hm k ai))⟩
theorem a'.grown {w aD:World} {row:Option Nat} (h:w.grownBy aD row):a' row.toList w aD:=
 ⟨h.os,h.tape,h.output,h.size,fun k bh af=>h.block k bh (fun e=>af (by rw [<-e];simp))⟩
theorem a'.below {w aD:World} (h:a' [] w aD):Below w.heap.size w aD:=⟨h.os,h.tape,h.output,h.size,fun k bh=>h.block k bh (by simp)⟩
structure aq where
 fI:List Nat
 ok:World->Prop
 law:∀ w aD,(∀ k ∈ fI,aD.heap[k]? =w.heap[k]?)->ok w->ok aD
structure al where
 ok:List Nat->World->Prop
 law:∀ M iu w aD,a' M w aD->(∀ k ∈ iu,k ∈ M\/w.heap.size<=k)->ok M w->ok iu aD
def cP (E:List aq):List Nat:=E.flatMap aq.fI
structure au (W:World) (M0 X:List Nat) (w:World) (E:List aq) (D:List al):Prop where
 ev:a' M0 W w
 lS:∀ k ∈ X,k <W.heap.size/\k ∉ M0
 lt:∀ k ∈ cP E,k <w.heap.size/\(k ∈ M0\/W.heap.size<=k)
 ok:∀ x ∈ E,x.ok w
 dT:(cP E).Nodup
 rd:∀ y ∈ D,y.ok (X++cP E) w
section
variable {W w aD:World} {M0 X:List Nat} {E:List aq} {D:List al}
theorem au.dB (h:au W M0 X w E D) (ad:a' [] w aD):au W M0 X aD E D:=
 ⟨h.ev.trans ad (by simp),h.lS,fun k bh=>⟨Nat.lt_of_lt_of_le (h.lt k bh).1 ad.size,(h.lt k bh).2⟩,
  fun x ai=>x.law w aD (fun k bh=>ad.block k (h.lt k (List.mem_flatMap.2 ⟨x,ai,bh⟩)).1 (by simp)) (h.ok x ai),h.dT,
  fun y hy=>y.law (X++cP E) _ w aD (ad.mono (by simp)) (fun k bh=>.inl bh) (h.rd y hy)⟩
theorem au.drew (h:au W M0 X w E D):au W M0 X w.drew E D:=h.dB (a'.drew _ _)
theorem au.push (h:au W M0 X w E D) (x:aq) (ad:a' [] w aD) (ai:x.ok aD) (I:∀ k ∈ x.fI,w.heap.size<=k/\k <aD.heap.size) (af:x.fI.Nodup):au W M0 X aD (x::E) D:=by
 have aC:=h.dB ad
 refine ⟨aC.ev,h.lS,fun k bh=>?_,fun y hy=>?_,?_,fun y hy=>?_⟩
 · rcases List.mem_append.1 (by simpa [cP] using bh:k ∈ x.fI++cP E) with e | e
   · exact ⟨(I k e).2,.inr (Nat.le_trans h.ev.size (I k e).1)⟩
   · exact aC.lt k e
 · rcases List.mem_cons.1 hy with rfl | e
   · exact ai
   · exact aC.ok y e
 · have:cP (x::E)=x.fI++cP E:=by simp [cP]
   rw [this,List.nodup_append]
   refine ⟨af,h.dT,fun a bK b a1 e=>?_⟩
   subst e
   have:=(I a bK).1
   have:=(h.lt a a1).1
   omega
 · refine y.law (X++cP E) _ w aD (ad.mono (by simp)) (fun k bh=>?_) (h.rd y hy)
   have kc:k ∈ X++(x.fI++cP E):=by simpa [cP] using bh
   simp only [List.mem_append] at kc
   rcases kc with e | e | e
   · exact .inl (by simp [e])
   · exact .inr (I k e).1
   · exact .inl (by simp [e])
theorem au.drop (h:au W M0 X w E D) {lv:List aq} (a5:List.Sublist lv E):au W M0 X w lv D:=by
 have I:List.Sublist (cP lv) (cP E):=by
  unfold cP
  clear h
  induction a5 with
  | slnil=>simp
  | cons a _ cv=>simpa using cv.trans (List.sublist_append_right _ _)
  | cons_cons a _ cv=>simpa using List.Sublist.append_left cv a.fI
 exact ⟨h.ev,h.lS,fun k bh=>h.lt k (I.subset bh),fun x ai=>h.ok x (a5.subset ai),h.dT.sublist I,
  fun y hy=>y.law (X++cP E) _ w w (a'.refl _ _) (fun k bh=>.inl (by rcases List.mem_append.1 bh with e | e;exact List.mem_append.2 (.inl e);exact List.mem_append.2 (.inr (I.subset e)))) (h.rd y hy)⟩
theorem au.aHd (h:au W M0 X w E D) {A B:List aq} {x ql:aq} (gq:E=A++x::B) (ad:a' x.fI w aD) (ai:ql.ok aD) (af:ql.fI.Nodup)
 (I:∀ k ∈ ql.fI,k ∈ x.fI\/(w.heap.size<=k/\k <aD.heap.size)):au W M0 X aD (A++ql::B) D:=by
 subst gq
 have bO:cP (A++x::B)=cP A++(x.fI++cP B):=by simp [cP]
 have b4:cP (A++ql::B)=cP A++(ql.fI++cP B):=by simp [cP]
 have z6:=h.dT
 rw [bO,List.nodup_append,List.nodup_append] at z6
 obtain ⟨aj3,⟨ab4,aj4,ab5⟩,QL⟩:=z6
 have nz:∀ k ∈ x.fI,k <w.heap.size/\(k ∈ M0\/W.heap.size<=k):=fun k bh=>h.lt k (by rw [bO];simp [bh])
 refine ⟨h.ev.trans ad (fun k bh=>(nz k bh).2),h.lS,fun k bh=>?_,fun y hy=>?_,?_,fun y hy=>?_⟩
 · rw [b4] at bh
   simp only [List.mem_append] at bh
   rcases bh with bh | bh | bh
   · have:=h.lt k (by rw [bO];simp [bh]);exact ⟨Nat.lt_of_lt_of_le this.1 ad.size,this.2⟩
   · rcases I k bh with e | e
     · exact ⟨Nat.lt_of_lt_of_le (nz k e).1 ad.size,(nz k e).2⟩
     · exact ⟨e.2,.inr (Nat.le_trans h.ev.size e.1)⟩
   · have:=h.lt k (by rw [bO];simp [bh]);exact ⟨Nat.lt_of_lt_of_le this.1 ad.size,this.2⟩
 · have aeX:∀ z,z ∈ A\/z ∈ B->z.ok aD:=fun z c0=>by
    have ad8:z ∈ A++x::B:=by rcases c0 with e | e <;> simp [e]
    refine z.law w aD (fun k bh=>ad.block k (h.lt k (List.mem_flatMap.2 ⟨z,ad8,bh⟩)).1 (fun LM=>?_)) (h.ok z ad8)
    rcases c0 with e | e
    · exact QL k (List.mem_flatMap.2 ⟨z,e,bh⟩) k (by simp [LM]) rfl
    · exact ab5 k LM k (List.mem_flatMap.2 ⟨z,e,bh⟩) rfl
   simp only [List.mem_append,List.mem_cons] at hy
   rcases hy with hy | rfl | hy
   · exact aeX y (.inl hy)
   · exact ai
   · exact aeX y (.inr hy)
 · rw [b4,List.nodup_append,List.nodup_append]
   have e6:∀ k ∈ ql.fI,∀ b,(b ∈ cP A\/b ∈ cP B)->k≠b:=fun k bh b a1 e=>by
    subst e
    rcases I k bh with e | e
    · rcases a1 with a1 | a1
      · exact QL k a1 k (by simp [e]) rfl
      · exact ab5 k e k a1 rfl
    · have:=(h.lt k (by rw [bO];rcases a1 with a1 | a1 <;> simp [a1])).1
      omega
   exact ⟨aj3,⟨af,aj4,fun a bK b a1=>e6 a bK b (.inr a1)⟩,fun a bK b a1=>by
    rcases List.mem_append.1 a1 with a1 | a1
    · exact fun e=>e6 b a1 a (.inl bK) e.symm
    · exact QL a bK b (by simp [a1])⟩
 · refine y.law (X++cP (A++x::B)) _ w aD (ad.mono (fun k bh=>by rw [bO];simp [bh])) (fun k bh=>?_) (h.rd y hy)
   rw [b4] at bh
   simp only [List.mem_append] at bh
   rcases bh with bh | bh | bh | bh
   · exact .inl (by simp [bh])
   · exact .inl (by rw [bO];simp [bh])
   · rcases I k bh with e | e
     · exact .inl (by rw [bO];simp [e])
     · exact .inr e.1
   · exact .inl (by rw [bO];simp [bh])
theorem au.more (h:au W M0 X w E D) {y:al} (hy:y.ok (X++cP E) w):au W M0 X w E (y::D):=
 ⟨h.ev,h.lS,h.lt,h.ok,h.dT,fun z c0=>by rcases List.mem_cons.1 c0 with rfl | e;exact hy;exact h.rd z e⟩
theorem au.less (h:au W M0 X w E D) {ha:List al} (a5:∀ y ∈ ha,y ∈ D):au W M0 X w E ha:=⟨h.ev,h.lS,h.lt,h.ok,h.dT,fun y hy=>h.rd y (a5 y hy)⟩
theorem au.e (h:au W M0 X w E D) (i:Nat) {x:aq} (hi:E[i]? =some x):x.ok w:=h.ok x (List.mem_of_getElem? hi)
theorem au.d (h:au W M0 X w E D) (i:Nat) {y:al} (hi:D[i]? =some y):y.ok (X++cP E) w:=h.rd y (List.mem_of_getElem? hi)
theorem al.less {y:al} {M iu:List Nat} (h:y.ok M w) (hm:∀ k ∈ iu,k ∈ M):y.ok iu w:=y.law M iu w w (a'.refl _ _) (fun k bh=>.inl (hm k bh)) h
theorem au.vA (h:au W M0 X w E D) (i:Nat) {x ql:aq} (hi:E[i]? =some x) (ad:a' x.fI w aD) (ai:ql.ok aD) (af:ql.fI.Nodup)
 (I:∀ k ∈ ql.fI,k ∈ x.fI\/(w.heap.size<=k/\k <aD.heap.size)):au W M0 X aD (E.set i ql) D:=by
 obtain ⟨az,rfl⟩:=List.getElem?_eq_some_iff.1 hi
 have gq:E=E.take i++E[i]::E.drop (i+ 1):=by simp
 have:=h.aHd gq ad ai af I
 rwa [List.set_eq_take_append_cons_drop,if_pos az]
end
end a2
namespace a2
open Go Go.RowKit J
abbrev ao (l:List UInt8):Value:=.string ⟨⟨l⟩⟩
structure fl (α:Type) where
 size:Nat
 rd:(Nat->Prop)->World->List Value->α->Prop
 len:∀ {F w cs d},rd F w cs d->cs.length=size
 one:∀ {F w cs d},rd F w cs d-> ∀ v ∈ cs,v.oneCell'=true
 law:∀ {F zg w aD cs d},(∀ k,F k->zg k/\aD.heap[k]? =w.heap[k]?)->rd F w cs d->rd zg aD cs d
def ib (M:List Nat) (w:World):Nat->Prop:=fun k=>k ∉ M/\k <w.heap.size
def al.of {α:Type} (T:fl α) (cs:List Value) (d:α):al where
 ok M w:=T.rd (ib M w) w cs d
 law M iu w aD ad hm h:=T.law (fun k bh=>⟨⟨fun ai=>by rcases hm k ai with e | e;exact bh.1 e;exact absurd bh.2 (by omega),Nat.lt_of_lt_of_le bh.2 ad.size⟩,ad.block k bh.2 bh.1⟩) h
def aj (k:IntKind):fl Int where
 size:=1
 rd _ _ cs d:=cs= [.int k d]
 len h:=by subst h;rfl
 one h v ad:=by subst h;simp at ad;subst ad;rfl
 law _ h:=h
def Nz:fl UInt8 where
 size:=1
 rd _ _ cs d:=cs= [.int .u8 (d.toNat:Int)]
 len h:=by subst h;rfl
 one h v ad:=by subst h;simp at ad;subst ad;rfl
 law _ h:=h
def aHe:fl Bool where
 size:=1
 rd _ _ cs d:=cs= [.bool d]
 len h:=by subst h;rfl
 one h v ad:=by subst h;simp at ad;subst ad;rfl
 law _ h:=h
def bz:fl (List UInt8) where
 size:=1
 rd _ _ cs d:=cs= [ao d]
 len h:=by subst h;rfl
 one h v ad:=by subst h;simp at ad;subst ad;rfl
 law _ h:=h
section
variable {α:Type} (T:fl α)
def fS (F:Nat->Prop) (w:World):List Value->List α->Prop
 | xs,[]=>xs= []
 | xs,d::r=>∃ cs ys,xs=cs++ys/\T.rd F w cs d/\fS F w ys r
theorem XR {F:Nat->Prop} {w:World}:∀ {l:List α} {xs:List Value},fS T F w xs l->xs.length=l.length*T.size
 | [],xs,h=>by simp only [fS] at h;subst h;simp
 | d::r,xs,h=>by
   obtain ⟨cs,ys,rfl,aC,aU⟩:=h
   rw [List.length_append,T.len aC,XR aU,List.length_cons,Nat.add_mul];omega
theorem afH {F:Nat->Prop} {w:World}:∀ {l:List α} {xs:List Value},fS T F w xs l-> ∀ v ∈ xs,v.oneCell'=true
 | [],xs,h=>by simp only [fS] at h;subst h;simp
 | d::r,xs,h=>by
   obtain ⟨cs,ys,rfl,aC,aU⟩:=h
   intro v ad
   rcases List.mem_append.1 ad with e | e
   · exact T.one aC v e
   · exact afH aU v e
theorem XQ {F zg:Nat->Prop} {w aD:World} (bV:∀ k,F k->zg k/\aD.heap[k]? =w.heap[k]?):∀ {l:List α} {xs:List Value},fS T F w xs l->fS T zg aD xs l
 | [],xs,h=>h
 | d::r,xs,h=>by
   obtain ⟨cs,ys,rfl,aC,aU⟩:=h
   exact ⟨cs,ys,rfl,T.law bV aC,XQ bV aU⟩
theorem afJ {F:Nat->Prop} {w:World} {d:α} {cs:List Value} (bT:T.rd F w cs d):∀ {l:List α} {xs:List Value},fS T F w xs l->fS T F w (xs++cs) (l++[d])
 | [],xs,h=>by simp only [fS] at h;subst h;exact ⟨cs,[],by simp,bT,rfl⟩
 | e::r,xs,h=>by
   obtain ⟨c,ys,rfl,aC,aU⟩:=h
   exact ⟨c,ys++cs,by simp,aC,afJ bT aU⟩
theorem afG {F:Nat->Prop} {w:World} {l':List α} {fG:List Value} (dP:fS T F w fG l'):∀ {l:List α} {xs:List Value},fS T F w xs l->fS T F w (xs++fG) (l++l')
 | [],xs,h=>by simp only [fS] at h;subst h;simpa using dP
 | e::r,xs,h=>by
   obtain ⟨c,ys,rfl,aC,aU⟩:=h
   exact ⟨c,ys++fG,by simp,aC,afG dP aU⟩
theorem XO {F:Nat->Prop} {w:World}:∀ {l:List α} {xs:List Value} {i:Nat} {d:α},fS T F w xs l->l[i]? =some d ->
 ∃ cs,T.rd F w cs d/\ ∀ j u,cs[j]? =some u->xs[i*T.size+j]? =some u
 | [],_,i,d,_,hi=>by simp at hi
 | e::r,xs,0,d,h,hi=>by
   obtain ⟨cs,ys,rfl,aC,_⟩:=h
   simp only [List.getElem?_cons_zero,Option.some.injEq] at hi
   subst hi
   refine ⟨cs,aC,fun j u bb=>?_⟩
   have az:j <cs.length:=by
    rcases Nat.lt_or_ge j cs.length with h | h
    · exact h
    · rw [List.getElem?_eq_none h] at bb;cases bb
   simpa [List.getElem?_append,az] using bb
 | e::r,xs,i+ 1,d,h,hi=>by
   obtain ⟨cs,ys,rfl,aC,aU⟩:=h
   obtain ⟨c,hc,bb⟩:=XO (i:=i) aU (by simpa using hi)
   refine ⟨c,hc,fun j u T1=>?_⟩
   have hlen:=T.len aC
   have bO:(i+ 1)*T.size+j=cs.length+(i*T.size+j):=by rw [Nat.add_mul];omega
   rw [bO,List.getElem?_append_right (by omega)]
   simpa using bb j u T1
def iO (w:World) (a:Addr) (xs:List Value):Prop:=∀ j u,xs[j]? =some u->w.cell? ⟨a.block,a.off+j,none⟩=some u
theorem iO.law {w aD:World} {a:Addr} {xs:List Value} (h:iO w a xs) (a1:aD.heap[a.block]? =w.heap[a.block]?):iO aD a xs:=
 fun j u bb=>(World.cell?_of_block (a:=⟨a.block,a.off+j,none⟩) a1).trans (h j u bb)
def bG (A:Option Addr):Nat:=(A.getD ⟨0,0,none⟩).block
def bJ (A:Option Addr):Nat:=(A.getD ⟨0,0,none⟩).off
def aH:fl (List α) where
 size:=1
 rd F w cs l:=∃ A c,cs= [.slice A l.length c]/\l.length<=c/\c<=maxLen/\(A=none->c= 0) /\
  (l≠ []->A=some ⟨bG A,bJ A,none⟩/\F (bG A)/\ ∃ xs,fS T F w xs l/\iO w ⟨bG A,bJ A,none⟩ xs)
 len h:=by obtain ⟨A,c,rfl,_⟩:=h;rfl
 one h v ad:=by obtain ⟨A,c,rfl,_⟩:=h;simp at ad;subst ad;rfl
 law bV h:=by
  obtain ⟨A,c,aC,bS,ew,lH,tR⟩:=h
  refine ⟨A,c,aC,bS,ew,lH,fun az=>?_⟩
  obtain ⟨bO,b4,xs,eu,g8⟩:=tR az
  exact ⟨bO,(bV _ b4).1,xs,XQ T bV eu,g8.law (bV _ b4).2⟩
theorem bZ {F:Nat->Prop} {w:World} {A:Option Addr} {n c:Nat} {l:List α} {i:Int} {d:α} (h:(aH T).rd F w [.slice A n c] l) (hi:idx l i=some d) :
 A=some ⟨bG A,bJ A,none⟩/\(0 <=i/\i <n)/\ ∃ cs,T.rd F w cs d/\iO w ⟨bG A,bJ A+i.toNat*T.size,none⟩ cs:=by
 obtain ⟨bE,aC,aU⟩:=ux hi
 obtain ⟨jx,dR,bO,eu,g8,j6,zB⟩:=h
 simp only [List.cons.injEq,Value.slice.injEq,and_true] at bO
 obtain ⟨rfl,rfl,rfl⟩:=bO
 obtain ⟨j8,kX,xs,zH,zI⟩:=zB (fun azr=>by rw [azr] at aC;simp at aC)
 obtain ⟨cs,hc,xK⟩:=XO T zH aU
 refine ⟨j8,⟨bE,by omega⟩,cs,hc,fun j u bb=>?_⟩
 have:=zI (i.toNat*T.size+j) u (xK j u bb)
 simpa [Nat.add_assoc] using this
end
def aq.bm (g:Nat) (t:TypeId) (cs:List Value):aq where
 fI:=[g]
 ok w:=w.heap[g]? =some (.cells cs.toArray t (0,0))
 law w aD h bh:=(h g (by simp)).trans bh
def aq.row {α:Type} (e:TypeId) (size:Nat) (v:Value) (l:List α) (xs:List Value):aq where
 fI:=v.ownBlock.toList
 ok w:=w.ownsRow 0 e size v l.length xs
 law w aD h bh:=by
  refine ⟨bh.1,?_⟩
  rcases bh.2 with af | ⟨g,cap,cur,rfl,a1,R_,rest⟩
  · exact .inl af
  · exact .inr ⟨g,cap,cur,rfl,a1,(h g (by simp [Value.ownBlock])).trans R_,rest⟩
def al.rows {α:Type} (T:fl α) (xs:List Value) (l:List α):al where
 ok M w:=fS T (ib M w) w xs l
 law M iu w aD ad hm h:=XQ T (fun k bh=>⟨⟨fun ai=>by rcases hm k ai with e | e;exact bh.1 e;exact absurd bh.2 (by omega),Nat.lt_of_lt_of_le bh.2 ad.size⟩,ad.block k bh.2 bh.1⟩) h
theorem XY {α:Type} {w:World} {e:TypeId} {size:Nat} {v:Value} {l:List α} {xs:List Value} (h:(aq.row e size v l xs).ok w):∃ A c,v= .slice A l.length c/\l.length<=c/\c<=maxLen/\(A=none->c= 0)/\(A≠none->A=some ⟨bG A,0,none⟩):=by
 have dP:w.ownsRow 0 e size v l.length xs:=h
 rcases dP.2 with ⟨rfl,bE⟩ | ⟨g,cap,cur,rfl,_,_,aC,aU,_⟩
 · exact ⟨none,0,by rw [bE],by omega,Nat.zero_le _,fun _=>rfl,fun h=>absurd rfl h⟩
 · exact ⟨some ⟨g,0,none⟩,cap,rfl,aC,aU,(fun h=>by cases h),fun _=>rfl⟩
theorem aGw {α:Type} {T:fl α} {M:List Nat} {w:World} {e:TypeId} {A:Option Addr} {n c:Nat} {l:List α} {xs:List Value} (h:(aq.row e T.size (.slice A n c) l xs).ok w) (bU:(al.rows T xs l).ok M w)
 (fr:∀ k ∈ (Value.slice A n c).ownBlock.toList,k ∉ M):(al.of (aH T) [.slice A n c] l).ok M w:=by
 have dP:w.ownsRow 0 e T.size (.slice A n c) l.length xs:=h
 have HF:fS T (ib M w) w xs l:=bU
 show (aH T).rd (ib M w) w _ l
 rcases dP.2 with ⟨aC,bE⟩ | ⟨g,cap,cur,aC,_,dd,hle,hm,a5,ai⟩
 · have az:l= []:=List.eq_nil_of_length_eq_zero bE
   simp only [Value.slice.injEq] at aC
   obtain ⟨rfl,rfl,rfl⟩:=aC
   subst az
   exact ⟨none,0,rfl,by simp,Nat.zero_le _,fun _=>rfl,fun h=>absurd rfl h⟩
 · simp only [Value.slice.injEq] at aC
   obtain ⟨rfl,rfl,rfl⟩:=aC
   refine ⟨_,_,rfl,hle,hm,(fun h=>by cases h),fun _=>⟨rfl,⟨fr g (by simp [Value.ownBlock]),(Array.getElem?_eq_some_iff.1 dd).1⟩,xs,HF,fun j u bb=>?_⟩⟩
   have oD:=dP.cells (g:=g) rfl j u bb
   simpa [Addr.add,bG,bJ] using (by
    have e:(⟨g,0,none⟩:Addr).add j=⟨g,0 +j,none⟩:=by unfold Addr.add;split <;> simp_all
    rw [e] at oD;exact oD:w.cell? ⟨g,0 +j,none⟩=some u)
theorem B4 {w:World} {g:Nat} {t:TypeId} {cs:List Value} (h:(aq.bm g t cs).ok w) {j:Nat} {v:Value} (bb:cs[j]? =some v):w.cell? ⟨g,j,none⟩=some v:=by
 have dP:w.heap[g]? =some (.cells cs.toArray t (0,0)):=h
 simp [World.cell?,dP,bb]
theorem Z7 {w:World} {g:Nat} {t:TypeId} {cs:List Value} (h:(aq.bm g t cs).ok w) (j:Nat):w.frozen? ⟨g,j,none⟩=false:=by
 have dP:w.heap[g]? =some (.cells cs.toArray t (0,0)):=h
 simp [World.frozen?,dP]
theorem w8 {w:World} {g:Nat} {t:TypeId} {cs:List Value} (h:(aq.bm g t cs).ok w):g <w.heap.size:=by
 have dP:w.heap[g]? =some (.cells cs.toArray t (0,0)):=h
 exact (Array.getElem?_eq_some_iff.1 dP).1
theorem ahO (w:World) (t:TypeId) (cs:List Value):(aq.bm w.heap.size t cs).ok (w.alloc (.cells cs.toArray t)):=heap_alloc_new w _
def al.cU (g:Nat) (cs:List Value):al where
 ok M w:=g ∉ M/\g <w.heap.size/\iO w ⟨g,0,none⟩ cs
 law M iu w aD ad hm h:=⟨fun ai=>by rcases hm g ai with e | e;exact h.1 e;exact absurd h.2.1 (by omega),Nat.lt_of_lt_of_le h.2.1 ad.size,h.2.2.law (ad.block g h.2.1 h.1)⟩
theorem i_ {α:Type} (T:fl α) (M:List Nat) (w:World):(al.of (aH T) [.slice none 0 0] ([]:List α)).ok M w:=
 ⟨none,0,rfl,by simp,Nat.zero_le _,fun _=>rfl,fun h=>absurd rfl h⟩
def X7 (cs:List Value):Nat->List Value->Prop
 | _,[]=>True
 | k,v::r=>cs[k]? =some v/\X7 cs (k+ 1) r
theorem af4 {cs:List Value}:∀ {k:Nat} {l:List Value},X7 cs k l-> ∀ j u,l[j]? =some u->cs[k+j]? =some u
 | _,[],_,j,u,bb=>by simp at bb
 | k,v::r,h,0,u,bb=>by
   simp only [List.getElem?_cons_zero,Option.some.injEq] at bb
   subst bb;exact h.1
 | k,v::r,h,j+ 1,u,bb=>by
   have:=af4 h.2 j u (by simpa using bb)
   rwa [Nat.add_assoc,Nat.add_comm 1 j] at this
theorem g0 {w:World} {g:Nat} {t:TypeId} {cs l:List Value} (h:(aq.bm g t cs).ok w) (k:Nat) (a5:X7 cs k l):iO w ⟨g,k,none⟩ l:=fun j u bb=>B4 h (af4 a5 j u bb)
theorem fW {α:Type} {T:fl α} {F:Nat->Prop} {w:World} {cs:List Value} {l:List α} (h:(aH T).rd F w cs l):∃ A c,cs= [.slice A l.length c]:=by
 obtain ⟨A,c,aC,_⟩:=h
 exact ⟨A,c,aC⟩
theorem gi {α:Type} {T:fl α} {M:List Nat} {w:World} {e:TypeId} {A:Option Addr} {n c:Nat} {l:List α} {xs:List Value} {i:Int} {d:α} (h:(aq.row e T.size (.slice A n c) l xs).ok w) (bU:(al.rows T xs l).ok M w) (hi:idx l i=some d) :
 A=some ⟨bG A,bJ A,none⟩/\(0 <=i/\i <n)/\ ∃ cs,T.rd (ib M w) w cs d/\iO w ⟨bG A,bJ A+i.toNat*T.size,none⟩ cs:=by
 obtain ⟨bE,aC,aU⟩:=ux hi
 have dP:w.ownsRow 0 e T.size (.slice A n c) l.length xs:=h
 have HF:fS T (ib M w) w xs l:=bU
 rcases dP.2 with ⟨bO,iy⟩ | ⟨g,cap,cur,bO,_,dd,_⟩
 · omega
 · simp only [Value.slice.injEq] at bO
   obtain ⟨rfl,rfl,rfl⟩:=bO
   obtain ⟨cs,hc,xK⟩:=XO T HF aU
   refine ⟨rfl,⟨bE,by omega⟩,cs,hc,fun j u bb=>?_⟩
   have oD:=dP.cells (g:=g) rfl _ u (xK j u bb)
   have b4:(⟨g,0,none⟩:Addr).add (i.toNat*T.size+j)=⟨g,0 +(i.toNat*T.size+j),none⟩:=by unfold Addr.add;split <;> simp_all
   rw [b4] at oD
   show w.cell? ⟨g,0 +i.toNat*T.size+j,none⟩=some u
   rw [Nat.add_assoc];exact oD
end a2
namespace a2
open Go Go.RowKit J
theorem ae' (p q:List UInt8):(p == q)=decide (p=q):=by
 rw [Bool.eq_iff_iff];simp
section
variable {P:Program} {o:Oper} {a:Act} {w:World}
abbrev cg (P:Program) (o:Oper) (a:Act) (w:World) (v:Value) (aD:World):Prop:=(execOp a.eval o).run P w= .ok (.value v) aD
abbrev w5 (P:Program) (o:Oper) (a:Act) (w:World) (aD:World):Prop:=(execOp a.eval o).run P w= .ok .skip aD
theorem aIG {x:Operand} {v:Value} (br:o.op= .move x) (ai:a.eval x=v):cg P o a w v w:=by
 simp only [cg,execOp,br,ai];rfl
theorem aIi {x:Operand} {v:Value} (br:o.op= .assign x) (ai:a.eval x=v):cg P o a w v w:=by
 simp only [cg,execOp,br,ai];rfl
theorem ag6 {c x y:Operand} {v:Value} (br:o.op= .pick c x y) (hc:a.eval c= .bool true) (ai:a.eval x=v):cg P o a w v w:=by
 simp only [cg,execOp,br,hc,ai];rfl
theorem ag5 {c x y:Operand} {v:Value} (br:o.op= .pick c x y) (hc:a.eval c= .bool false) (hy:a.eval y=v):cg P o a w v w:=by
 simp only [cg,execOp,br,hc,hy];rfl
section
variable {x y:Operand} {t ep:TypeId} {k:IntKind} {m n:Int}
theorem aIe (br:o.op= .binOp .add t x y ep) (ai:a.eval x= .int k m) (hy:a.eval y= .int k n):cg P o a w (.int k (k.wrap (m+n))) w:=by
 simp only [cg,execOp,br,ai,hy]
 simp [go_sem]
theorem aIT (br:o.op= .binOp .sub t x y ep) (ai:a.eval x= .int k m) (hy:a.eval y= .int k n):cg P o a w (.int k (k.wrap (m - n))) w:=by
 simp only [cg,execOp,br,ai,hy]
 simp [go_sem]
theorem aIH (br:o.op= .binOp .mul t x y ep) (ai:a.eval x= .int k m) (hy:a.eval y= .int k n):cg P o a w (.int k (k.wrap (m*n))) w:=by
 simp only [cg,execOp,br,ai,hy]
 simp [go_sem]
theorem aIP (br:o.op= .binOp .quo t x y ep) (ai:a.eval x= .int k m) (hy:a.eval y= .int k n) (bE:n≠ 0):cg P o a w (.int k (k.wrap (m.tdiv n))) w:=by
 simp only [cg,execOp,br,ai,hy]
 simp [go_sem,bE]
theorem aID (br:o.op= .binOp .lss t x y ep) (ai:a.eval x= .int k m) (hy:a.eval y= .int k n):cg P o a w (.bool (decide (m <n))) w:=by
 simp only [cg,execOp,br,ai,hy]
 simp [go_sem]
theorem aIA (br:o.op= .binOp .leq t x y ep) (ai:a.eval x= .int k m) (hy:a.eval y= .int k n):cg P o a w (.bool (decide (m<=n))) w:=by
 simp only [cg,execOp,br,ai,hy]
 simp [go_sem]
theorem aIv (br:o.op= .binOp .gtr t x y ep) (ai:a.eval x= .int k m) (hy:a.eval y= .int k n):cg P o a w (.bool (decide (n <m))) w:=by
 simp only [cg,execOp,br,ai,hy]
 simp [go_sem]
theorem aIu (br:o.op= .binOp .geq t x y ep) (ai:a.eval x= .int k m) (hy:a.eval y= .int k n):cg P o a w (.bool (decide (n<=m))) w:=by
 simp only [cg,execOp,br,ai,hy]
 simp [go_sem]
theorem aIq (bA:P.underlying t=some (.int k)) (br:o.op= .binOp .eql t x y ep) (ai:a.eval x= .int k m) (hy:a.eval y= .int k n):cg P o a w (.bool (decide (m=n))) w:=by
 have:=run_underlying (P:=P) bA
 simp only [cg,execOp,br,ai,hy]
 simp [go_sem,this]
 rfl
theorem aIK (bA:P.underlying t=some (.int k)) (br:o.op= .binOp .neq t x y ep) (ai:a.eval x= .int k m) (hy:a.eval y= .int k n):cg P o a w (.bool (!decide (m=n))) w:=by
 have:=run_underlying (P:=P) bA
 simp only [cg,execOp,br,ai,hy]
 simp [go_sem,this]
 rfl
end
section
variable {x y:Operand} {t ep:TypeId} {p q:Bool}
theorem aGG (bA:P.underlying t=some .bool) (p q:Bool) (w:World):(binOp .eql t (.bool p) (.bool q)).run P w= .ok (.bool (p == q)) w:=by
 have h:∀ d:Nat,(Op.equalIn (d+ 1) t (.bool p) (.bool q)).run P w= .ok (p == q) w:=fun d=>by
  simp [Op.equalIn,run_underlying bA]
 simp only [binOp]
 simp [Op.equal,Op.maxDepth,h 9999]
theorem aGH (bA:P.underlying t=some .bool) (p q:Bool) (w:World):(binOp .neq t (.bool p) (.bool q)).run P w= .ok (.bool (!(p == q))) w:=by
 have h:∀ d:Nat,(Op.equalIn (d+ 1) t (.bool p) (.bool q)).run P w= .ok (p == q) w:=fun d=>by
  simp [Op.equalIn,run_underlying bA]
 simp only [binOp]
 simp [Op.equal,Op.maxDepth,h 9999]
theorem aIo (bA:P.underlying t=some .bool) (br:o.op= .binOp .eql t x y ep) (ai:a.eval x= .bool p) (hy:a.eval y= .bool q):cg P o a w (.bool (p == q)) w:=by
 simp only [cg,execOp,br,ai,hy]
 simp [go_sem,aGG bA]
theorem aIJ (bA:P.underlying t=some .bool) (br:o.op= .binOp .neq t x y ep) (ai:a.eval x= .bool p) (hy:a.eval y= .bool q):cg P o a w (.bool (!(p == q))) w:=by
 simp only [cg,execOp,br,ai,hy]
 simp [go_sem,aGH bA]
theorem aIN (br:o.op= .unOp .not t x) (ai:a.eval x= .bool p):cg P o a w (.bool (!p)) w:=by
 simp only [cg,execOp,br,ai]
 simp [go_sem]
end
section
variable {x y:Operand} {t ep:TypeId} {p q:List UInt8}
theorem aIr (bA:P.underlying t=some .string) (br:o.op= .binOp .eql t x y ep) (ai:a.eval x=ao p) (hy:a.eval y=ao q):cg P o a w (.bool (decide (p=q))) w:=by
 have:=run_underlying (P:=P) bA
 simp only [cg,execOp,br,ai,hy]
 simp [go_sem,this]
 exact ae' p q
theorem aIL (bA:P.underlying t=some .string) (br:o.op= .binOp .neq t x y ep) (ai:a.eval x=ao p) (hy:a.eval y=ao q):cg P o a w (.bool (!decide (p=q))) w:=by
 have:=run_underlying (P:=P) bA
 simp only [cg,execOp,br,ai,hy]
 simp [go_sem,this]
 exact ae' p q
theorem aIz {kU:TypeId} (bA:P.underlying kU=some .string) (br:o.op= .call { callee:=.builtin .len,args:=#[x],argTypes:=#[kU] }) (ai:a.eval x=ao p):cg P o a w (.int .i64 p.length) w:=by
 simp only [cg,execOp,br,resolve,invoke,List.map_toArray,List.map_cons,List.map_nil,ai]
 simp [go_sem,Builtin.len_,run_underlying bA,goInt]
theorem aIy {kU:TypeId} {A:Option Addr} {n c:Nat} {e:TypeId} (bA:P.underlying kU=some (.slice e)) (br:o.op= .call { callee:=.builtin .len,args:=#[x],argTypes:=#[kU] }) (ai:a.eval x= .slice A n c):cg P o a w (.int .i64 n) w:=by
 simp only [cg,execOp,br,resolve,invoke,List.map_toArray,List.map_cons,List.map_nil,ai]
 simp [go_sem,Builtin.len_,run_underlying bA,goInt]
theorem aIw {i:Nat} {b:UInt8} (bA:P.underlying t=some .string) (br:o.op= .index t x y) (ai:a.eval x=ao p) (hy:a.eval y= .int .i64 i) (a1:p[i]? =some b):cg P o a w (.int .u8 b.toNat) w:=by
 simp only [cg,execOp,br,ai,hy]
 obtain ⟨aC,aU⟩:=List.getElem?_eq_some_iff.1 a1
 have e:(⟨⟨p⟩⟩:ByteArray)[i]? =some b:=by
  show (if h:i <_ then some _ else none)=_
  rw [dif_pos (show i <(⟨⟨p⟩⟩:ByteArray).size from aC)]
  exact congrArg some aU
 simp [go_sem,Instr.index,run_underlying bA,e]
theorem Ps {k k':IntKind} {n:Int} (bA:P.underlying t=some (.int k)) (oI:P.underlying ep=some (.int k')) (br:o.op= .convert t ep x) (ai:a.eval x= .int k n):cg P o a w (.int k' (k'.wrap n)) w:=by
 simp only [cg,execOp,br,ai]
 simp [go_sem,convert,run_underlying bA,run_underlying oI]
end
end
theorem yT (n:Int):IntKind.i64.wrap n=ap n:=by rw [IntKind.wrap_i64];rfl
theorem aHi (n:Int):IntKind.u8.wrap n=((E5 n).toNat:Int):=by rw [ahM,IntKind.wrap_u8]
section
variable {P:Program} {o:Oper} {a:Act} {w:World} {x y:Operand} {t ep:TypeId} {m n:Int}
theorem aIf (br:o.op= .binOp .add t x y ep) (ai:a.eval x= .int .i64 m) (hy:a.eval y= .int .i64 n):cg P o a w (.int .i64 (ap (m+n))) w:=by rw [<-yT];exact aIe br ai hy
theorem aIU (br:o.op= .binOp .sub t x y ep) (ai:a.eval x= .int .i64 m) (hy:a.eval y= .int .i64 n):cg P o a w (.int .i64 (ap (m - n))) w:=by rw [<-yT];exact aIT br ai hy
theorem aII (br:o.op= .binOp .mul t x y ep) (ai:a.eval x= .int .i64 m) (hy:a.eval y= .int .i64 n):cg P o a w (.int .i64 (ap (m*n))) w:=by rw [<-yT];exact aIH br ai hy
theorem aIR (br:o.op= .binOp .rem t x y ep) (ai:a.eval x= .int .i64 m) (hy:a.eval y= .int .i64 n) (bE:(!decide (n= 0))=true):cg P o a w (.int .i64 (m.tmod n)) w:=by
 have bE:n≠ 0 :=by simpa using bE
 simp only [cg,execOp,br,ai,hy]
 simp [go_sem,bE]
theorem aIQ (br:o.op= .binOp .quo t x y ep) (ai:a.eval x= .int .i64 m) (hy:a.eval y= .int .i64 n) (bE:(!decide (n= 0))=true):cg P o a w (.int .i64 (ap (m.tdiv n))) w:=by rw [<-yT];exact aIP br ai hy (by simpa using bE)
theorem aIk (bA:P.underlying t=some (.int .i64)) (oI:P.underlying ep=some (.int .i64)) (br:o.op= .convert t ep x) (ai:a.eval x= .int .i64 m):cg P o a w (.int .i64 (ap m)) w:=by
 have h:=Ps (P:=P) (w:=w) bA oI br ai
 rwa [yT] at h
theorem aIm (bA:P.underlying t=some (.int .i64)) (oI:P.underlying ep=some (.int .u8)) (br:o.op= .convert t ep x) (ai:a.eval x= .int .i64 m):cg P o a w (.int .u8 ((E5 m).toNat:Int)) w:=by
 have h:=Ps (P:=P) (w:=w) bA oI br ai
 rwa [aHi] at h
theorem cW (a:Act) (v:Value):a.eval (.const v)=v:=rfl
theorem ab8 (a:Act) (g:Nat):a.eval (.global g)= .pointer (some ⟨g,0,none⟩):=rfl
theorem aIs {vs:List Value} {i:Nat} {v:Value} (br:o.op= .extract x i) (ai:a.eval x= .tuple vs.toArray) (ad:vs[i]? =some v):cg P o a w v w:=by
 simp only [cg,execOp,br,ai]
 simp [go_sem,Instr.extract,ad]
theorem aIM {p:Addr} (br:o.op= .nilCheck x) (ai:a.eval x= .pointer (some p)):cg P o a w (.pointer (some p)) w:=by
 simp only [cg,execOp,br,ai]
 rfl
end
end a2
namespace a2
open Go Go.RowKit J
theorem qM (b o n:Nat):(⟨b,o,none⟩:Addr).add n=⟨b,o+n,none⟩:=by
 unfold Addr.add;split <;> simp_all
section
variable {P:Program} {o:Oper} {a:Act} {w:World} {x y:Operand} {t e s:TypeId}
theorem aIx {i:Int} {b:UInt8} {p:List UInt8} (bA:P.underlying t=some .string) (br:o.op= .index t x y) (ai:a.eval x=ao p) (hy:a.eval y= .int .i64 i) (a1:idx p i=some b):cg P o a w (.int .u8 b.toNat) w:=by
 obtain ⟨bE,aC,aU⟩:=ux a1
 obtain ⟨n,rfl⟩:=Int.eq_ofNat_of_zero_le bE
 exact aIw bA br ai hy (by simpa using aU)
theorem bF {A:Option Addr} {n c sz:Nat} {i:Int} (bA:P.underlying t=some (.slice e)) (a5:∀ w,(Go.sizeOf e).run P w= .ok sz w)
 (br:o.op= .indexAddr t x y) (ai:a.eval x= .slice A n c) (hy:a.eval y= .int .i64 i) (gL:A=some ⟨bG A,bJ A,none⟩) (hi:0 <=i/\i <n) :
 cg P o a w (.pointer (some ⟨bG A,bJ A+i.toNat*sz,none⟩)) w:=by
 obtain ⟨bE,aC⟩:=hi
 obtain ⟨k,rfl⟩:=Int.eq_ofNat_of_zero_le bE
 have eh:k <n:=by omega
 rw [gL] at ai
 simp only [cg,execOp,br,ai,hy]
 simp [go_sem,Instr.indexAt,run_underlying bA,eh,a5,qM]
theorem aIt {gK:Array Field} {f:Field} {j b p sz:Nat} (bA:P.underlying s=some (.struct gK)) (I:gK[j]? =some f) (a5:∀ w,(Go.sizeOf f.type).run P w= .ok sz w) (bE:Nat.beq sz 0 =false)
 (br:o.op= .fieldAddr s x j) (ai:a.eval x= .pointer (some ⟨b,p,none⟩)):cg P o a w (.pointer (some ⟨b,p+f.offset,none⟩)) w:=by
 have akZ:sz≠ 0 :=by intro e;subst e;simp at bE
 simp only [cg,execOp,br,ai]
 simp [go_sem,Instr.fieldAt,run_underlying bA,I,fieldPlace,a5,akZ,qM]
theorem aIB {b p:Nat} {v:Value} (dd:∀ w,(isAgg t).run P w= .ok false w) (br:o.op= .load t x) (ai:a.eval x= .pointer (some ⟨b,p,none⟩)) (hc:w.cell? ⟨b,p,none⟩=some v):cg P o a w v w:=by
 simp only [cg,execOp,br,ai]
 simp [go_sem,Instr.loadAt,loadVar,dd,hc]
theorem aIC {b p sz:Nat} {cs:List Value} (dd:∀ w,(isAgg t).run P w= .ok true w) (a5:∀ w,(Go.sizeOf t).run P w= .ok sz w) (az:cs.length=sz) (br:o.op= .load t x)
 (ai:a.eval x= .pointer (some ⟨b,p,none⟩)) (hc:iO w ⟨b,p,none⟩ cs):cg P o a w (.agg cs.toArray) w:=by
 have h:=run_loadCells_list (P:=P) w ⟨b,p,none⟩ cs (fun j u bb=>by rw [qM];exact hc j u bb)
 rw [az] at h
 unfold loadCells at h
 simp only [cg,execOp,br,ai]
 simp [go_sem,Instr.loadAt,loadVar,dd,a5,h]
theorem ei {v:Value} {cs:List Value} (ad:v.cells=cs.toArray) (br:o.op= .box t x) (ai:a.eval x=v):cg P o a w (.pointer (some ⟨w.heap.size,0,none⟩)) (w.alloc (.cells cs.toArray t)):=by
 have ri:=ad
 unfold Value.cells at ri
 simp only [cg,execOp,br,ai]
 simp [go_sem,Instr.box,newVar,newRow,ri]
theorem eJ {z:Value} {cs:List Value} (c0:∀ w,(zeroValue t).run P w= .ok z w) (ad:z.cells=cs.toArray) (br:o.op= .alloc t):cg P o a w (.pointer (some ⟨w.heap.size,0,none⟩)) (w.alloc (.cells cs.toArray t)):=by
 have ri:=ad
 unfold Value.cells at ri
 simp only [cg,execOp,br]
 simp [go_sem,Instr.alloc,newVar,newRow,c0,ri]
end
def lay:List Value->Nat->List Value->List Value
 | l,0,cs=>cs++l.drop cs.length
 | [],_+ 1,_=>[]
 | u::l,n+ 1,cs=>u::lay l n cs
theorem WB:∀ (l:List Value) (n:Nat) (cs:List Value),n+cs.length<=l.length->lay l n cs=l.take n++cs++l.drop (n+cs.length)
 | l,0,cs,_=>by simp [lay]
 | [],n+ 1,cs,h=>by simp at h
 | u::l,n+ 1,cs,h=>by
   have:=WB l n cs (by simp at h;omega)
   simp only [lay,this,List.take_succ_cons,List.cons_append]
   have e:n+ 1 +cs.length=(n+cs.length)+ 1 :=by omega
   rw [e,List.drop_succ_cons]
section
variable {P:Program} {o:Oper} {a:Act} {w:World} {x y:Operand} {t e s:TypeId}
theorem ag7 {g p sz:Nat} {o7:TypeId} {cs vs:List Value} {v:Value} (ad:v.cells=vs.toArray) (a5:∀ w,(Go.sizeOf t).run P w= .ok sz w) (az:Nat.beq vs.length sz=true) (aC:vs.all (·.oneCell')=true)
 (hle:Nat.ble (p+vs.length) cs.length=true) (a1:(aq.bm g o7 cs).ok w) (br:o.op= .store t x y) (ai:a.eval x= .pointer (some ⟨g,p,none⟩)) (hy:a.eval y=v) :
 ∃ aD,w5 P o a w aD/\a' [g] w aD/\(aq.bm g o7 (lay cs p vs)).ok aD:=by
 have iD:w.heap[g]? =some (.cells cs.toArray o7 (0,0)):=a1
 have hlen:vs.length=sz:=Nat.eq_of_beq_eq_true az
 have LO:p+vs.length<=cs.length:=Nat.le_of_ble_eq_true hle
 have h:=run_storeCells_at P g p o7 vs 0 cs.toArray w iD (by simpa using LO) (fun u hu=>List.all_eq_true.1 aC u hu)
 simp only [Nat.add_zero] at h
 refine ⟨w.setRow g (lay cs p vs).toArray,?_,?_,?_⟩
 · simp only [w5,execOp,br,ai,hy]
   rw [WB _ _ _ LO]
   simp only [List.append_assoc,hlen] at h
   have ri:=ad
   unfold Value.cells at ri
   simp [go_sem,Instr.storeAt,storeVar,a5,ri,hlen,h]
 · refine ⟨rfl,rfl,rfl,by simp [World.setRow],fun k _ af=>?_⟩
   simp only [World.setRow,Array.getElem?_modify]
   rw [if_neg (by simpa [eq_comm] using af)]
 · show (w.setRow g _).heap[g]? =_
   simp [World.setRow,Array.getElem?_modify,iD]
end
section
variable {P:Program} {o:Oper} {a:Act} {w:World} {x y:Operand} {t e:TypeId}
def K8 (a:Act):List (Nat × Operand)->List (Nat × Value)->Prop
 | [],[]=>True
 | (i,x)::xs,(j,v)::vs=>(a.eval x=v/\i=j)/\K8 a xs vs
 | _,_=>False
theorem QQ:∀ {xs:List (Nat × Operand)} {vs:List (Nat × Value)},K8 a xs vs->xs.map (fun p=>(p.1,a.eval p.2))=vs
 | [],[],_=>rfl
 | (i,x)::xs,(j,v)::vs,h=>by
   obtain ⟨⟨aC,rfl⟩,aU⟩:=h
   rw [List.map_cons,QQ aU,aC]
def placesOf (P:Program) (t:TypeId):Sem (Array (Nat × Nat)):=(match P.underlying t with | some (.struct gK)=>gK | _=>#[]).mapM fun (f:Field)=>do pure (f.offset,<-Go.sizeOf f.type)
theorem gk {z:Value} {gK:Array Field} {pl:Array (Nat × Nat)} {xs:List (Nat × Operand)} {vs:List (Nat × Value)} {cs:List Value} (c0:∀ w,(zeroValue t).run P w= .ok z w) (hu:P.underlying t=some (.struct gK))
 (b3:∀ w,(placesOf P t).run P w= .ok pl w) (br:o.op= .build t xs.toArray) (ai:K8 a xs vs) (RZ:Instr.fill (fun i=>pl[i]?) z.cells vs=some cs.toArray):cg P o a w (.agg cs.toArray) w:=by
 have xW:=b3 w
 simp only [placesOf,hu] at xW
 have aC:=QQ ai
 simp only [cg,execOp,br,Instr.build,Sem.run_bind,c0,Result.andThen_ok,run_underlying hu,xW,List.map_toArray]
 have e:(xs.map fun (i,x)=>(i,a.eval x))=vs:=aC
 simp only [e,RZ]
 rfl
theorem fX {z:Value} {sz n:Nat} {xs:List (Nat × Operand)} {vs:List (Nat × Value)} {cs:List Value} (hu:P.underlying t=some (.slice e)) (a5:∀ w,(Go.sizeOf e).run P w= .ok sz w) (c0:∀ w,(zeroValue e).run P w= .ok z w)
 (hle:Nat.ble (n*sz) 16777216 =true) (e6:Nat.beq (n*sz) 0 =false) (br:o.op= .buildSlice t n xs.toArray) (ai:K8 a xs vs)
 (RZ:Instr.fill (fun i=>some (i*sz,sz)) ((Array.range (n*sz)).map (z.cells[· % z.cells.size]!)) vs=some cs.toArray) :
 cg P o a w (.slice (some ⟨w.heap.size,0,none⟩) n n) (w.alloc (.cells cs.toArray e)):=by
 have aC:=QQ ai
 have bO:(xs.map fun (i,x)=>(i,a.eval x))=vs:=aC
 have aU: ¬ (n*sz > 2 ^ 24):=by have:=Nat.le_of_ble_eq_true hle;omega
 have bS:n*sz≠ 0 :=by intro bE;rw [bE] at e6;simp at e6
 simp only [cg,execOp,br,Instr.buildSlice,Sem.run_bind,Sem.run_pure,a5,c0,Result.andThen_ok,run_underlying hu,List.map_toArray,bO,if_neg aU,if_neg bS,RZ]
 rfl
theorem aIO {ep:TypeId} {m n:Int} (br:o.op= .binOp .or t x y ep) (ai:a.eval x= .int .i64 m) (hy:a.eval y= .int .i64 n):cg P o a w (.int .i64 (WS m n)) w:=by
 unfold WS
 rw [<-yT]
 simp only [cg,execOp,br,ai,hy]
 rfl
theorem aIg {ep:TypeId} {m n:Int} (br:o.op= .binOp .and t x y ep) (ai:a.eval x= .int .i64 m) (hy:a.eval y= .int .i64 n):cg P o a w (.int .i64 (P5 m n)) w:=by
 unfold P5
 rw [<-yT]
 simp only [cg,execOp,br,ai,hy]
 rfl
end
end a2
namespace a2
open Go Go.RowKit J
section
variable {P:Program} {ops:Array Oper} {Q:Exit->Act->World->Prop} {a:Act} {w aD:World} {rest:List Oper} {o:Oper} {n:hb} {d:Nat} {l:List (Nat × Value)} {v:Value}
theorem DM (dd:o.guard=none):Region.wanted o (yielded ops a.tmps)=true:=by simp [Region.wanted,dd]
theorem bQ (hw:Region.wanted o (yielded ops a.tmps)=true) (hy:cg P o a w v aD) (I:Fr n l a) (bT:o.dst=some d) (af:Nat.blt d n=true) (k:∀ bM,Fr n ((d,v)::l) bM->wpList P ops Q rest bM aD):wpList P ops Q (o::rest) a w:=by
 refine wpList_step fun K hs=>?_
 rw [if_pos hw]
 unfold Oper.wp
 rw [show (execOp a.eval o).run P w=_ from hy]
 show K (a.put o.dst v) aD
 rw [bT]
 exact hs _ _ (k _ (I.put af))
theorem Nw (hw:Region.wanted o (yielded ops a.tmps)=true) (hy:w5 P o a w aD) (bT:o.dst=none) (k:wpList P ops Q rest a aD):wpList P ops Q (o::rest) a w:=by
 refine wpList_step fun K hs=>?_
 rw [if_pos hw]
 unfold Oper.wp
 rw [show (execOp a.eval o).run P w=_ from hy]
 show K (a.put o.dst undef) aD
 rw [bT]
 exact hs _ _ k
theorem c1 {j dT:Nat} {b:Bool} (I:Fr n l a) (dd:o.guard=some (j,b)) (bb:(ops[j]?).bind (·.dst)=some dT) (az:ft l dT=some (.bool b)) (af:Nat.blt dT n=true):Region.wanted o (yielded ops a.tmps)=true:=by
 have eh:dT <n:=Nat.le_of_ble_eq_true af
 have h:=I.get dT _ az
 have a5:=I.size
 have aU:a.tmps[dT]? =some (.bool b):=by
  rw [Array.getElem?_eq_getElem (by omega)]
  simpa [Array.getD_eq_getD_getElem?,a5,eh] using h
 simp [Region.wanted,dd,yielded,bb,aU]
theorem aHn {j dT:Nat} {b tv:Bool} (I:Fr n l a) (dd:o.guard=some (j,b)) (bb:(ops[j]?).bind (·.dst)=some dT) (az:ft l dT=some (.bool tv)) (e6:(tv == b)=false) (af:Nat.blt dT n=true):Region.wanted o (yielded ops a.tmps)=false:=by
 have eh:dT <n:=Nat.le_of_ble_eq_true af
 have h:=I.get dT _ az
 have a5:=I.size
 have aU:a.tmps[dT]? =some (.bool tv):=by
  rw [Array.getElem?_eq_getElem (by omega)]
  simpa [Array.getD_eq_getD_getElem?,a5,eh] using h
 simpa [Region.wanted,dd,yielded,bb,aU] using e6
theorem aHo {j dT:Nat} {b:Bool} (I:Fr n l a) (dd:o.guard=some (j,b)) (bb:(ops[j]?).bind (·.dst)=some dT) (az:ft l dT=some undef) (af:Nat.blt dT n=true):Region.wanted o (yielded ops a.tmps)=false:=by
 have eh:dT <n:=Nat.le_of_ble_eq_true af
 have h:=I.get dT _ az
 have a5:=I.size
 have aU:a.tmps[dT]? =some undef:=by
  rw [Array.getElem?_eq_getElem (by omega)]
  simpa [Array.getD_eq_getD_getElem?,a5,eh] using h
 simp [Region.wanted,dd,yielded,bb,aU,undef]
def xC (a:Act):List Operand->List Value->Prop
 | [],[]=>True
 | x::xs,v::vs=>a.eval x=v/\xC a xs vs
 | _,_=>False
theorem K_:∀ {xs:List Operand} {vs:List Value},xC a xs vs->xs.map a.eval=vs
 | [],[],_=>rfl
 | x::xs,v::vs,h=>by rw [List.map_cons,h.1,K_ h.2]
theorem aHt {f:FuncId} {xs:List Operand} {kU:Array TypeId} {vs:List Value} {R:Ending->World->Prop} {K:Act->World->Prop}
 (br:o.op= .call { callee:=.value (.func f),args:=xs.toArray,argTypes:=kU }) (z1:∀ args w,(callFunc f args).run P w= .ok (.enter f args) w)
 (hA:xC a xs vs) (hc:Calls P f vs.toArray w R) (k:∀ e aD,R e aD-> ∃ v,e= .returned v/\K (a.put o.dst v) aD):o.wp P a w K Q:=by
 unfold Oper.wp
 have e:(execOp a.eval o).run P w= .ok (.enter f vs.toArray) w:=by
  have aC:=K_ hA
  simp only [execOp,br,resolve,List.map_toArray,aC]
  simp [go_sem,Act.eval,Deferred.ofValue,invoke,z1]
 rw [e]
 exact hc.mono fun e aD bU=>by
  obtain ⟨v,rfl,bh⟩:=k e aD bU
  exact bh
theorem bP {f:FuncId} {xs:List Operand} {kU:Array TypeId} {vs:List Value} {R:Ending->World->Prop} (hw:Region.wanted o (yielded ops a.tmps)=true)
 (br:o.op= .call { callee:=.value (.func f),args:=xs.toArray,argTypes:=kU }) (z1:∀ args w,(callFunc f args).run P w= .ok (.enter f args) w)
 (hA:xC a xs vs) (hc:Calls P f vs.toArray w R) (I:Fr n l a) (bT:o.dst=some d) (af:Nat.blt d n=true)
 (k:∀ e aD,R e aD-> ∃ v,e= .returned v/\ ∀ bM,Fr n ((d,v)::l) bM->wpList P ops Q rest bM aD):wpList P ops Q (o::rest) a w:=by
 refine wpList_step fun K hs=>?_
 rw [if_pos hw]
 refine aHt br z1 hA hc fun e aD bU=>?_
 obtain ⟨v,he,bh⟩:=k e aD bU
 rw [bT]
 exact ⟨v,he,hs _ _ (bh _ (I.put af))⟩
end
section
variable {P:Program} {Q:Exit->Act->World->Prop} {a:Act} {w:World}
theorem cA {c:Code} (n5:Nat->Act->World->Prop) (k:Nat) (h:n5 k a w) (bE:∀ a w,¬ n5 0 a w)
 (round:∀ k a w,n5 (k+ 1) a w-> ∀ K:Act->World->Prop,(∀ a w,n5 k a w->K a w)->c.wp P (Exit.then K Q) a w):(Code.loop c).wp P Q a w:=
 wp_loop_ghost n5 k h fun m a w CD=>by
  cases m with
  | zero=>exact absurd CD (bE a w)
  | succ m=>exact round m a w CD _ fun bM aD dP=>⟨m,Nat.lt_succ_self m,dP⟩
theorem qY {x y:Code} (lx:Act->World->Prop) (ai:∀ K:Act->World->Prop,(∀ a w,lx a w->K a w)->x.wp P (Exit.then K Q) a w) (hy:∀ a w,lx a w->y.wp P Q a w):(Code.seq x y).wp P Q a w:=
 wp_seq (ai _ hy)
theorem AU {fn:Func} {R:Ending->World->Prop} {n:Nat} {l:List (Nat × Value)} (bU:fn.results= #[]) (I:Fr ⟨n,[]⟩ l a) (h:R (.returned (.tuple #[])) w):bodyPost P fn R .ret a w:=
 ⟨I.defers,_,results_none bU _ _ _,h⟩
theorem bn {fn:Func} {R:Ending->World->Prop} {n:Nat} {t:Nat} {l:List (Nat × Value)} {v:Value} (bU:fn.results= #[.tmp t]) (I:Fr ⟨n,[]⟩ l a) (az:ft l t=some v) (h:R (.returned v) w):bodyPost P fn R .ret a w:=
 ⟨I.defers,_,results_tmp bU _ _ _,by rw [I.get _ _ az];exact h⟩
theorem g5 {fn:Func} {R:Ending->World->Prop} {n:Nat} {t u:Nat} {l:List (Nat × Value)} {v rM:Value} (bU:fn.results= #[.tmp t,.tmp u]) (I:Fr ⟨n,[]⟩ l a) (az:ft l t=some v) (pr:ft l u=some rM)
 (h:R (.returned (.tuple #[v,rM])) w):bodyPost P fn R .ret a w:=
 ⟨I.defers,_,results_tmp2 bU _ _ _,by rw [I.get _ _ az,I.get _ _ pr];exact h⟩
def afP (P:Program) (a:Act) (w:World):ResultVar->Value->Prop
 | .tmp t,v=>a.tmps.getD t undef=v
 | .cell cc ty,v=>∃ b p,a.tmps.getD cc undef= .pointer (some ⟨b,p,none⟩) /\
  ((∃ cs:List Value,(∀ w,(isAgg ty).run P w= .ok true w)/\(∀ w,(Go.sizeOf ty).run P w= .ok cs.length w)/\iO w ⟨b,p,none⟩ cs/\v= .agg cs.toArray) \/
   ((∀ w,(isAgg ty).run P w= .ok false w)/\w.cell? ⟨b,p,none⟩=some v))
def XW (P:Program) (a:Act) (w:World):List ResultVar->List Value->Prop
 | [],[]=>True
 | r::vt,v::vs=>afP P a w r v/\XW P a w vt vs
 | _,_=>False
def pack:List Value->Value
 | [v]=>v
 | vs=>.tuple vs.toArray
def Ni (a:Act):ResultVar->Sem Value
 | .tmp t=>pure (a.tmps.getD t undef)
 | .cell cc t=>do loadVar t (<-asAddr (a.tmps.getD cc undef))
theorem aGI {r:ResultVar} {v:Value} (h:afP P a w r v):(Ni a r).run P w= .ok v w:=by
 cases r with
 | tmp t=>exact congrArg (fun x=>Result.ok x w) h
 | cell cc ty=>
   obtain ⟨b,p,aC,aU⟩:=h
   simp only [Ni,aC]
   rcases aU with ⟨cs,dd,a5,hc,rfl⟩ | ⟨dd,hc⟩
   · have az:=run_loadCells_list (P:=P) w ⟨b,p,none⟩ cs (fun j u bb=>by rw [qM];exact hc j u bb)
     unfold loadCells at az
     simp [go_sem,loadVar,asAddr,dd,a5,az]
   · simp [go_sem,loadVar,asAddr,dd,hc]
theorem afS:∀ {vt:List ResultVar} {vs:List Value},XW P a w vt vs->(vt.mapM (Ni a)).run P w= .ok vs w
 | [],[],_=>rfl
 | r::vt,v::vs,h=>by
   have aC:=aGI h.1
   have aU:=afS h.2
   rw [List.mapM_cons]
   simp only [Sem.run_bind,aC,aU,Result.andThen_ok]
   rfl
theorem gR {fn:Func} {R:Ending->World->Prop} {n:Nat} {l:List (Nat × Value)} {vt:List ResultVar} {vs:List Value} (bU:fn.results=vt.toArray) (I:Fr ⟨n,[]⟩ l a) (ad:XW P a w vt vs)
 (h:R (.returned (pack vs)) w):bodyPost P fn R .ret a w:=by
 refine ⟨I.defers,pack vs,?_,h⟩
 have aC:=afS ad
 unfold results
 have e:(fun x=>match x with | .tmp t=>pure (a.tmps.getD t undef) | .cell cc t=>do loadVar t (<-asAddr (a.tmps.getD cc undef)):ResultVar->Sem Value)=Ni a:=by
  funext x;cases x <;> rfl
 rw [bU,List.mapM_toArray]
 simp only [Sem.run_bind]
 show Result.andThen (((List.toArray <$> vt.mapM (fun x=>match x with | .tmp t=>pure (a.tmps.getD t undef) | .cell cc t=>do loadVar t (<-asAddr (a.tmps.getD cc undef)):ResultVar->Sem Value))).run P w) _=_
 rw [e,map_eq_pure_bind,Sem.run_bind,aC]
 match vs with
 | []=>rfl
 | [v]=>rfl
 | v::u::r=>rfl
end
section
variable {P:Program} {ops:Array Oper} {Q:Exit->Act->World->Prop} {a:Act} {w:World} {rest:List Oper} {o:Oper} {n:hb} {d:Nat} {l:List (Nat × Value)}
 {W:World} {M0 X:List Nat} {E:List aq} {D:List al}
theorem au.new (hm:au W M0 X w E D) (t:TypeId) (cs:List Value):au W M0 X (w.alloc (.cells cs.toArray t)) (aq.bm w.heap.size t cs::E) D:=
 hm.push _ (a'.alloc _ _ _) (ahO w t cs) (fun k bh=>by simp [aq.bm] at bh;subst bh;exact ⟨Nat.le_refl _,by simp⟩) (by simp [aq.bm])
theorem cx {g p sz:Nat} {t o7:TypeId} {x y:Operand} {cs vs:List Value} {v:Value} (i:Nat) (hm:au W M0 X w E D) (hi:E[i]? =some (aq.bm g o7 cs)) (hw:Region.wanted o (yielded ops a.tmps)=true)
 (ad:v.cells=vs.toArray) (a5:∀ w,(Go.sizeOf t).run P w= .ok sz w) (az:Nat.beq vs.length sz=true) (aC:vs.all (·.oneCell')=true) (hle:Nat.ble (p+vs.length) cs.length=true)
 (br:o.op= .store t x y) (ai:a.eval x= .pointer (some ⟨g,p,none⟩)) (hy:a.eval y=v) (bT:o.dst=none)
 (k:∀ aD,au W M0 X aD (E.set i (aq.bm g o7 (lay cs p vs))) D->wpList P ops Q rest a aD):wpList P ops Q (o::rest) a w:=by
 obtain ⟨aD,aC,aU,bS⟩:=ag7 ad a5 az aC hle (hm.e i hi) br ai hy
 exact Nw hw aC bT (k aD (hm.vA i hi aU bS (by simp [aq.bm]) (fun k bh=>.inl bh)))
theorem au.cV {α:Type} (hm:au W M0 X w E D) (e:TypeId) (size:Nat):au W M0 X w (aq.row e size (.slice none 0 0) ([]:List α) []::E) D:=
 hm.push _ (a'.refl _ _) (World.ownsRow_nil w 0 e size) (fun k bh=>by simp [aq.row,Value.ownBlock] at bh) (by simp [aq.row,Value.ownBlock])
theorem WR (o:Option Nat):o.toList.Nodup:=by cases o <;> simp
theorem aec {e:TypeId} {z:Value} {sz bytes:Nat} (h:(P.info? e).map (fun i=>(i.zero,i.size,i.bytes))=some (some z,sz,bytes)):∃ i,P.info? e=some i/\i.zero=some z/\i.size=sz/\i.bytes=bytes:=by
 cases hi:P.info? e with
 | none=>rw [hi] at h;cases h
 | some i=>
   rw [hi] at h
   simp only [Option.map_some,Option.some.injEq,Prod.mk.injEq] at h
   exact ⟨i,rfl,h.1,h.2.1,h.2.2⟩
end
end a2
namespace a2
open Go Go.RowKit J
section
variable {P:Program} {ops:Array Oper} {C:World->Prop} {nd:Act->Prop} {a:Act} {w:World} {rest:List Oper} {o:Oper} {n:hb} {d:Nat} {l:List (Nat × Value)} {v:Value}
theorem eM (hw:Region.wanted o (yielded ops a.tmps)=true) (hy:∀ w,C w->cg P o a w v w) (I:Fr n l a) (bT:o.dst=some d) (af:Nat.blt d n=true) (k:∀ bM,Fr n ((d,v)::l) bM->wpQuiet P ops C nd rest bM):wpQuiet P ops C nd (o::rest) a:=by
 unfold wpQuiet
 rw [if_pos hw]
 refine ⟨v,fun w hc=>?_,?_⟩
 · unfold Oper.quietAt
   rw [show (execOp a.eval o).run P w=_ from hy w hc]
   exact ⟨rfl,rfl⟩
 · rw [bT];exact k _ (I.put af)
theorem hF {id:Nat} {Q:Exit->Act->World->Prop} {l:List Oper} (hm:P.follows .mixedOrders=true) (ik:Region.lexB .any l.toArray=true)
 (h:wpQuiet P l.toArray (fun aD=>a' [] w aD) (fun a=>∀ aD,a' [] w aD->Q .normal a aD) l a):(Code.region id l.toArray true).wp P Q a w:=
 wp_region_quiet (C:=fun aD=>a' [] w aD) hm ik (a'.drew [] w) (by
  refine Eq.mp ?_ h
  rw [List.toList_toArray]) |> fun h=>wp_mono h (fun e a w q=>q)
end
theorem akr {w aD:World} {p:Addr} {v:Value} (h:a' [] w aD) (hc:w.cell? p=some v):aD.cell? p=some v:=
 (World.cell?_of_block (h.block p.block (World.block_lt_of_cell? w p hc) (by simp))).trans hc
theorem b9 {w aD:World} {p:Addr} {cs:List Value} (h:a' [] w aD) (hc:iO w p cs):iO aD p cs:=fun j u bb=>akr h (hc j u bb)
section
variable {P:Program} {Q:Exit->Act->World->Prop} {K:Act->World->Prop} {a:Act} {w:World}
theorem bx {i:Nat} (h:Q (.exit i) a w):Exit.then K Q (.exit i) a w:=h
theorem cw {i:Nat} (h:Q .normal a w):Exit.inBlock i Q (.exit i) a w:=by simpa [Exit.inBlock] using h
theorem aHx {i j:Nat} (a1:Nat.beq j i=false) (h:Q (.exit j) a w):Exit.inBlock i Q (.exit j) a w:=by
 have:j≠i:=by intro e;subst e;simp at a1
 simpa [Exit.inBlock,this] using h
theorem ak (h:Q .ret a w):Exit.then K Q .ret a w:=h
theorem a6 {i:Nat} (h:Q .ret a w):Exit.inBlock i Q .ret a w:=h
theorem cb {id:Nat} {c:Code} (lx:Act->World->Prop) (ai:∀ K:Act->World->Prop,(∀ a w,lx a w->K a w)->c.wp P (Exit.inBlock id (Exit.then K Q)) a w) (hy:∀ a w,lx a w->Q .normal a w):(Code.block id c).wp P Q a w:=by
 refine wp_block (wp_mono (ai _ hy) ?_)
 intro e a w h
 cases e with
 | exit i=>
   by_cases hi:i=id
   · simpa [Exit.inBlock,Exit.then,hi] using h
   · simpa [Exit.inBlock,Exit.then,hi] using h
 | _=>exact h
theorem aY {id:Nat} {l:List Oper} (h:wpList P l.toArray Q l a w):(Code.region id l.toArray false).wp P Q a w:=wp_region_lit h
theorem eN {c:Operand} {x y:Code} {b:Bool} (hc:a.eval c= .bool b) (a1:b=true) (h:x.wp P Q a w):(Code.cond c x y).wp P Q a w:=wp_cond_true (by rw [hc,a1]) h
theorem ij {c:Operand} {x y:Code} {b:Bool} (hc:a.eval c= .bool b) (a1:b=false) (h:y.wp P Q a w):(Code.cond c x y).wp P Q a w:=wp_cond_false (by rw [hc,a1]) h
end
section
variable {W w:World} {M0 X:List Nat} {E:List aq} {D:List al}
def MI (D:List al):List al->Prop
 | []=>True
 | y::r=>(∃ i:Nat,D[i]? =some y)/\MI D r
theorem afr {D:List al}:∀ {ha:List al},MI D ha-> ∀ y ∈ ha,y ∈ D
 | [],_,y,hy=>by simp at hy
 | z::r,h,y,hy=>by
   rcases List.mem_cons.1 hy with rfl | e
   · obtain ⟨i,hi⟩:=h.1;exact List.mem_of_getElem? hi
   · exact afr h.2 y e
theorem au.pick (h:au W M0 X w E D) {ha:List al} (a5:MI D ha):au W M0 X w E ha:=h.less (afr a5)
theorem au.FU (h:au W M0 X w E D) (i:Nat):au W M0 X w (E.eraseIdx i) D:=h.drop (List.eraseIdx_sublist E i)
theorem au.freeze {α:Type} {T:fl α} {e:TypeId} {A:Option Addr} {n c:Nat} {l:List α} {xs:List Value} (h:au W M0 X w E D) (i j:Nat) (hi:E[i]? =some (aq.row e T.size (.slice A n c) l xs)) (bb:D[j]? =some (al.rows T xs l)) :
 au W M0 X w (E.eraseIdx i) (al.of (aH T) [.slice A n c] l::D):=by
 have aC:=h.FU i
 refine aC.more (aGw (h.e i hi) (aC.d j bb) ?_)
 intro k bh kc
 rcases List.mem_append.1 kc with bO | bO
 · have eh:=h.lS k bO
   rcases (h.lt k (List.mem_flatMap.2 ⟨_,List.mem_of_getElem? hi,bh⟩)).2 with b4 | b4
   · exact eh.2 b4
   · omega
 · obtain ⟨az,ai⟩:=List.getElem?_eq_some_iff.1 hi
   have gq:E=E.take i++E[i]::E.drop (i+ 1):=by simp
   have bT:=h.dT
   rw [gq,ai] at bT
   have b4:cP (E.take i++aq.row e T.size (.slice A n c) l xs::E.drop (i+ 1))=cP (E.take i)++((aq.row e T.size (.slice A n c) l xs).fI++cP (E.drop (i+ 1))):=by simp [cP]
   rw [b4,List.nodup_append,List.nodup_append] at bT
   rw [List.eraseIdx_eq_take_drop_succ] at bO
   rcases List.mem_append.1 (by simpa [cP] using bO:k ∈ cP (E.take i)++cP (E.drop (i+ 1))) with eu | eu
   · exact bT.2.2 k eu k (List.mem_append.2 (.inl bh)) rfl
   · exact bT.2.1.2.2 k bh k eu rfl
theorem au.lC {g:Nat} {t:TypeId} {cs:List Value} (h:au W M0 X w E D) (i:Nat) (hi:E[i]? =some (aq.bm g t cs)):au W M0 X w (E.eraseIdx i) (al.cU g cs::D):=by
 have aC:=h.FU i
 refine aC.more ⟨?_,w8 (h.e i hi),fun j u bb=>?_⟩
 · intro kc
   have bh:g ∈ (aq.bm g t cs).fI:=by simp [aq.bm]
   rcases List.mem_append.1 kc with bO | bO
   · have eh:=h.lS g bO
     rcases (h.lt g (List.mem_flatMap.2 ⟨_,List.mem_of_getElem? hi,bh⟩)).2 with b4 | b4
     · exact eh.2 b4
     · omega
   · obtain ⟨az,ai⟩:=List.getElem?_eq_some_iff.1 hi
     have gq:E=E.take i++E[i]::E.drop (i+ 1):=by simp
     have bT:=h.dT
     rw [gq,ai] at bT
     have b4:cP (E.take i++aq.bm g t cs::E.drop (i+ 1))=cP (E.take i)++((aq.bm g t cs).fI++cP (E.drop (i+ 1))):=by simp [cP]
     rw [b4,List.nodup_append,List.nodup_append] at bT
     rw [List.eraseIdx_eq_take_drop_succ] at bO
     rcases List.mem_append.1 (by simpa [cP] using bO:g ∈ cP (E.take i)++cP (E.drop (i+ 1))) with eu | eu
     · exact bT.2.2 g eu g (List.mem_append.2 (.inl bh)) rfl
     · exact bT.2.1.2.2 g bh g eu rfl
 · have:=B4 (h.e i hi) bb
   simpa using this
end
end a2
namespace a2
open Go Go.RowKit J
def hB (n:Nat):List Nat->Array Bool
 | []=>Array.replicate n false
 | i::d=>(hB n d).setIfInBounds i true
def BP (K:Act->World->Prop) (Q:Exit->Act->World->Prop):Exit->Act->World->Prop
 | .normal,a,w=>K a w
 | e,a,w=>Q e a w
section
variable {P:Program} {ops:Array Oper} {Q:Exit->Act->World->Prop} {a:Act} {w:World} {o:Oper} {n:hb} {f d i:Nat} {ds:List Nat} {l:List (Nat × Value)} {v:Value}
def Nx (ops:Array Oper) (ds:List Nat) (i:Nat):Bool:=Region.noSelect ops && Region.free .any ops (hB ops.size ds) i && (Region.ready .any ops (hB ops.size ds)).contains i
theorem aHs {K:Act->World->Prop} {Q:Exit->Act->World->Prop} (h:o.wp P a w K (BP K Q)):o.wp P a w K Q:=by
 unfold Oper.wp at *
 generalize (execOp a.eval o).run P w=r at *
 cases r with
 | ok n aD=>
   cases n <;> simp only [Oper.upon] at h ⊢ <;>
    first
     | exact h
     | exact Calls.mono h (fun e agf he=>by cases e <;> first | exact he | exact he)
 | halt x aD=>cases x <;> simp only [Oper.upon] at h ⊢ <;> exact h
theorem Yk {K:Act->World->Prop} (hi:ops[i]? =some o) (h:wpList P ops (BP K (NoPanic Q)) [o] a w):wpOp P ops (NoPanic Q) i K a w:=by
 unfold wpOp
 simp only [hi]
 unfold wpList at h
 split at h
 · rename_i hw
   rw [if_pos hw]
   rcases h with h | ⟨aC,aU⟩
   · exact .inl (aHs h)
   · exact .inr ⟨aC,aU.elim fun a h=>h.elim fun w h=>⟨a,w,h⟩⟩
 · rename_i hw
   rw [if_neg hw]
   exact h
end
section
variable {P:Program} {o:Oper} {a:Act} {w:World} {t ep:TypeId} {x y:Operand} {gK:Array Field} {xs ys:Array Value} {b:Bool}
theorem aIp (bA:P.underlying t=some (.struct gK)) (b3:P.stoodInHeld t=false) (hm:P.eqGuardType P.depth t=false)
 (bU:(Op.eqFields 9999 xs ys gK.toList).run P w= .ok b w) (br:o.op= .binOp .eql t x y ep) (ai:a.eval x= .agg xs) (hy:a.eval y= .agg ys):cg P o a w (.bool b) w:=by
 have I:P.fieldsOf t=gK:=by simp [Program.fieldsOf,bA]
 have h:=run_equalIn_struct (P:=P) w 9999 t xs ys (by rw [I];exact bA) b3
 rw [I,bU] at h
 have h:(Op.equalIn 10000 t (Value.agg xs) (Value.agg ys)).run P w= .ok b w:=h
 simp only [cg,execOp,br,ai,hy]
 simp [go_sem,Op.equal,Op.maxDepth,h,run_eqGuard_agg w _ _ _ _ _ _ hm]
theorem Pu (bA:P.underlying t=some (.struct gK)) (b3:P.stoodInHeld t=false) (hm:P.eqGuardType P.depth t=false)
 (bU:(Op.eqFields 9999 xs ys gK.toList).run P w= .ok b w) (br:o.op= .binOp .neq t x y ep) (ai:a.eval x= .agg xs) (hy:a.eval y= .agg ys):cg P o a w (.bool (!b)) w:=by
 have I:P.fieldsOf t=gK:=by simp [Program.fieldsOf,bA]
 have h:=run_equalIn_struct (P:=P) w 9999 t xs ys (by rw [I];exact bA) b3
 rw [I,bU] at h
 have h:(Op.equalIn 10000 t (Value.agg xs) (Value.agg ys)).run P w= .ok b w:=h
 simp only [cg,execOp,br,ai,hy]
 simp [go_sem,Op.equal,Op.maxDepth,h,run_eqGuard_agg w _ _ _ _ _ _ hm]
theorem Cy {d:Nat}:(Op.eqFields d xs ys []).run P w= .ok true w:=rfl
theorem xy {d:Nat} {f:Field} {l:List Field} {k:IntKind} {m n:Int} {e:Prop} [Decidable e] (af:(f.name != "_")=true) (hu:P.underlying f.type=some (.int k)) (dd:∀ w,(isAgg f.type).run P w= .ok false w)
 (ai:xs[f.offset]? =some (.int k m)) (hy:ys[f.offset]? =some (.int k n)) (h:(Op.eqFields (d+ 1) xs ys l).run P w= .ok (decide e) w):(Op.eqFields (d+ 1) xs ys (f::l)).run P w= .ok (decide (m=n/\e)) w:=by
 have Ak:f.name≠ "_" :=by simpa using af
 simp only [Op.eqFields,Ak,if_true,ne_eq,not_false_iff,part,Sem.run_bind,dd,Result.andThen_ok,ai,hy,Bool.false_eq_true,if_false,Sem.run_pure,run_equalIn_int w d f.type k k m n hu]
 by_cases uo:m=n
 · subst uo;simp [h]
 · simp [uo,show (m == n)=false from by simpa using uo]
end
end a2
namespace a2
open Go Go.RowKit Go.ChangeShapes Go.WideShapes Go.Deep J
section
variable {H:Type} {enc:TypeId × Value->H} {P:Program}
theorem abL (az:laidOutB P=true) {W j2:World} {g':Nat->Bool}:∀ {vz:List TypeId} {vs:List Value} {ds:List (DataW H)} {rB:List MemPlace},DataW.TrodAll enc P W 0 (fun _=>true) true vz vs ds rB ->
 (vz.all fun t=>P.readableRec t && Nat.blt t P.types.size)=true->(∀ p ∈ rB,W.sameAt j2 p)->(∀ p ∈ rB,g' p.block=true)->DataW.TrodAll enc P j2 0 g' true vz vs ds rB
 | [],vs,ds,rB,h,_,_,_=>by obtain ⟨rfl,rfl,rfl⟩:=trodAll_nil h;exact trodAll_mk0
 | t::vz,vs,ds,rB,h,bU,a5,b3=>by
   obtain ⟨v,aKm,d,aJC,p,q,rfl,rfl,rfl,bE,aC⟩:=trodAll_cons h
   simp only [List.all_cons,Bool.and_eq_true] at bU
   exact trodAll_cons_mk (WideElems.Trod_stays az bU.1.1 (Nat.le_of_ble_eq_true bU.1.2) bE (fun x ai=>a5 x (List.mem_append_left _ ai)) (fun x ai=>b3 x (List.mem_append_left _ ai)))
    (abL az aC bU.2 (fun x ai=>a5 x (List.mem_append_right _ ai)) (fun x ai=>b3 x (List.mem_append_right _ ai)))
theorem aFS {f:Func} {s:ChangeSpec} {W j2:World} {args:Array Value} {ds gs:List (DataW H)} {before:List MemPlace} {o7:TypeId}
 (jl:DataW.Whole enc P f.params.toList s.vars false W args.toList ds gs before) (az:laidOutB P=true) (bU:(f.params.toList.all fun t=>P.readableRec t && Nat.blt t P.types.size)=true)
 (ad:s.vars= []) (R0:s.fn H ds= { results:=[.lit (.bool true)],args:=ds }) (a1:P.underlying o7=some .bool) (adM:f.resultTypes= #[o7]) (lL:a' [] W j2) :
 s.post enc P f false true false false W args (.bool true) j2:=by
 have ud:=lL.below
 have eh:∀ p ∈ before,p.block <W.heap.size:=fun p b3=>jl.lt p b3
 have aoA:=jl
 obtain ⟨p,q,gL,CG,HC,c0,af⟩:=jl
 rw [ad] at CG
 obtain ⟨rfl,rfl⟩:=trodVars_none CG
 simp only [List.append_nil] at HC
 subst HC
 have hold:∀ x ∈ before,(fun b=>decide (b <W.heap.size)) x.block=true:=fun x ai=>by simpa using eh x ai
 have Ro:∀ g':Nat->Bool,(∀ x ∈ before,g' x.block=true)->DataW.TrodAll enc P j2 0 g' true f.params.toList args.toList ds before:=
  fun g' sv=>abL az gL bU (fun x ai=>ud.same (eh x ai)) sv
 have adN:∀ (b:Nat) (g':Nat->Bool) (bT:Bool),DataW.TrodAll enc P j2 b g' bT f.resultTypes.toList ((Value.bool true).resultList f.resultTypes.size) [.lit (.bool true)] []:=fun b g' bT=>by
  rw [adM];exact trodAll_cons_mk (p:=[]) (shut_bool a1 true) trodAll_mk0
 have x1:∀ g':Nat->Bool,DataW.TrodVars enc P j2 g' s.vars [] []:=fun g'=>by rw [ad];rfl
 refine ⟨ds,[],before,[],before,[],aoA,?_,?_,?_,World.keptBut_mono (fun x ai=>⟨ai,Or.inr (by simpa using ai)⟩) (ud.frame (· ∈ before)),fun _=>?_⟩
 · simp only [List.append_nil,R0];exact adN _ _ _
 · simp only [List.append_nil,R0];exact Ro _ hold
 · simp only [List.append_nil,R0];exact x1 _
 · refine ⟨ok_one adM rfl (okWide_bool_mk a1 true),_,_,([]++before)++[],⟨[]++before,[],trodAll_append (Ro (fun _=>true) (fun _ _=>rfl)) (adN _ _ _),x1 _,rfl,?_,?_⟩,?_⟩
   · intro b off b3
     have pn:MemPlace.cell b off ∈ before:=by simpa using b3
     rw [ud.frozen (eh _ pn)]
     exact c0 b off pn
   · intro bK;simpa using af bK
   · intro x ai _;simpa using ai
theorem Z0 {W:World} {r:Reach} {w7:Nat} {g':Nat->Bool} {bT:Bool} {t:TypeId} {v:Value} {d:DataW H} {rB:List MemPlace} (bA:P.underlying t=some (.int .i64)) (pt:Value.okWide P W r w7 t v) (h:DataW.Trod enc P W 0 g' bT t v d rB) :
 ∃ n:Int,v= .int .i64 n/\ -9223372036854775808 <=n/\n<= 9223372036854775807 :=by
 obtain ⟨n,rfl,_,_,hw⟩:=open_int bA pt h
 exact ⟨n,rfl,by simpa [Lit.wf,IntKind.min,IntKind.max,IntKind.signed,IntKind.bits] using hw⟩
theorem afR {α:Type} {T:fl α} {F:Nat->Prop} {W:World} {b o:Nat} {R:α->Prop}:∀ m:Nat,(∀ i,i <m-> ∃ cs d,iO W ⟨b,o+i*T.size,none⟩ cs/\T.rd F W cs d/\R d) ->
 ∃ (l:List α) (xs:List Value),l.length=m/\fS T F W xs l/\iO W ⟨b,o,none⟩ xs/\ ∀ d ∈ l,R d
 | 0,_=>⟨[],[],rfl,rfl,fun j u bb=>by simp at bb,fun d bT=>by cases bT⟩
 | m+ 1,h=>by
   obtain ⟨l,xs,aC,aU,bS,ew⟩:=afR m (fun i hi=>h i (by omega))
   obtain ⟨cs,d,eb,eg,fH⟩:=h m (by omega)
   refine ⟨l++[d],xs++cs,by simp [aC],afJ (T:=T) eg aU,fun j u bb=>?_,fun e he=>?_⟩
   · have az:=XR (T:=T) aU
     rcases Nat.lt_or_ge j xs.length with eh | Ab
     · exact bS j u (by simpa [List.getElem?_append,eh] using bb)
     · rw [List.getElem?_append_right Ab] at bb
       have:=eb (j - xs.length) u bb
       rw [az,aC] at this
       rw [show o+j=o+m*T.size+(j - m*T.size) by rw [az,aC] at Ab;omega]
       simpa using this
   · rcases List.mem_append.1 he with bO | bO
     · exact ew e bO
     · simp at bO;subst bO;exact fH
end
end a2
namespace a2
open Go Go.RowKit Go.ChangeShapes Go.WideShapes Go.Deep J
def hV {H:Type} (P:Program) (enc:TypeId × Value->H) (N:Nat) (t:TypeId) {α:Type} (T:fl α) (R:α->Prop):Prop:=
 ∀ (W:World) (n:Nat) (cs:List Value) (x:DataW H × List MemPlace),DataW.trod enc P W 0 (fun _=>true) true n t cs=some x->(∀ p ∈ x.2,p.block <W.heap.size)->(∀ m ∈ x.1.weights P t,m<=N)-> ∃ d,T.rd (ib [] W) W cs d/\R d
def jg (n:Int):Prop:=-9223372036854775808 <=n/\n<= 9223372036854775807
section
variable {H:Type} {enc:TypeId × Value->H} {P:Program} {N:Nat} {t e:TypeId}
theorem yI (bA:P.underlying t=some .string):hV P enc N t bz (fun s=>s.length<=N):=by
 intro W n cs x h _ hw
 obtain ⟨s,rfl,rfl,_⟩:=DataW.trod_string bA h
 exact ⟨s.data.toList,rfl,hw _ (by simp [DataW.weights])⟩
theorem nK (bA:P.underlying t=some (.int .i64)):hV P enc N t (aj .i64) jg:=by
 intro W n cs x h _ _
 obtain ⟨z,rfl,_,c0⟩:=DataW.trod_int bA h
 exact ⟨z,rfl,by simpa [jg,Lit.wf,IntKind.min,IntKind.max,IntKind.signed,IntKind.bits] using c0⟩
theorem aGi (bA:P.underlying t=some .bool):hV P enc N t aHe (fun _=>True):=by
 intro W n cs x h _ _
 obtain ⟨b,rfl,_⟩:=DataW.trod_bool bA h
 exact ⟨b,rfl,trivial⟩
theorem afg {d:DataW H} {m:Nat} (hm:m ∈ d.weights P e):∀ {l:List (DataW H)},d ∈ l->m ∈ DataW.weightsAll P e l
 | [],h=>by cases h
 | x::r,h=>by
   simp only [DataW.weightsAll,List.mem_append]
   rcases List.mem_cons.1 h with rfl | h
   · exact .inl hm
   · exact .inr (afg hm h)
theorem rH {α:Type} {T:fl α} {R:α->Prop} (bA:P.underlying t=some (.slice e)) (kB:P.cellsOf e=T.size) (LQ:Nat.blt 0 T.size=true) (G9:hV P enc N e T R):hV P enc N t (aH T) (fun l=>l.length*P.bytesOf e<=N/\ ∀ d ∈ l,R d):=by
 have LQ:0 <T.size:=Nat.le_of_ble_eq_true LQ
 intro W n cs x h b3 hw
 rcases open_slice bA h with ⟨rfl,rfl⟩ | ⟨a,u_,cap,m,kh,D,ahF,rfl,_,az,hm,Aj,ai,hi⟩
 · exact ⟨[],⟨none,0,rfl,Nat.le_refl _,Nat.zero_le _,fun _=>rfl,fun h=>absurd rfl h⟩,by simp,fun d bT=>by cases bT⟩
 · have gB:m=cap:=by simpa using Aj
   subst gB
   have adx:x.2 =MemPlace.row a (m*P.cellsOf e)++(List.range m).flatMap ahF:=congrArg Prod.snd ai
   have adi:x.1 = .slice ((List.range u_).map D) ((List.range (m - u_)).map fun j=>D (u_+j)):=congrArg Prod.fst ai
   have x2:(u_+(m - u_))*P.bytesOf e<=N:=by
    refine hw _ ?_
    rw [adi]
    simp only [DataW.weights,bA,List.length_map,List.length_range]
    exact List.mem_cons_self
   have hlen:u_*P.bytesOf e<=N:=Nat.le_trans (Nat.mul_le_mul_right _ (Nat.le_add_right _ _)) x2
   by_cases bE:u_= 0
   · subst bE
     exact ⟨[],⟨some a,m,rfl,by simp,hm,fun h=>(by cases h),fun h=>absurd rfl h⟩,by simp,fun d bT=>by cases bT⟩
   · have oD:∀ i,i <u_-> ∃ cs d,(∀ j u,cs[j]? =some u->W.cell? (a.add (i*T.size+j))=some u)/\cs.length=T.size/\T.rd (ib [] W) W cs d/\R d:=fun i gb=>by
      have adr:i <m:=by omega
      obtain ⟨Cw,hc,oI⟩:=hi i adr
      obtain ⟨d,bT,il⟩:=G9 W kh Cw _ oI (fun p Uc=>b3 p (by
       rw [adx,List.mem_append]
       exact .inr (List.mem_flatMap.2 ⟨i,by simpa using adr,Uc⟩))) (fun k bh=>hw k (by
       rw [adi]
       simp only [DataW.weights,bA,List.mem_cons,List.mem_append]
       exact .inr (.inl (afg bh (List.mem_map.2 ⟨i,by simpa using gb,rfl⟩)))))
      rw [kB] at hc
      obtain ⟨_,nw,xK⟩:=World.cells?_some hc
      refine ⟨Cw,d,fun j u bb=>?_,nw,bT,il⟩
      have Hq:j <T.size:=by rw [<-nw];exact (List.getElem?_eq_some_iff.1 bb).1
      have:=xK j Hq
      rw [bb,Go.Deep.add_add] at this
      exact this
     have adP:a.spot=none:=by
      obtain ⟨cs,d,aC,aU,_⟩:=oD 0 (by omega)
      have:=aC 0 _ (List.getElem?_eq_getElem (by omega))
      unfold World.cell? at this
      split at this
      · split at this
        · cases this
        · rename_i a5;simpa [Addr.add] using a5
      · cases this
     obtain ⟨ab,ZX,aJa⟩:=a
     simp only at adP
     subst adP
     obtain ⟨l,xs,aC,aU,bS,ew⟩:=afR (T:=T) (F:=ib [] W) (W:=W) (b:=ab) (o:=ZX) (R:=R) u_ (fun i gb=>by
      obtain ⟨cs,d,eb,_,fH,iQ⟩:=oD i gb
      exact ⟨cs,d,fun j u bb=>by have:=eb j u bb;rw [qM] at this;simpa [Nat.add_assoc] using this,fH,iQ⟩)
     subst aC
     refine ⟨l,⟨_,m,rfl,az,hm,fun h=>(by cases h),fun _=>⟨rfl,⟨by simp,?_⟩,xs,aU,bS⟩⟩,hlen,ew⟩
     have pn:MemPlace.cell ab ZX ∈ x.2 :=by
      rw [adx,List.mem_append]
      left
      have:0 <m*P.cellsOf e:=Nat.mul_pos (by omega) (by omega)
      simp only [MemPlace.row,List.mem_map,List.mem_range]
      exact ⟨0,this,by simp⟩
     exact b3 _ pn
theorem afh {m:Nat}:∀ {vz:List TypeId} {l:List (DataW H)} {j:Nat} {u:TypeId} {d:DataW H},vz[j]? =some u->l[j]? =some d->m ∈ d.weights P u->m ∈ DataW.weightsEach P vz l
 | [],_,j,_,_,h,_,_=>by simp at h
 | _::_,[],j,_,_,_,h,_=>by simp at h
 | t::vz,x::l,0,u,d,aC,aU,hm=>by
   simp only [List.getElem?_cons_zero,Option.some.injEq] at aC aU
   subst aC;subst aU
   simp only [DataW.weightsEach,List.mem_append]
   exact .inl hm
 | t::vz,x::l,j+ 1,u,d,aC,aU,hm=>by
   simp only [DataW.weightsEach,List.mem_append]
   exact .inr (afh (j:=j) (by simpa using aC) (by simpa using aU) hm)
theorem ot {gK:Array Field} {W:World} {n:Nat} {cs:List Value} {x:DataW H × List MemPlace} (bA:P.underlying t=some (.struct gK)) (h:DataW.trod enc P W 0 (fun _=>true) true n t cs=some x) (b3:∀ p ∈ x.2,p.block <W.heap.size) (hw:∀ m ∈ x.1.weights P t,m<=N) :
 ∃ kh,cs.length=P.cellsOf t/\ ∀ (j:Nat) (f:Field),gK[j]? =some f-> ∃ y,DataW.trod enc P W 0 (fun _=>true) true kh f.type ((cs.drop f.offset).take (P.cellsOf f.type))=some y/\(∀ p ∈ y.2,p.block <W.heap.size)/\(∀ m ∈ y.1.weights P f.type,m<=N):=by
 obtain ⟨ys,kh,_,ai,az,aKf,dd⟩:=DataW.trod_struct bA h
 refine ⟨kh,az,fun j f bb=>?_⟩
 have Hq:j <gK.size:=(Array.getElem?_eq_some_iff.1 bb).1
 have hy:ys[j]? =some (ys[j]'(by omega)):=List.getElem?_eq_getElem _
 refine ⟨ys[j]'(by omega),by rw [dd j f bb,hy],fun p Uc=>b3 p ?_,fun m hm=>hw m ?_⟩
 · rw [ai]
   exact List.mem_flatMap.2 ⟨_,List.getElem_mem _,Uc⟩
 · rw [ai]
   simp only [DataW.weights,bA]
   refine afh (j:=j) (u:=f.type) (d:=(ys[j]'(by omega)).1) ?_ ?_ hm
   · rw [List.getElem?_map,Array.getElem?_toList,bb];rfl
   · rw [List.getElem?_map,hy];rfl
theorem gm {gK:Array Field} {W:World} {kh:Nat} {cs:List Value} (I:∀ (j:Nat) (f:Field),gK[j]? =some f-> ∃ y,DataW.trod enc P W 0 (fun _=>true) true kh f.type ((cs.drop f.offset).take (P.cellsOf f.type))=some y/\(∀ p ∈ y.2,p.block <W.heap.size)/\(∀ m ∈ y.1.weights P f.type,m<=N))
 (j:Nat) {f:Field} (bb:gK[j]? =some f) {t off k:Nat} (bA:f.type=t) (br:f.offset=off) (bh:P.cellsOf t=k) {r:List Value} (bU:(cs.drop off).take k=r):∃ y,DataW.trod enc P W 0 (fun _=>true) true kh t r=some y/\(∀ p ∈ y.2,p.block <W.heap.size)/\(∀ m ∈ y.1.weights P t,m<=N):=by
 obtain ⟨y,aC,aU,bS⟩:=I j f bb
 rw [bA,br] at aC
 rw [bA] at bS
 rw [bh,bU] at aC
 exact ⟨y,aC,aU,bS⟩
theorem ZU {v:Array Value} {l:List Value} (h:(Value.agg v).cells.toList=l):v=l.toArray:=by
 have h:v.toList=l:=h
 rw [<-h]
theorem Z1 {α:Type} {T:fl α} {R:α->Prop} {W:World} {v:Value} {d:DataW H} {rB:List MemPlace} (bU:hV P enc N t T R) (h:DataW.Trod enc P W 0 (fun _=>true) true t v d rB) (b3:∀ p ∈ rB,p.block <W.heap.size) (hw:∀ m ∈ d.weights P t,m<=N):∃ d',T.rd (ib [] W) W v.cells.toList d'/\R d':=by
 obtain ⟨n,af⟩:=h
 exact bU W n _ _ af b3 hw
end
end a2
namespace a2
open Go Go.RowKit J
inductive qE
 | i (k:IntKind)
 | b
 | s
 | U
def qE.ok (P:Program) (t:TypeId):qE->Prop
 | .i k=>P.underlying t=some (.int k)
 | .b=>P.underlying t=some .bool
 | .s=>P.underlying t=some .string
 | .U=>∃ e,P.underlying t=some (.slice e)
structure mf where
 nR:List (Nat × qE)
 ot:List (Nat × Nat × Nat)
 Iu:List (Nat × Option Nat)
def Ya (P:Program):List (Nat × qE)->Prop
 | []=>True
 | p::r=>p.2.ok P p.1 /\Ya P r
def PT (P:Program) (s j off:Nat):Prop:=∃ gK f sz,P.underlying s=some (.struct gK)/\gK[j]? =some f/\f.offset=off/\sz≠ 0 /\ ∀ w,(Go.sizeOf f.type).run P w= .ok sz w
def QU (P:Program):List (Nat × Nat × Nat)->Prop
 | []=>True
 | p::r=>PT P p.1 p.2.1 p.2.2 /\QU P r
def ZT (P:Program) (t:Nat):Option Nat->Prop
 | none=>∀ w,(isAgg t).run P w= .ok false w
 | some n=>(∀ w,(isAgg t).run P w= .ok true w)/\ ∀ w,(Go.sizeOf t).run P w= .ok n w
def X4 (P:Program):List (Nat × Option Nat)->Prop
 | []=>True
 | p::r=>ZT P p.1 p.2 /\X4 P r
structure r2 (P:Program) (G:mf):Prop where
 nR:Ya P G.nR
 ot:QU P G.ot
 Iu:X4 P G.Iu
theorem fw {P:Program} {s j off sz:Nat} {gK:Array Field} {f:Field} (h:P.underlying s=some (.struct gK)) (I:gK[j]? =some f) (br:f.offset=off) (a5:∀ w,(Go.sizeOf f.type).run P w= .ok sz w) (bE:Nat.beq sz 0 =false):PT P s j off:=
 ⟨gK,f,sz,h,I,br,(fun e=>by subst e;simp at bE),a5⟩
def oP {β:Type}:List (Nat × β)->Nat->Option β
 | [],_=>none
 | p::r,t=>match Nat.beq p.1 t with
   | true=>some p.2
   | false=>oP r t
def H6:List (Nat × Nat × Nat)->Nat->Nat->Option Nat
 | [],_,_=>none
 | p::r,s,j=>match Nat.beq p.1 s && Nat.beq p.2.1 j with
   | true=>some p.2.2
   | false=>H6 r s j
theorem A3 {P:Program} {l:List (Nat × qE)} (h:Ya P l) {t:Nat} {k:qE} (az:oP l t=some k):k.ok P t:=by
 induction l with
 | nil=>simp [oP] at az
 | cons p r cv=>
   simp only [oP] at az
   cases a1:Nat.beq p.1 t with
   | true=>
     rw [a1] at az
     simp only [Option.some.injEq] at az
     rw [<-Nat.eq_of_beq_eq_true a1,<-az];exact h.1
   | false=>rw [a1] at az;exact cv h.2 az
theorem af0 {P:Program} {l:List (Nat × Option Nat)} (h:X4 P l) {t:Nat} {k:Option Nat} (az:oP l t=some k):ZT P t k:=by
 induction l with
 | nil=>simp [oP] at az
 | cons p r cv=>
   simp only [oP] at az
   cases a1:Nat.beq p.1 t with
   | true=>
     rw [a1] at az
     simp only [Option.some.injEq] at az
     rw [<-Nat.eq_of_beq_eq_true a1,<-az];exact h.1
   | false=>rw [a1] at az;exact cv h.2 az
theorem akz {P:Program} {l:List (Nat × Nat × Nat)} (h:QU P l) {s j off:Nat} (az:H6 l s j=some off):PT P s j off:=by
 induction l with
 | nil=>simp [H6] at az
 | cons p r cv=>
   simp only [H6] at az
   cases a1:Nat.beq p.1 s && Nat.beq p.2.1 j with
   | true=>
     rw [a1] at az
     simp only [Option.some.injEq] at az
     simp only [Bool.and_eq_true] at a1
     rw [<-Nat.eq_of_beq_eq_true a1.1,<-Nat.eq_of_beq_eq_true a1.2,<-az];exact h.1
   | false=>rw [a1] at az;exact cv h.2 az
def iT (w:World):List (Nat × Nat × List Value)->Prop
 | []=>True
 | m::r=>iO w ⟨m.1,m.2.1,none⟩ m.2.2 /\iT w r
theorem ax {w:World}:iT w []:=trivial
theorem aw {w:World} {b p:Nat} {cs:List Value} {M:List (Nat × Nat × List Value)} (h:iO w ⟨b,p,none⟩ cs) (k:iT w M):iT w ((b,p,cs)::M):=⟨h,k⟩
theorem afe {w:World} {M:List (Nat × Nat × List Value)} (h:iT w M) {i b p:Nat} {cs:List Value} (hi:M[i]? =some (b,p,cs)):iO w ⟨b,p,none⟩ cs:=by
 induction M generalizing i with
 | nil=>simp at hi
 | cons m r cv=>
   cases i with
   | zero=>
     simp only [List.getElem?_cons_zero,Option.some.injEq] at hi
     subst hi
     exact h.1
   | succ i=>exact cv h.2 (by simpa using hi)
theorem aZ {w:World} {g:Nat} {t:TypeId} {cs:List Value} (h:(aq.bm g t cs).ok w):iO w ⟨g,0,none⟩ cs:=fun j u bb=>by
 have:=B4 h bb
 simpa using this
structure hp where
 t:Nat
 j:Nat
 want:Bool
 v:Value
def AV:List (Nat × Value)->Nat->List (Nat × Value)
 | [],_=>[]
 | p::r,d=>match Nat.beq p.1 d with
   | true=>AV r d
   | false=>p::AV r d
def rI:List hp->Nat->List hp
 | [],_=>[]
 | p::r,d=>match Nat.beq p.t d || Nat.beq p.j d with
   | true=>rI r d
   | false=>p::rI r d
def CH:List (Nat × Bool)->Nat->Bool->Bool
 | [],_,_=>false
 | p::r,j,b=>(Nat.beq p.1 j && (p.2 == b)) || CH r j b
def H7:List hp->List (Nat × Bool)->Nat->Option Value
 | [],_,_=>none
 | p::r,cur,t=>match Nat.beq p.t t && CH cur p.j p.want with
   | true=>some p.v
   | false=>H7 r cur t
def mr (a:Act):List hp->Prop
 | []=>True
 | p::r=>(a.tmps.getD p.j undef= .bool p.want->a.tmps.getD p.t undef=p.v)/\mr a r
def tN (a:Act):List (Nat × Bool)->Prop
 | []=>True
 | p::r=>a.tmps.getD p.1 undef= .bool p.2 /\tN a r
theorem aoH {a:Act} {cur:List (Nat × Bool)} (h:tN a cur) {j:Nat} {b:Bool} (h0:CH cur j b=true):a.tmps.getD j undef= .bool b:=by
 induction cur with
 | nil=>simp [CH] at h0
 | cons p r cv=>
   simp only [CH,Bool.or_eq_true,Bool.and_eq_true,beq_iff_eq] at h0
   rcases h0 with ⟨aC,aU⟩ | h0
   · rw [<-Nat.eq_of_beq_eq_true aC,<-aU];exact h.1
   · exact cv h.2 h0
theorem aE' {a:Act} {gs:List hp} (h:mr a gs) {cur:List (Nat × Bool)} (hc:tN a cur) {t:Nat} {v:Value} (az:H7 gs cur t=some v):a.tmps.getD t undef=v:=by
 induction gs with
 | nil=>simp [H7] at az
 | cons p r cv=>
   simp only [H7] at az
   cases a1:Nat.beq p.t t && CH cur p.j p.want with
   | true=>
     rw [a1] at az
     simp only [Option.some.injEq] at az
     simp only [Bool.and_eq_true] at a1
     rw [<-Nat.eq_of_beq_eq_true a1.1,<-az]
     exact h.1 (aoH hc a1.2)
   | false=>rw [a1] at az;exact cv h.2 az
def im (b0:List (Nat × Value)) (gs:List hp) (cur:List (Nat × Bool)):Operand->Option Value
 | .const v=>some v
 | .global g=>some (.pointer (some ⟨g,0,none⟩))
 | .tmp t=>match ft b0 t with
   | some v=>some v
   | none=>H7 gs cur t
 | .func _=>none
theorem MH {n:hb} {b0:List (Nat × Value)} {gs:List hp} {cur:List (Nat × Bool)} {a:Act} (I:Fr n b0 a) (dd:mr a gs) (hc:tN a cur) {x:Operand} {v:Value} (h:im b0 gs cur x=some v):a.eval x=v:=by
 cases x with
 | const u=>simp only [im,Option.some.injEq] at h;rw [<-h];rfl
 | global g=>simp only [im,Option.some.injEq] at h;rw [<-h];rfl
 | func f=>simp [im] at h
 | tmp t=>
   simp only [im] at h
   cases az:ft b0 t with
   | some u=>rw [az] at h;simp only [Option.some.injEq] at h;rw [<-h];exact I.g az
   | none=>rw [az] at h;exact aE' dd hc h
def Dr (b0:List (Nat × Value)) (gs:List hp) (cur:List (Nat × Bool)):List Operand->Option (List Value)
 | []=>some []
 | x::r=>match im b0 gs cur x,Dr b0 gs cur r with
   | some v,some vs=>some (v::vs)
   | _,_=>none
theorem WO {n:hb} {b0:List (Nat × Value)} {gs:List hp} {cur:List (Nat × Bool)} {a:Act} (I:Fr n b0 a) (dd:mr a gs) (hc:tN a cur):∀ {xs:List Operand} {vs:List Value},Dr b0 gs cur xs=some vs->xs.map a.eval=vs
 | [],vs,h=>by simp only [Dr,Option.some.injEq] at h;subst h;rfl
 | x::r,vs,h=>by
   simp only [Dr] at h
   split at h
   · rename_i v us aC aU
     simp only [Option.some.injEq] at h
     subst h
     rw [List.map_cons,MH I dd hc aC,WO I dd hc aU]
   · cases h
def aed:Operand->Bool
 | .const (.int _ n)=>n != 0
 | _=>false
def pu:IntKind->IntKind->Bool
 | .i64,.i64 | .u8,.u8 | .i32,.i32 | .u64,.u64 | .u32,.u32 | .u16,.u16 | .i16,.i16 | .i8,.i8=>true
 | _,_=>false
theorem sA {j k:IntKind} (h:pu j k=true):j=k:=by cases j <;> cases k <;> simp_all [pu]
def lO (k:IntKind):Bool:=pu k .i64
theorem lP {k:IntKind} (h:lO k=true):k= .i64:=sA h
def Z5 (oK:Option qE) (i':Bool) (op:BinOp) (j k:IntKind) (m n:Int):Option Value:=
 match op with
 | .add=>match lO j && lO k with | true=>some (.int .i64 (ap (m+n))) | false=>none
 | .sub=>match lO j && lO k with | true=>some (.int .i64 (ap (m - n))) | false=>none
 | .mul=>match lO j && lO k with | true=>some (.int .i64 (ap (m*n))) | false=>none
 | .quo=>match lO j && lO k && i' with | true=>some (.int .i64 (ap (m.tdiv n))) | false=>none
 | .rem=>match lO j && lO k && i' with | true=>some (.int .i64 (m.tmod n)) | false=>none
 | .or=>match lO j && lO k with | true=>some (.int .i64 (WS m n)) | false=>none
 | .and=>match lO j && lO k with | true=>some (.int .i64 (P5 m n)) | false=>none
 | .lss=>match pu j k with | true=>some (.bool (decide (m <n))) | false=>none
 | .leq=>match pu j k with | true=>some (.bool (decide (m<=n))) | false=>none
 | .gtr=>match pu j k with | true=>some (.bool (decide (n <m))) | false=>none
 | .geq=>match pu j k with | true=>some (.bool (decide (n<=m))) | false=>none
 | .eql=>match oK with
   | some (.i i)=>match pu i j && pu j k with | true=>some (.bool (decide (m=n))) | false=>none
   | _=>none
 | .neq=>match oK with
   | some (.i i)=>match pu i j && pu j k with | true=>some (.bool (!decide (m=n))) | false=>none
   | _=>none
 | _=>none
def Z6 (oK:Option qE) (op:BinOp) (p q:List UInt8):Option Value:=
 match op,oK with
 | .eql,some .s=>some (.bool (decide (p=q)))
 | .neq,some .s=>some (.bool (!decide (p=q)))
 | _,_=>none
def Z4 (oK:Option qE) (op:BinOp) (p q:Bool):Option Value:=
 match op,oK with
 | .eql,some .b=>some (.bool (p == q))
 | .neq,some .b=>some (.bool (!(p == q)))
 | _,_=>none
def bin (oK:Option qE) (i':Bool) (op:BinOp):Value->Value->Option Value
 | .int j m,.int k n=>Z5 oK i' op j k m n
 | .string ⟨⟨p⟩⟩,.string ⟨⟨q⟩⟩=>Z6 oK op p q
 | .bool p,.bool q=>Z4 oK op p q
 | _,_=>none
section
variable {P:Program} {o:Oper} {a:Act} {w:World} {x y:Operand} {t ep:TypeId}
theorem ahN {oK:Option qE} (bh:∀ k,oK=some k->k.ok P t) {i':Bool} (c0:i'=true-> ∀ k n,a.eval y= .int k n->n≠ 0) {op:BinOp} {u v r:Value} (h:bin oK i' op u v=some r) (br:o.op= .binOp op t x y ep) (ai:a.eval x=u) (hy:a.eval y=v):cg P o a w r w:=by
 unfold bin at h
 split at h
 · rename_i j m k n
   unfold Z5 at h
   split at h
   case h_1=>
    split at h
    · rename_i a1
      simp only [Bool.and_eq_true] at a1
      obtain ⟨aC,aU⟩:=a1
      have aC:=lP aC;have aU:=lP aU
      subst aC;subst aU
      simp only [Option.some.injEq] at h
      subst h
      exact aIf br ai hy
    · cases h
   case h_2=>
    split at h
    · rename_i a1
      simp only [Bool.and_eq_true] at a1
      obtain ⟨aC,aU⟩:=a1
      have aC:=lP aC;have aU:=lP aU
      subst aC;subst aU
      simp only [Option.some.injEq] at h
      subst h
      exact aIU br ai hy
    · cases h
   case h_3=>
    split at h
    · rename_i a1
      simp only [Bool.and_eq_true] at a1
      obtain ⟨aC,aU⟩:=a1
      have aC:=lP aC;have aU:=lP aU
      subst aC;subst aU
      simp only [Option.some.injEq] at h
      subst h
      exact aII br ai hy
    · cases h
   case h_4=>
    split at h
    · rename_i a1
      simp only [Bool.and_eq_true] at a1
      obtain ⟨⟨aC,aU⟩,bS⟩:=a1
      have aC:=lP aC;have aU:=lP aU
      subst aC;subst aU
      simp only [Option.some.injEq] at h
      subst h
      have e6:=c0 bS _ _ hy
      exact aIQ br ai hy (by rw [Bool.not_eq_true',decide_eq_false_iff_not];exact e6)
    · cases h
   case h_5=>
    split at h
    · rename_i a1
      simp only [Bool.and_eq_true] at a1
      obtain ⟨⟨aC,aU⟩,bS⟩:=a1
      have aC:=lP aC;have aU:=lP aU
      subst aC;subst aU
      simp only [Option.some.injEq] at h
      subst h
      have e6:=c0 bS _ _ hy
      exact aIR br ai hy (by rw [Bool.not_eq_true',decide_eq_false_iff_not];exact e6)
    · cases h
   case h_6=>
    split at h
    · rename_i a1
      simp only [Bool.and_eq_true] at a1
      obtain ⟨aC,aU⟩:=a1
      have aC:=lP aC;have aU:=lP aU
      subst aC;subst aU
      simp only [Option.some.injEq] at h
      subst h
      exact aIO br ai hy
    · cases h
   case h_7=>
    split at h
    · rename_i a1
      simp only [Bool.and_eq_true] at a1
      obtain ⟨aC,aU⟩:=a1
      have aC:=lP aC;have aU:=lP aU
      subst aC;subst aU
      simp only [Option.some.injEq] at h
      subst h
      exact aIg br ai hy
    · cases h
   case h_8=>
    split at h
    · rename_i a1
      have a1:=sA a1
      subst a1
      simp only [Option.some.injEq] at h
      subst h
      exact aID br ai hy
    · cases h
   case h_9=>
    split at h
    · rename_i a1
      have a1:=sA a1
      subst a1
      simp only [Option.some.injEq] at h
      subst h
      exact aIA br ai hy
    · cases h
   case h_10=>
    split at h
    · rename_i a1
      have a1:=sA a1
      subst a1
      simp only [Option.some.injEq] at h
      subst h
      exact aIv br ai hy
    · cases h
   case h_11=>
    split at h
    · rename_i a1
      have a1:=sA a1
      subst a1
      simp only [Option.some.injEq] at h
      subst h
      exact aIu br ai hy
    · cases h
   case h_12=>
    split at h
    · rename_i i
      have hi:=bh _ rfl
      split at h
      · rename_i a1
        simp only [Bool.and_eq_true] at a1
        have aC:=sA a1.1;have aU:=sA a1.2
        subst aC;subst aU
        simp only [Option.some.injEq] at h
        subst h
        exact aIq hi br ai hy
      · cases h
    · cases h
   case h_13=>
    split at h
    · rename_i i
      have hi:=bh _ rfl
      split at h
      · rename_i a1
        simp only [Bool.and_eq_true] at a1
        have aC:=sA a1.1;have aU:=sA a1.2
        subst aC;subst aU
        simp only [Option.some.injEq] at h
        subst h
        exact aIK hi br ai hy
      · cases h
    · cases h
   case h_14=>cases h
 · rename_i p q
   unfold Z6 at h
   split at h
   · simp only [Option.some.injEq] at h
     subst h
     exact aIr (bh _ rfl) br ai hy
   · simp only [Option.some.injEq] at h
     subst h
     exact aIL (bh _ rfl) br ai hy
   · cases h
 · rename_i p q
   unfold Z4 at h
   split at h
   · simp only [Option.some.injEq] at h
     subst h
     exact aIo (bh _ rfl) br ai hy
   · simp only [Option.some.injEq] at h
     subst h
     exact aIJ (bh _ rfl) br ai hy
   · cases h
 · cases h
end
end a2
namespace a2
open Go Go.RowKit J
def nth {α:Type}:List α->Nat->Option α
 | [],_=>none
 | x::_,0 =>some x
 | _::r,i+ 1 =>nth r i
theorem sP {α:Type}:∀ (l:List α) (i:Nat),nth l i=l[i]?
 | [],i=>by simp [nth]
 | x::r,0 =>rfl
 | x::r,i+ 1 =>by simp [nth,sP r i]
def UQ:Operand->Bool
 | .const (.bool b)=>b
 | _=>false
def UO:Operand->Bool
 | .const (.bool b)=>!b
 | _=>false
def WV (x y:Operand) (b:Bool):Value->Value->Option Value
 | .bool p,.bool q=>match UQ x with
   | true=>some (.bool (b || q))
   | false=>match UO y with
     | true=>some (.bool (b && p))
     | false=>some (.bool (cond b p q))
 | .int j m,.int k n=>match pu j k with
   | true=>some (.int j (cond b m n))
   | false=>none
 | .string ⟨⟨p⟩⟩,.string ⟨⟨q⟩⟩=>some (ao (cond b p q))
 | _,_=>none
theorem aEN {a:Act} {x:Operand} (h:UQ x=true):a.eval x= .bool true:=by
 unfold UQ at h
 split at h
 · subst h;rfl
 · cases h
theorem aEL {a:Act} {x:Operand} (h:UO x=true):a.eval x= .bool false:=by
 unfold UO at h
 split at h
 · rename_i b
   have:b=false:=by simpa using h
   subst this;rfl
 · cases h
theorem aFK {a:Act} {x y:Operand} {b:Bool} {u v r:Value} (h:WV x y b u v=some r) (ai:b=true->a.eval x=u) (hy:b=false->a.eval y=v):(if b then a.eval x else a.eval y)=r:=by
 unfold WV at h
 split at h
 · rename_i p q
   split at h
   · rename_i bA
     simp only [Option.some.injEq] at h
     subst h
     cases b with
     | true=>rw [if_pos rfl,aEN bA];rfl
     | false=>rw [if_neg (by simp),hy rfl];rfl
   · split at h
     · rename_i I
       simp only [Option.some.injEq] at h
       subst h
       cases b with
       | true=>rw [if_pos rfl,ai rfl];rfl
       | false=>rw [if_neg (by simp),aEL I];rfl
     · simp only [Option.some.injEq] at h
       subst h
       cases b with
       | true=>rw [if_pos rfl,ai rfl];rfl
       | false=>rw [if_neg (by simp),hy rfl];rfl
 · split at h
   · rename_i bh
     have:=sA bh
     subst this
     simp only [Option.some.injEq] at h
     subst h
     cases b with
     | true=>rw [if_pos rfl,ai rfl];rfl
     | false=>rw [if_neg (by simp),hy rfl];rfl
   · cases h
 · simp only [Option.some.injEq] at h
   subst h
   cases b with
   | true=>rw [if_pos rfl,ai rfl];rfl
   | false=>rw [if_neg (by simp),hy rfl];rfl
 · cases h
abbrev Out:=Value × List Nat × List (Nat × Nat)
def k5 (a5:List Nat) (v:Value):Option Out:=some (v,a5,[])
def aci (G:mf) (M:List (Nat × Nat × List Value)) (t m rel:Nat) (a5:List Nat) (If aL:Nat):Option Out:=
 match nth M m,oP G.Iu t with
 | some (b,off,cs),some none=>match nth cs rel with
   | some v=>some (v,a5,[(If,b),(aL,off+rel)])
   | none=>none
 | some (b,off,cs),some (some n)=>match Nat.ble (rel+n) cs.length with
   | true=>some (.agg ((cs.drop rel).take n).toArray,a5,[(If,b),(aL,off+rel)])
   | false=>none
 | _,_=>none
def acg (G:mf) (s d:Nat) (a5:List Nat):Value->Option Out
 | .int k m=>match lO k,oP G.nR s,oP G.nR d with
   | true,some (.i .i64),some (.i .i64)=>k5 a5 (.int .i64 (ap m))
   | true,some (.i .i64),some (.i .u8)=>k5 a5 (.int .u8 ((E5 m).toNat:Int))
   | _,_,_=>none
 | _=>none
def ach (G:mf) (t:Nat) (a5:List Nat):Value->Option Out
 | .string ⟨⟨p⟩⟩=>match oP G.nR t with
   | some .s=>k5 a5 (.int .i64 (p.length:Int))
   | _=>none
 | .slice _ n _=>match oP G.nR t with
   | some .U=>k5 a5 (.int .i64 (n:Int))
   | _=>none
 | _=>none
def acj (b0:List (Nat × Value)) (gs:List hp) (cur:List (Nat × Bool)) (c x y:Operand):List Nat->Option Out
 | 0 ::a5=>match c with
   | .tmp AY=>match im b0 gs cur (.tmp AY),im b0 gs ((AY,true)::cur) x,im b0 gs ((AY,false)::cur) y with
     | some (.bool b),some u,some v=>match WV x y b u v with
       | some r=>k5 a5 r
       | none=>none
     | _,_,_=>none
   | _=>none
 | _::a5=>match im b0 gs cur c with
   | some (.bool b)=>match b with
     | true=>match im b0 gs cur x with | some v=>k5 a5 v | none=>none
     | false=>match im b0 gs cur y with | some v=>k5 a5 v | none=>none
   | _=>none
 | []=>none
def nn (G:mf) (M:List (Nat × Nat × List Value)) (a5:List Nat) (b0:List (Nat × Value)) (gs:List hp) (cur:List (Nat × Bool)):Op->Option Out
 | .move x=>match im b0 gs cur x with | some v=>k5 a5 v | none=>none
 | .assign x=>match im b0 gs cur x with | some v=>k5 a5 v | none=>none
 | .pick c x y=>acj b0 gs cur c x y a5
 | .binOp op t x y _=>match im b0 gs cur x,im b0 gs cur y with
   | some u,some v=>match bin (oP G.nR t) (aed y) op u v with
     | some r=>k5 a5 r
     | none=>none
   | _,_=>none
 | .unOp .not _ x=>match im b0 gs cur x with
   | some (.bool p)=>k5 a5 (.bool (!p))
   | _=>none
 | .convert s d x=>match im b0 gs cur x with
   | some v=>acg G s d a5 v
   | none=>none
 | .load t x=>match im b0 gs cur x,a5 with
   | some (.pointer (some ⟨If,aL,none⟩)),m::rel::dN=>aci G M t m rel dN If aL
   | _,_=>none
 | .fieldAddr s x j=>match im b0 gs cur x,H6 G.ot s j with
   | some (.pointer (some ⟨b,p,none⟩)),some off=>k5 a5 (.pointer (some ⟨b,p+off,none⟩))
   | _,_=>none
 | .nilCheck x=>match im b0 gs cur x with
   | some (.pointer (some p))=>k5 a5 (.pointer (some p))
   | _=>none
 | .extract x i=>match im b0 gs cur x with
   | some (.tuple ⟨vs⟩)=>match nth vs i with
     | some v=>k5 a5 v
     | none=>none
   | _=>none
 | .makeFunc fn ⟨xs⟩ ⟨ys⟩=>match Dr b0 gs cur xs,Dr b0 gs cur ys with
   | some us,some vs=>k5 a5 (.func fn us.toArray vs.toArray)
   | _,_=>none
 | .call ⟨.builtin .len,⟨[x]⟩,⟨[t]⟩⟩=>match im b0 gs cur x with
   | some v=>ach G t a5 v
   | none=>none
 | _=>none
theorem mM {a5 dN:List Nat} {u v:Value} {l:List (Nat × Nat)} (h:k5 a5 u=some (v,dN,l)):u=v:=by
 simp only [k5,Option.some.injEq,Prod.mk.injEq] at h
 exact h.1
def nl:List (Nat × Nat)->Prop
 | []=>True
 | p::r=>p.1 =p.2 /\nl r
section
variable {P:Program} {G:mf} {M:List (Nat × Nat × List Value)} {w:World} {a:Act} {o:Oper}
theorem ace {n:hb} {b0:List (Nat × Value)} {gs:List hp} {cur:List (Nat × Bool)} {a5 dN:List Nat} {v:Value} {l:List (Nat × Nat)} (gM:r2 P G) (fr:iT w M) (I:Fr n b0 a) (dd:mr a gs) (hc:tN a cur)
 {op:Op} (br:o.op=op) (h:nn G M a5 b0 gs cur op=some (v,dN,l)) (az:nl l):cg P o a w v w:=by
 have opn:∀ {x:Operand} {u:Value},im b0 gs cur x=some u->a.eval x=u:=fun ai=>MH I dd hc ai
 unfold nn at h
 split at h
 · split at h
   · rename_i ai
     rw [<-mM h];exact aIG br (opn ai)
   · cases h
 · split at h
   · rename_i ai
     rw [<-mM h];exact aIi br (opn ai)
   · cases h
 · rename_i c x y
   unfold acj at h
   split at h
   · split at h
     · rename_i AY
       split at h
       · rename_i b u rM aC aU bS
         split at h
         · rename_i r bU
           rw [<-mM h]
           have xL:a.eval (.tmp AY)= .bool b:=opn aC
           have ai:b=true->a.eval x=u:=fun a1=>MH I dd (show tN a ((AY,true)::cur) from ⟨by subst a1;exact xL,hc⟩) aU
           have hy:b=false->a.eval y=rM:=fun a1=>MH I dd (show tN a ((AY,false)::cur) from ⟨by subst a1;exact xL,hc⟩) bS
           have b3:=aFK (a:=a) bU ai hy
           cases b with
           | true=>exact ag6 br xL (by simpa using b3)
           | false=>exact ag5 br xL (by simpa using b3)
         · cases h
       · cases h
     · cases h
   · split at h
     · rename_i b aC
       split at h
       · split at h
         · rename_i u aU
           rw [<-mM h];exact ag6 br (opn aC) (opn aU)
         · cases h
       · split at h
         · rename_i u aU
           rw [<-mM h];exact ag5 br (opn aC) (opn aU)
         · cases h
     · cases h
   · cases h
 · rename_i op t x y ep
   split at h
   · rename_i u rM aC aU
     split at h
     · rename_i r bU
       rw [<-mM h]
       refine ahN (fun k bh=>A3 gM.nR bh) (fun c0 k n af=>?_) bU br (opn aC) (opn aU)
       unfold aed at c0
       split at c0
       · rename_i k' kh
         have:a.eval (.const (.int k' kh))= .int k' kh:=rfl
         rw [this] at af
         injection af with _ e
         subst e
         simpa using c0
       · cases c0
     · cases h
   · cases h
 · rename_i x
   split at h
   · rename_i p aC
     rw [<-mM h];exact aIN br (opn aC)
   · cases h
 · rename_i s d x
   split at h
   · rename_i u aC
     unfold acg at h
     split at h
     · rename_i k m
       split at h
       · rename_i aU bS ew
         have:=lP aU
         subst this
         rw [<-mM h];exact aIk (A3 gM.nR bS) (A3 gM.nR ew) br (opn aC)
       · rename_i aU bS ew
         have:=lP aU
         subst this
         rw [<-mM h];exact aIm (A3 gM.nR bS) (A3 gM.nR ew) br (opn aC)
       · cases h
     · cases h
   · cases h
 · rename_i t x
   split at h
   · rename_i If aL m rel uw aC
     have ai:=opn aC
     unfold aci at h
     split at h
     · rename_i b off cs aU bS
       split at h
       · rename_i u ew
         simp only [Option.some.injEq,Prod.mk.injEq] at h
         obtain ⟨rfl,_,rfl⟩:=h
         obtain ⟨bO,b4,_⟩:=az
         simp only at bO b4
         subst bO;subst b4
         rw [sP] at aU ew
         exact aIB (af0 gM.Iu bS) br ai (afe fr aU rel u ew)
       · cases h
     · rename_i b off cs k aU bS
       split at h
       · rename_i a1
         simp only [Option.some.injEq,Prod.mk.injEq] at h
         obtain ⟨rfl,_,rfl⟩:=h
         obtain ⟨bO,b4,_⟩:=az
         simp only at bO b4
         subst bO;subst b4
         rw [sP] at aU
         have a5:=af0 gM.Iu bS
         have hle:=Nat.le_of_ble_eq_true a1
         refine aIC a5.1 a5.2 (by simp;omega) br ai (fun j u bb=>?_)
         have arz:=afe fr aU
         rw [List.getElem?_take] at bb
         split at bb
         · rw [List.getElem?_drop] at bb
           have:=arz (rel+j) u bb
           simpa [Nat.add_assoc] using this
         · cases bb
       · cases h
     · cases h
   · cases h
 · rename_i s x j
   split at h
   · rename_i b p off aC aU
     rw [<-mM h]
     obtain ⟨gK,f,sz,j8,kX,zH,zI,akO⟩:=akz gM.ot aU
     rw [<-zH]
     exact aIt j8 kX akO (by cases bE:Nat.beq sz 0 with | false=>rfl | true=>exact absurd (Nat.eq_of_beq_eq_true bE) zI) br (opn aC)
   · cases h
 · rename_i x
   split at h
   · rename_i p aC
     rw [<-mM h];exact aIM br (opn aC)
   · cases h
 · rename_i x i
   split at h
   · rename_i vs aC
     split at h
     · rename_i u aU
       rw [<-mM h]
       rw [sP] at aU
       exact aIs (vs:=vs) br (opn aC) aU
     · cases h
   · cases h
 · rename_i fn xs ys
   split at h
   · rename_i us vs aC aU
     rw [<-mM h]
     have bO:=WO I dd hc aC
     have b4:=WO I dd hc aU
     simp only [cg,execOp,br,Instr.makeFunc]
     rw [show (Array.map a.eval ⟨xs⟩)=us.toArray by rw [<-bO];simp,show (Array.map a.eval ⟨ys⟩)=vs.toArray by rw [<-b4];simp]
     rfl
   · cases h
 · rename_i x t
   split at h
   · rename_i u aC
     unfold ach at h
     split at h
     · split at h
       · rename_i aU
         rw [<-mM h];exact aIz (A3 gM.nR aU) br (opn aC)
       · cases h
     · split at h
       · rename_i aU
         rw [<-mM h]
         obtain ⟨e,he⟩:=A3 gM.nR aU
         exact aIy he br (opn aC)
       · cases h
     · cases h
   · cases h
 · cases h
end
end a2
namespace a2
open Go Go.RowKit J
def Q0 (ops:Array Oper) (j:Nat):Option Nat:=match nth ops.toList j with
 | some o=>o.dst
 | none=>none
theorem akY {ops:Array Oper} {j dT:Nat} (h:Q0 ops j=some dT):(ops[j]?).bind (·.dst)=some dT:=by
 unfold Q0 at h
 rw [sP,Array.getElem?_toList] at h
 split at h
 · rename_i o br
   rw [br];exact h
 · cases h
abbrev ahE:=List (Nat × Value) × List hp × List (Nat × Nat)
def ev (G:mf) (ops:Array Oper) (n:Nat) (M:List (Nat × Nat × List Value)):List Oper->List Nat->List (Nat × Value)->List hp->List (Nat × Nat)->Option ahE
 | [],_,b0,gs,l=>some (b0,gs,l)
 | o::rest,a5,b0,gs,l=>match o.dst with
   | none=>none
   | some d=>match Nat.blt d n with
     | false=>none
     | true=>match o.guard with
       | none=>match nn G M a5 b0 gs [] o.op with
         | some (v,dN,l')=>ev G ops n M rest dN ((d,v)::b0) (rI gs d) (l'++l)
         | none=>none
       | some (j,want)=>match Q0 ops j with
         | none=>none
         | some dT=>match Nat.blt dT n with
           | false=>none
           | true=>match a5 with
             | 0 ::dN=>match Nat.beq dT d with
               | true=>none
               | false=>match nn G M dN b0 gs [(dT,want)] o.op with
                 | some (v,uw,l')=>ev G ops n M rest uw (AV b0 d) (⟨d,dT,want,v⟩::rI gs d) (l'++l)
                 | none=>none
             | _::dN=>match ft b0 dT with
               | some (.bool b)=>match b == want with
                 | true=>match nn G M dN b0 gs [] o.op with
                   | some (v,uw,l')=>ev G ops n M rest uw ((d,v)::b0) (rI gs d) (l'++l)
                   | none=>none
                 | false=>ev G ops n M rest dN ((d,undef)::b0) (rI gs d) l
               | some (.tuple ⟨[]⟩)=>ev G ops n M rest dN ((d,undef)::b0) (rI gs d) l
               | _=>none
             | []=>none
def Cx (b0:List (Nat × Value)):List Nat->Option (List (Nat × Value))
 | []=>some []
 | t::r=>match ft b0 t,Cx b0 r with
   | some v,some vs=>some ((t,v)::vs)
   | _,_=>none
def dup (l:List Nat):List (Nat × Nat):=l.map fun x=>(x,x)
def j7 (G:mf) (ops:Array Oper) (n:Nat) (M:List (Nat × Nat × List Value)) (os:List Oper) (a5:List Nat) (b0:List (Nat × Value)) (dB:List Nat):Option (List (Nat × Value) × List (Nat × Nat)):=
 match ev G ops n M os a5 b0 [] [] with
 | some (fr',_,l)=>match Cx fr' dB with
   | some k=>some (k,l)
   | none=>none
 | none=>none
theorem K5:∀ l:List Nat,nl (dup l)
 | []=>trivial
 | x::r=>⟨rfl,K5 r⟩
theorem xz:∀ {l l':List (Nat × Nat)},nl (l++l')->nl l/\nl l'
 | [],_,h=>⟨trivial,h⟩
 | _::_,_,h=>⟨⟨h.1,(xz h.2).1⟩,(xz h.2).2⟩
theorem QI {b0:List (Nat × Value)}:∀ {dB:List Nat} {k:List (Nat × Value)},Cx b0 dB=some k->II b0 k
 | [],k,h=>by simp only [Cx,Option.some.injEq] at h;subst h;trivial
 | t::r,k,h=>by
   simp only [Cx] at h
   split at h
   · rename_i v vs aC aU
     simp only [Option.some.injEq] at h
     subst h
     exact ⟨aC,QI aU⟩
   · cases h
theorem aFU {a:Act} {n:hb} {d:Nat} {v:Value} (a5:a.tmps.size=n) (bT:Nat.blt d n=true):(a.put (some d) v).tmps.getD d undef=v:=by
 have eh:d <n:=Nat.le_of_ble_eq_true bT
 simp [Act.put,a5,eh]
theorem MJ {a:Act} {d t:Nat} {v:Value} (h:t≠d):(a.put (some d) v).tmps.getD t undef=a.tmps.getD t undef:=by
 simp only [Act.put,Array.getD_eq_getD_getElem?]
 rw [Array.getElem?_setIfInBounds,if_neg (fun e=>h e.symm)]
theorem xF {a:Act} {d:Nat} {v:Value}:∀ {gs:List hp},mr a gs->mr (a.put (some d) v) (rI gs d)
 | [],_=>trivial
 | p::r,h=>by
   simp only [rI]
   cases a1:Nat.beq p.t d || Nat.beq p.j d with
   | true=>exact xF h.2
   | false=>
     simp only [Bool.or_eq_false_iff] at a1
     have aC:p.t≠d:=fun e=>by rw [e] at a1;simp at a1
     have aU:p.j≠d:=fun e=>by rw [e] at a1;simp at a1
     refine ⟨?_,xF h.2⟩
     rw [MJ aC,MJ aU];exact h.1
theorem WG {d t:Nat} {v:Value}:∀ {b0:List (Nat × Value)},ft (AV b0 d) t=some v->t≠d/\ft b0 t=some v
 | [],h=>by simp [AV,ft] at h
 | p::r,h=>by
   simp only [AV] at h
   cases a1:Nat.beq p.1 d with
   | true=>
     rw [a1] at h
     obtain ⟨aC,aU⟩:=WG h
     refine ⟨aC,?_⟩
     have e:=Nat.eq_of_beq_eq_true a1
     simp only [ft]
     cases hc:Nat.beq p.1 t with
     | true=>exact absurd ((Nat.eq_of_beq_eq_true hc).symm.trans e) aC
     | false=>exact aU
   | false=>
     rw [a1] at h
     simp only [ft] at h ⊢
     cases hc:Nat.beq p.1 t with
     | true=>
       rw [hc] at h
       refine ⟨fun e=>?_,h⟩
       rw [Nat.eq_of_beq_eq_true hc,e] at a1
       simp at a1
     | false=>
       rw [hc] at h
       exact WG h
theorem Fr.afQ {n:hb} {d:Nat} {b0:List (Nat × Value)} {a:Act} {v:Value} (I:Fr n b0 a):Fr n (AV b0 d) (a.put (some d) v):=
 ⟨by simpa [Act.put] using I.size,I.defers,fun t u h=>by obtain ⟨aC,aU⟩:=WG h;rw [MJ aC];exact I.get t u aU⟩
def C5:Op->Bool
 | .load _ _=>true
 | _=>false
theorem akp {G:mf} {M:List (Nat × Nat × List Value)} {a5:List Nat} {b0:List (Nat × Value)} {gs:List hp} {cur:List (Nat × Bool)} {op:Op} (h:C5 op=false):nn G M a5 b0 gs cur op=nn G [] a5 b0 gs cur op:=by
 cases op with
 | load t x=>simp [C5] at h
 | unOp u t x=>cases u <;> rfl
 | call c=>
   unfold nn
   split <;> first | rfl | (rename_i e;cases e;done) | (rename_i e;cases e;rfl)
 | _=>rfl
theorem QN {P:Program} {G:mf} {M:List (Nat × Nat × List Value)} {C:World->Prop} {a:Act} {o:Oper} {n:hb} {b0:List (Nat × Value)} {gs:List hp} {cur:List (Nat × Bool)} {a5 dN:List Nat} {v:Value} {l:List (Nat × Nat)} (gM:r2 P G) (fr:∀ w,C w->iT w M) (I:Fr n b0 a) (dd:mr a gs) (hc:tN a cur)
 (h:nn G M a5 b0 gs cur o.op=some (v,dN,l)) (az:nl l):(∀ w,C w->cg P o a w v w)/\(C5 o.op=false-> ∀ w,cg P o a w v w):=
 ⟨fun w pi=>ace gM (fr w pi) I dd hc rfl h az,fun af w=>ace gM (M:=[]) trivial I dd hc rfl (by rw [<-akp af];exact h) az⟩
theorem agi {ops:Array Oper} {o:Oper} {a:Act} {n:hb} {l:List (Nat × Value)} {j dT:Nat} {want:Bool} (I:Fr n l a) (dd:o.guard=some (j,want)) (bb:(ops[j]?).bind (·.dst)=some dT) (af:Nat.blt dT n=true) :
 Region.wanted o (yielded ops a.tmps)=true ↔ a.tmps.getD dT undef= .bool want:=by
 have eh:dT <n:=Nat.le_of_ble_eq_true af
 have a5:=I.size
 have aU:a.tmps[dT]? =some (a.tmps.getD dT undef):=by
  rw [Array.getElem?_eq_getElem (by omega)]
  simp [Array.getD_eq_getD_getElem?,a5,eh]
 simp only [Region.wanted,dd,yielded,bb,Option.bind_some,aU,beq_iff_eq]
 constructor
 · intro h
   split at h
   · rename_i b a1
     simp only [Option.some.injEq] at h a1
     rw [a1,h]
   · cases h
 · intro h
   rw [h]
def ahI (P:Program) (ops:Array Oper) (C:World->Prop) (o:Oper) (d:Nat) (a:Act) (u:Value):Prop:=
 o.dst=some d/\((Region.wanted o (yielded ops a.tmps)=true/\(∀ w,C w->cg P o a w u w)/\(C5 o.op=false-> ∀ w,cg P o a w u w))\/(Region.wanted o (yielded ops a.tmps)=false/\u=undef))
section
variable {P:Program} {G:mf} {ops:Array Oper} {n:hb} {M:List (Nat × Nat × List Value)} {C:World->Prop}
theorem QO (gM:r2 P G) (fr:∀ w,C w->iT w M) {o:Oper} {rest:List Oper} {a5:List Nat} {b0:List (Nat × Value)} {gs:List hp} {l lT:List (Nat × Nat)} {jj:List (Nat × Value)} {lG:List hp} {a:Act}
 (I:Fr n b0 a) (dd:mr a gs) (h:ev G ops n M (o::rest) a5 b0 gs l=some (jj,lG,lT)) (c0:nl lT)
 (T8:∀ {os:List Oper} {a5:List Nat} {b0:List (Nat × Value)} {gs:List hp} {l:List (Nat × Nat)},ev G ops n M os a5 b0 gs l=some (jj,lG,lT)->nl l) :
 ∃ d u dN fr' zK l',ahI P ops C o d a u/\Fr n fr' (a.put (some d) u)/\mr (a.put (some d) u) zK/\ev G ops n M rest dN fr' zK l'=some (jj,lG,lT):=by
 rw [ev] at h
 split at h
 · cases h
 · rename_i d bT
   split at h
   · cases h
   · rename_i af
     split at h
     · rename_i Aa
       split at h
       · rename_i v dN l' aC
         have he:=(xz (T8 h)).1
         exact ⟨d,v,dN,_,_,_,⟨bT,.inl ⟨DM Aa,QN (cur:=[]) gM fr I dd trivial aC he⟩⟩,I.put af,xF dd,h⟩
       · cases h
     · rename_i j want Aa
       split at h
       · cases h
       · rename_i dT z6
         have G7:=akY z6
         split at h
         · cases h
         · rename_i xV
           split at h
           · rename_i dN
             split at h
             · cases h
             · rename_i e6
               split at h
               · rename_i v uw l' aC
                 have he:=(xz (T8 h)).1
                 have Hy:dT≠d:=fun e=>by rw [e] at e6;simp at e6
                 by_cases Lr:a.tmps.getD dT undef= .bool want
                 · refine ⟨d,v,uw,_,_,_,⟨bT,.inl ⟨(agi I Aa G7 xV).2 Lr,QN (cur:=[(dT,want)]) gM fr I dd ⟨Lr,trivial⟩ aC he⟩⟩,I.afQ,(show mr (a.put (some d) v) (⟨d,dT,want,v⟩::rI gs d) from ⟨fun _=>aFU I.size af,xF dd⟩),h⟩
                 · refine ⟨d,undef,uw,_,_,_,⟨bT,.inr ⟨by rw [Bool.eq_false_iff];exact fun hw=>Lr ((agi I Aa G7 xV).1 hw),rfl⟩⟩,I.afQ,(show mr (a.put (some d) undef) (⟨d,dT,want,v⟩::rI gs d) from ⟨fun ai=>?_,xF dd⟩),h⟩
                   simp only at ai
                   rw [MJ Hy] at ai
                   exact absurd ai Lr
               · cases h
           · rename_i q dN en
             split at h
             · rename_i b a1
               split at h
               · rename_i ud
                 have ud:b=want:=by simpa using ud
                 subst ud
                 split at h
                 · rename_i v uw l' aC
                   have he:=(xz (T8 h)).1
                   exact ⟨d,v,uw,_,_,_,⟨bT,.inl ⟨c1 I Aa G7 a1 xV,QN (cur:=[]) gM fr I dd trivial aC he⟩⟩,I.put af,xF dd,h⟩
                 · cases h
               · rename_i ud
                 exact ⟨d,undef,dN,_,_,_,⟨bT,.inr ⟨aHn I Aa G7 a1 ud xV,rfl⟩⟩,I.put af,xF dd,h⟩
             · rename_i a1
               exact ⟨d,undef,dN,_,_,_,⟨bT,.inr ⟨aHo I Aa G7 a1 xV,rfl⟩⟩,I.put af,xF dd,h⟩
             · cases h
           · cases h
theorem xB {jj:List (Nat × Value)} {lG:List hp} {lT:List (Nat × Nat)} (c0:nl lT):∀ {os:List Oper} {a5:List Nat} {b0:List (Nat × Value)} {gs:List hp} {l:List (Nat × Nat)},ev G ops n M os a5 b0 gs l=some (jj,lG,lT)->nl l
 | [],a5,b0,gs,l,h=>by
   simp only [ev,Option.some.injEq,Prod.mk.injEq] at h
   rw [h.2.2];exact c0
 | o::rest,a5,b0,gs,l,h=>by
   rw [ev] at h
   split at h
   · cases h
   · split at h
     · cases h
     · split at h
       · split at h
         · exact (xz (xB c0 h)).2
         · cases h
       · split at h
         · cases h
         · split at h
           · cases h
           · split at h
             · split at h
               · cases h
               · split at h
                 · exact (xz (xB c0 h)).2
                 · cases h
             · split at h
               · split at h
                 · split at h
                   · exact (xz (xB c0 h)).2
                   · cases h
                 · exact xB c0 h
               · exact xB c0 h
               · cases h
             · cases h
theorem af1 {w:World} {Q:Exit->Act->World->Prop} (gM:r2 P G) (fr:iT w M) {jj:List (Nat × Value)} {lG:List hp} {lT:List (Nat × Nat)} (c0:nl lT):∀ (k:Nat) {rest:List Oper} {a5:List Nat} {b0:List (Nat × Value)} {gs:List hp} {l:List (Nat × Nat)} {a:Act},
 Fr n b0 a->mr a gs->ev G ops n M (rest.take k) a5 b0 gs l=some (jj,lG,lT)->(∀ bM,Fr n jj bM->wpList P ops Q (rest.drop k) bM w)->wpList P ops Q rest a w
 | 0,rest,a5,b0,gs,l,a,I,_,h,bh=>by
   simp only [List.take_zero,ev,Option.some.injEq,Prod.mk.injEq] at h
   have:=bh a (by rw [<-h.1];exact I)
   simpa using this
 | k+ 1,[],a5,b0,gs,l,a,I,_,h,bh=>by
   simp only [List.take_nil,ev,Option.some.injEq,Prod.mk.injEq] at h
   have:=bh a (by rw [<-h.1];exact I)
   simpa using this
 | k+ 1,o::rest,a5,b0,gs,l,a,I,dd,h,bh=>by
   rw [List.take_succ_cons] at h
   obtain ⟨d,u,dN,fr',zK,l',⟨bT,xZ⟩,e5,z_,dP⟩:=QO (C:=fun aD=>aD=w) gM (fun aD e=>by subst e;exact fr) I dd h c0 (xB c0)
   have next:=af1 gM fr c0 k e5 z_ dP (by simpa using bh)
   refine wpList_step fun K hs=>?_
   rcases xZ with ⟨hw,hy,_⟩ | ⟨hw,rfl⟩
   · rw [if_pos hw]
     unfold Oper.wp
     rw [show (execOp a.eval o).run P w=_ from hy w rfl]
     show K (a.put o.dst u) w
     rw [bT]
     exact hs _ _ next
   · rw [if_neg (by simp [hw]),bT]
     exact hs _ _ next
theorem afx {nd:Act->Prop} (gM:r2 P G) (fr:∀ w,C w->iT w M) {jj:List (Nat × Value)} {lG:List hp} {lT:List (Nat × Nat)} (c0:nl lT):∀ (k:Nat) {rest:List Oper} {a5:List Nat} {b0:List (Nat × Value)} {gs:List hp} {l:List (Nat × Nat)} {a:Act},
 Fr n b0 a->mr a gs->ev G ops n M (rest.take k) a5 b0 gs l=some (jj,lG,lT)->(∀ bM,Fr n jj bM->wpQuiet P ops C nd (rest.drop k) bM)->wpQuiet P ops C nd rest a
 | 0,rest,a5,b0,gs,l,a,I,_,h,bh=>by
   simp only [List.take_zero,ev,Option.some.injEq,Prod.mk.injEq] at h
   have:=bh a (by rw [<-h.1];exact I)
   simpa using this
 | k+ 1,[],a5,b0,gs,l,a,I,_,h,bh=>by
   simp only [List.take_nil,ev,Option.some.injEq,Prod.mk.injEq] at h
   have:=bh a (by rw [<-h.1];exact I)
   simpa using this
 | k+ 1,o::rest,a5,b0,gs,l,a,I,dd,h,bh=>by
   rw [List.take_succ_cons] at h
   obtain ⟨d,u,dN,fr',zK,l',⟨bT,xZ⟩,e5,z_,dP⟩:=QO (C:=C) gM fr I dd h c0 (xB c0)
   have next:=afx gM fr c0 k e5 z_ dP (by simpa using bh)
   unfold wpQuiet
   rcases xZ with ⟨hw,hy,_⟩ | ⟨hw,rfl⟩
   · rw [if_pos hw]
     refine ⟨u,fun w hc=>?_,?_⟩
     · unfold Oper.quietAt
       rw [show (execOp a.eval o).run P w=_ from hy w hc]
       exact ⟨rfl,rfl⟩
     · rw [bT];exact next
   · rw [if_neg (by simp [hw]),bT]
     exact next
theorem QP {os:List Oper} {a5:List Nat} {b0:List (Nat × Value)} {dB:List Nat} {k:List (Nat × Value)} {L:List (Nat × Nat)} (h:j7 G ops n M os a5 b0 dB=some (k,L)):∃ jj lG,ev G ops n M os a5 b0 [] []=some (jj,lG,L)/\II jj k:=by
 unfold j7 at h
 split at h
 · rename_i fr' zK l aC
   split at h
   · rename_i k' aU
     simp only [Option.some.injEq,Prod.mk.injEq] at h
     obtain ⟨rfl,rfl⟩:=h
     exact ⟨fr',zK,aC,QI aU⟩
   · cases h
 · cases h
theorem g' (k:Nat) (dB a5:List Nat) {w:World} {Q:Exit->Act->World->Prop} {rest:List Oper} {b0 fr':List (Nat × Value)} {L:List Nat} {a:Act} (gM:r2 P G) (fr:iT w M) (I:Fr n b0 a) (he:j7 G ops n M (rest.take k) a5 b0 dB=some (fr',dup L))
 (next:∀ bM,Fr n fr' bM->wpList P ops Q (rest.drop k) bM w):wpList P ops Q rest a w:=by
 obtain ⟨jj,lG,aC,aU⟩:=QP he
 exact af1 (gs:=[]) gM fr (K5 L) k I trivial aC fun bM e5=>next bM (e5.sub aU)
theorem afw (k:Nat) (dB a5:List Nat) {nd:Act->Prop} {rest:List Oper} {b0 fr':List (Nat × Value)} {L:List Nat} {a:Act} (gM:r2 P G) (fr:∀ w,C w->iT w M) (I:Fr n b0 a) (he:j7 G ops n M (rest.take k) a5 b0 dB=some (fr',dup L))
 (next:∀ bM,Fr n fr' bM->wpQuiet P ops C nd (rest.drop k) bM):wpQuiet P ops C nd rest a:=by
 obtain ⟨jj,lG,aC,aU⟩:=QP he
 exact afx (gs:=[]) gM fr (K5 L) k I trivial aC fun bM e5=>next bM (e5.sub aU)
end
def C4:List Nat->Nat->Bool
 | [],_=>false
 | i::r,j=>Nat.beq i j || C4 r j
section
variable {P:Program} {ops:Array Oper} {Q:Exit->Act->World->Prop} {md:Region.Mode} {S:World->Prop} {p:Nat}
def vB (P:Program) (md:Region.Mode) (ops:Array Oper) (Q:Exit->Act->World->Prop) (p:Nat) (S:World->Prop):Nat->Array Bool->Act->World->Prop
 | 0,listed,a,w=>Region.ready md ops listed= []/\Q .normal a w
 | iA+ 1,listed,a,w=>
   (Region.ready md ops listed= []->Q .normal a w) /\
   ∀ i ∈ Region.ready md ops listed,wpOp P ops Q i (fun bM aD=>((listed.setIfInBounds i true).getD p false=false->S aD)/\vB P md ops Q p S iA (listed.setIfInBounds i true) bM aD) a w
theorem ago:∀ (iA:Nat) (listed:Array Bool) (a:Act) (w:World),vB P md ops Q p S iA listed a w->wpAny P md ops Q iA listed a w
 | 0,_,_,_,h=>h
 | iA+ 1,_,_,_,h=>⟨h.1,fun i hi=>wpOp_mono (fun bM aD dP=>ago iA _ bM aD dP.2) (h.2 i hi)⟩
theorem afZ {C':Array Bool} {i p:Nat} (h:C'.getD p false=true):(C'.setIfInBounds i true).getD p false=true:=by
 simp only [Array.getD_eq_getD_getElem?,Array.getElem?_setIfInBounds] at h ⊢
 split
 · rename_i e
   subst e
   split
   · rfl
   · rename_i eh
     rw [Array.getElem?_eq_none (by omega)] at h
     cases h
 · exact h
theorem agn {Ic:Nat} {PY:World->Prop}:∀ (iA:Nat) (listed:Array Bool) (a:Act) (w:World),listed.getD p false=true->vB P md ops Q Ic PY iA listed a w->vB P md ops Q p S iA listed a w
 | 0,_,_,_,_,h=>h
 | iA+ 1,_,_,_,b3,h=>⟨h.1,fun i hi=>wpOp_mono (fun bM aD dP=>⟨fun I=>absurd ((afZ b3).symm.trans I) (by simp),agn iA _ bM aD (afZ b3) dP.2⟩) (h.2 i hi)⟩
def xv:List Oper->Nat->Nat->List Nat->List Nat
 | [],_,_,acc=>acc
 | o::r,k,i,acc=>xv r (k+ 1) i (match o.after.toList.any fun e=>Region.binds .any e && (Nat.beq e.on i || C4 acc e.on) with | true=>k::acc | false=>acc)
theorem ad_ {l:List Nat} {j:Nat} (h:C4 l j=true):j ∈ l:=by
 induction l with
 | nil=>simp [C4] at h
 | cons i r cv=>
   simp only [C4,Bool.or_eq_true] at h
   rcases h with h | h
   · rw [Nat.eq_of_beq_eq_true h];simp
   · exact List.mem_cons_of_mem _ (cv h)
def J9 (ops:Array Oper) (i:Nat) (w4:List Nat):Prop:=∀ u ∈ w4,∃ o,ops[u]? =some o/\ ∃ e ∈ o.after,Region.binds .any e=true/\(e.on=i\/e.on ∈ w4)
theorem ab1 {ops:Array Oper} {i:Nat}:∀ {l:List Oper} {k:Nat} {acc:List Nat},(∀ m o,l[m]? =some o->ops[k+m]? =some o)->J9 ops i acc->J9 ops i (xv l k i acc)
 | [],_,_,_,h=>h
 | o::r,k,acc,az,h=>by
   rw [xv]
   refine ab1 (fun m lj hm=>by have:=az (m+ 1) lj (by simpa using hm);rwa [show k+(m+ 1)=k+ 1 +m by omega] at this) ?_
   split
   · rename_i a1
     intro u hu
     rcases List.mem_cons.1 hu with rfl | hu
     · simp only [List.any_eq_true,Bool.and_eq_true,Bool.or_eq_true] at a1
       obtain ⟨e,he,aC,aU⟩:=a1
       refine ⟨o,by simpa using az 0 o rfl,e,by simpa using he,aC,?_⟩
       rcases aU with aU | aU
       · exact .inl (Nat.eq_of_beq_eq_true aU)
       · exact .inr (List.mem_cons_of_mem _ (ad_ aU))
     · obtain ⟨lj,HA,e,he,aC,aU⟩:=h u hu
       exact ⟨lj,HA,e,he,aC,aU.imp id (List.mem_cons_of_mem _)⟩
   · exact h
def Yh (ops:Array Oper) (p i:Nat) (ds:List Nat):Bool:=(match nth ops.toList p with
 | none=>true
 | some _=>C4 (xv ops.toList 0 i []) p) && (xv ops.toList 0 i []).all fun u=>!(hB ops.size ds).getD u false
theorem Yi {ops:Array Oper} {p i:Nat} {ds:List Nat} (h:Yh ops p i ds=true):J9 ops i (xv ops.toList 0 i [])/\(ops[p]? =none\/p ∈ xv ops.toList 0 i [])/\ ∀ u ∈ xv ops.toList 0 i [],(hB ops.size ds).getD u false=false:=by
 unfold Yh at h
 rw [Bool.and_eq_true] at h
 refine ⟨ab1 (fun m o hm=>by simpa using hm) (fun u hu=>by simp at hu),?_,fun u hu=>?_⟩
 · have aC:=h.1
   rw [sP,Array.getElem?_toList] at aC
   split at aC
   · rename_i af;exact .inl af
   · exact .inr (ad_ aC)
 · have:=List.all_eq_true.1 h.2 u hu
   simpa using this
theorem aHr {i:Nat} {aB:Oper} {v:Value} (hi:ops[i]? =some aB) (HM:∀ (j:Nat) (o:Oper) cs b,ops[j]? =some o->o.op≠ .select cs b) (ur:p≠i)
 (gu:∀ c a w,Q (.panic c) (a.put aB.dst v) w->Q (.panic c) a w) {w4:List Nat} (aoy:J9 ops i w4) (azy:ops[p]? =none\/p ∈ w4) :
 ∀ (iA:Nat) (listed:Array Bool) (a:Act) (w:World),
   (∀ j jP,ops[j]? =some jP->j≠i->listed.getD j true=false->(∀ e ∈ jP.after,Region.binds .any e=true->e.on≠i)->aB.apart ops jP=true) ->
   listed.getD p false=false->(∀ u ∈ w4,listed.getD u false=false)->i ∈ Region.ready .any ops listed->YieldsIf P ops S aB v a->S w ->
   vB P .any ops Q p S iA (listed.setIfInBounds i true) (a.put aB.dst v) w->vB P .any ops Q p S (iA+ 1) listed a w:=by
 intro iA
 induction iA with
 | zero=>
   intro listed a w _ _ _ bU hy iC H
   refine ⟨fun h=>(by rw [h] at bU;cases bU),fun j bb=>?_⟩
   by_cases iR:j=i
   · subst iR;exact hy.wpOp hi iC ⟨fun _=>iC,H⟩
   · have:=ready_mono bb iR
     rw [H.1] at this
     cases this
 | succ iA cv=>
   intro listed a w G_ ny x0 bU hy iC H
   refine ⟨fun h=>(by rw [h] at bU;cases bU),fun j bb=>?_⟩
   by_cases iR:j=i
   · subst iR;exact hy.wpOp hi iC ⟨fun _=>iC,H⟩
   · have aC:=H.2 j (ready_mono bb iR)
     obtain ⟨Hr,jP,uq,oB⟩:=mem_ready.1 bb
     have Am:∀ e ∈ jP.after,Region.binds .any e=true->e.on≠i:=fun e he a1 heq=>by
      have aC:=oB e he a1
      have bE:=(mem_ready.1 bU).1
      rw [heq] at aC
      rcases Nat.lt_or_ge i listed.size with dP | dP
      · simp [dP] at bE aC;rw [bE] at aC;cases aC
      · simp [Array.getElem?_eq_none dP] at aC
     have adt:j ∉ w4:=fun T1=>by
      obtain ⟨lj,HA,e,he,a1,aU⟩:=aoy j T1
      rw [uq] at HA
      simp only [Option.some.injEq] at HA
      subst HA
      rcases aU with aU | aU
      · exact Am e he a1 aU
      · have bS:=oB e he a1
        rw [x0 _ aU] at bS
        cases bS
     have adu:j≠p:=fun e=>by
      subst e
      rcases azy with h | h
      · rw [uq] at h;cases h
      · exact adt h
     have aBB:∀ u ∈ w4,(listed.setIfInBounds j true).getD u false=false:=fun u hu=>by
      have:=x0 u hu
      have e6:j≠u:=fun e=>adt (e ▸ hu)
      simp only [Array.getD_eq_getD_getElem?,Array.getElem?_setIfInBounds,if_neg e6] at this ⊢
      exact this
     have Ud:(listed.setIfInBounds j true).getD p false=false:=by
      simp only [Array.getD_eq_getD_getElem?,Array.getElem?_setIfInBounds,if_neg adu] at ny ⊢
      exact ny
     have ady:((listed.setIfInBounds i true).setIfInBounds j true).getD p false=false:=by
      simp only [Array.getD_eq_getD_getElem?,Array.getElem?_setIfInBounds,if_neg adu,if_neg (Ne.symm ur)] at ny ⊢
      exact ny
     have aU:=wpOp_putIf uq (G_ j jP uq iR Hr Am) (fun cs b=>HM i aB cs b hi) (fun cs b=>HM j jP cs b uq) gu hy aC
     have R1:∀ k ok,ops[k]? =some ok->k≠i->(listed.setIfInBounds j true).getD k true=false ->
      (∀ e ∈ ok.after,Region.binds .any e=true->e.on≠i)->aB.apart ops ok=true:=fun k ok bh T2 x0 oG=>by
      refine G_ k ok bh T2 ?_ oG
      by_cases Ai:j=k
      · subst Ai;exact Hr
      · rw [getD_set_ne true Ai] at x0;exact x0
     refine wpOp_mono (fun bM aD bS=>⟨fun _=>bS.2.1 ady,cv (listed.setIfInBounds j true) bM aD R1 Ud aBB (ready_mono bU (Ne.symm iR)) bS.1 (bS.2.1 ady) ?_⟩) aU
     rw [Array.setIfInBounds_comm _ _ iR]
     exact bS.2.2
theorem agm {i:Nat} {aB:Oper} {v:Value} (hi:ops[i]? =some aB) (HM:∀ (j:Nat) (o:Oper) cs b,ops[j]? =some o->o.op≠ .select cs b) (ur:p≠i)
 (gu:∀ c a w,Q (.panic c) (a.put aB.dst v) w->Q (.panic c) a w) :
 ∀ (iA:Nat) (listed:Array Bool) (a:Act) (w:World),
   (∀ j jP,ops[j]? =some jP->j≠i->listed.getD j true=false->(∀ e ∈ jP.after,Region.binds .any e=true->e.on≠i)->aB.apart ops jP=true) ->
   (listed.getD p false=false->S w)->i ∈ Region.ready .any ops listed->YieldsIf P ops (fun _=>True) aB v a ->
   vB P .any ops Q p S iA (listed.setIfInBounds i true) (a.put aB.dst v) w->vB P .any ops Q p S (iA+ 1) listed a w:=by
 have HN:∀ (C':Array Bool) (b:Bool),(C'.setIfInBounds i true).getD p b=C'.getD p b:=fun C' b=>by
  simp only [Array.getD_eq_getD_getElem?,Array.getElem?_setIfInBounds,if_neg (Ne.symm ur)]
 intro iA
 induction iA with
 | zero=>
   intro listed a w _ iC bU hy H
   refine ⟨fun h=>(by rw [h] at bU;cases bU),fun j bb=>?_⟩
   by_cases iR:j=i
   · subst iR;exact hy.wpOp hi trivial ⟨fun h=>iC (by rwa [HN] at h),H⟩
   · have:=ready_mono bb iR
     rw [H.1] at this
     cases this
 | succ iA cv=>
   intro listed a w G_ iC bU hy H
   refine ⟨fun h=>(by rw [h] at bU;cases bU),fun j bb=>?_⟩
   by_cases iR:j=i
   · subst iR;exact hy.wpOp hi trivial ⟨fun h=>iC (by rwa [HN] at h),H⟩
   · have aC:=H.2 j (ready_mono bb iR)
     obtain ⟨Hr,jP,uq,oB⟩:=mem_ready.1 bb
     have Am:∀ e ∈ jP.after,Region.binds .any e=true->e.on≠i:=fun e he a1 heq=>by
      have aC:=oB e he a1
      have bE:=(mem_ready.1 bU).1
      rw [heq] at aC
      rcases Nat.lt_or_ge i listed.size with dP | dP
      · simp [dP] at bE aC;rw [bE] at aC;cases aC
      · simp [Array.getElem?_eq_none dP] at aC
     have aU:=wpOp_putIf uq (G_ j jP uq iR Hr Am) (fun cs b=>HM i aB cs b hi) (fun cs b=>HM j jP cs b uq) gu hy aC
     have R1:∀ k ok,ops[k]? =some ok->k≠i->(listed.setIfInBounds j true).getD k true=false ->
      (∀ e ∈ ok.after,Region.binds .any e=true->e.on≠i)->aB.apart ops ok=true:=fun k ok bh T2 x0 oG=>by
      refine G_ k ok bh T2 ?_ oG
      by_cases Ai:j=k
      · subst Ai;exact Hr
      · rw [getD_set_ne true Ai] at x0;exact x0
     have acP:∀ aD,(((listed.setIfInBounds i true).setIfInBounds j true).getD p false=false->S aD)->(listed.setIfInBounds j true).getD p false=false->S aD:=fun aD ai xW=>
      ai (by rw [Array.setIfInBounds_comm _ _ (Ne.symm iR),HN];exact xW)
     refine wpOp_mono (fun bM aD bS=>⟨acP aD bS.2.1,cv (listed.setIfInBounds j true) bM aD R1 (acP aD bS.2.1) (ready_mono bU (Ne.symm iR)) bS.1 ?_⟩) aU
     rw [Array.setIfInBounds_comm _ _ iR]
     exact bS.2.2
end
def dV (P:Program) (ops:Array Oper) (Q:Exit->Act->World->Prop) (p:Nat) (S:World->Prop) (f:Nat) (ds:List Nat) (a:Act) (w:World):Prop:=((hB ops.size ds).getD p false=false->S w)/\vB P .any ops (NoPanic Q) p S f (hB ops.size ds) a w
def AM (ops:List Oper):List Nat->Option (List Oper)
 | []=>some []
 | i::r=>match nth ops i,AM ops r with
   | some o,some os=>some (o::os)
   | _,_=>none
def afn (ops:Array Oper) (i:Nat):Bool:=match nth ops.toList i with
 | some o=>!C5 o.op
 | none=>false
def DK (ops:Array Oper) (p:Nat):List Nat->List Nat->Bool
 | _,[]=>true
 | ds,i::r=>Nx ops ds i && (Yh ops p i ds || afn ops i) && !Nat.beq p i && DK ops p (i::ds) r
def Ir:List Nat->List Nat->List Nat
 | [],ds=>ds
 | i::r,ds=>Ir r (i::ds)
section
variable {P:Program} {G:mf} {ops:Array Oper} {n:hb} {M:List (Nat × Nat × List Value)} {S:World->Prop} {Q:Exit->Act->World->Prop} {a:Act} {w:World} {f p:Nat} {ds:List Nat}
theorem aFn (i:Nat):hB ops.size (i::ds)=(hB ops.size ds).setIfInBounds i true:=rfl
theorem dV.wpAny (h:dV P ops Q p S f ds a w):Go.wpAny P .any ops (NoPanic Q) f (hB ops.size ds) a w:=ago f _ a w h.2
theorem hd {id m:Nat} {lo:List Oper} (p:Nat) (S:World->World->Prop) (hm:P.follows .mixedOrders=true) (az:Nat.beq lo.length m=true) (h:∀ aD,a' [] w aD->dV P lo.toArray Q p (S aD) m [] a aD):(Code.region id lo.toArray true).wp P Q a w:=by
 have az:=Nat.eq_of_beq_eq_true az
 subst az
 exact wp_region_noPanic (wp_region_any hm (h _ (a'.drew [] w)).wpAny)
theorem fm (hc:(Region.ready .any ops (hB ops.size ds)).isEmpty=true) (h:Q .normal a w) (iC:(hB ops.size ds).getD p false=false->S w):dV P ops Q p S f ds a w:=by
 refine ⟨iC,?_⟩
 have bU:=List.isEmpty_iff.1 hc
 cases f with
 | zero=>exact ⟨bU,NoPanic.normal h⟩
 | succ f=>exact ⟨fun _=>NoPanic.normal h,by rw [bU];simp⟩
theorem dV.next (Ic:Nat) (PY:World->Prop) (b3:(hB ops.size ds).getD p false=true) (h:dV P ops Q Ic PY f ds a w):dV P ops Q p S f ds a w:=
 ⟨fun I=>absurd (b3.symm.trans I) (by simp),agn f _ a w b3 h.2⟩
theorem ZY (gM:r2 P G) (fr:∀ w,S w->iT w M) (oA:S w) {jj:List (Nat × Value)} {lG:List hp} {lT:List (Nat × Nat)} (c0:nl lT):∀ (is:List Nat) {os:List Oper} {a5 ds:List Nat} {b0:List (Nat × Value)} {gs:List hp} {l:List (Nat × Nat)} {a:Act},
 (hB ops.size ds).getD p false=false->AM ops.toList is=some os->DK ops p ds is=true->Fr n b0 a->mr a gs->ev G ops n M os a5 b0 gs l=some (jj,lG,lT)->(∀ bM,Fr n jj bM->dV P ops Q p S f (Ir is ds) bM w)->dV P ops Q p S (f+is.length) ds a w
 | [],os,a5,ds,b0,gs,l,a,_,br,_,I,_,h,bh=>by
   simp only [AM,Option.some.injEq] at br
   subst br
   simp only [ev,Option.some.injEq,Prod.mk.injEq] at h
   exact bh a (by rw [<-h.1];exact I)
 | i::is,os,a5,ds,b0,gs,l,a,ny,br,bA,I,dd,h,bh=>by
   simp only [AM] at br
   split at br
   · rename_i o aKi aC aU
     simp only [Option.some.injEq] at br
     subst br
     rw [sP,Array.getElem?_toList] at aC
     simp only [DK,Bool.and_eq_true,Bool.not_eq_true'] at bA
     obtain ⟨⟨⟨ps,x2⟩,ur⟩,aBA⟩:=bA
     have HB:p≠i:=fun e=>by rw [e] at ur;simp at ur
     obtain ⟨d,u,dN,fr',zK,l',⟨bT,xZ⟩,e5,z_,dP⟩:=QO (C:=S) gM fr I dd h c0 (xB c0)
     have Ud:(hB ops.size (i::ds)).getD p false=false:=by
      rw [aFn]
      simp only [Array.getD_eq_getD_getElem?,Array.getElem?_setIfInBounds,if_neg (Ne.symm HB)] at ny ⊢
      exact ny
     have next:=ZY gM fr oA c0 is Ud aU aBA e5 z_ dP bh
     simp only [Nx,Bool.and_eq_true] at ps
     refine ⟨fun _=>oA,?_⟩
     have:=next.2
     rw [show f+(i::is).length=f+is.length+ 1 by simp [Nat.add_assoc]]
     rw [Bool.or_eq_true] at x2
     rcases x2 with x2 | T_
     · refine aHr (v:=u) aC (Region.noSelect_spec ps.1.1) HB (fun c a w h=>h) (Yi x2).1 (Yi x2).2.1 (f+is.length) _ a w (Region.free_spec aC ps.1.2) ny (Yi x2).2.2 (by simpa using ps.2) (xZ.imp (fun ⟨x,y,_⟩=>⟨x,y⟩) id) oA ?_
       rw [bT]
       exact this
     · have azs:C5 o.op=false:=by
        unfold afn at T_
        rw [sP,Array.getElem?_toList,aC] at T_
        simpa using T_
       refine agm (v:=u) aC (Region.noSelect_spec ps.1.1) HB (fun c a w h=>h) (f+is.length) _ a w (Region.free_spec aC ps.1.2) (fun _=>oA) (by simpa using ps.2) (xZ.imp (fun ⟨x,_,y⟩=>⟨x,fun w _=>y azs w⟩) id) ?_
       rw [bT]
       exact this
   · cases br
theorem ahJ (is:List Nat) (k:Nat) (dB a5:List Nat) {os:List Oper} {b0 fr':List (Nat × Value)} {L:List Nat} (gM:r2 P G) (fr:∀ w,S w->iT w M) (I:Fr n b0 a) (bh:Nat.beq is.length k=true) (ny:(hB ops.size ds).getD p false=false) (hi:AM ops.toList is=some os) (bA:DK ops p ds is=true)
 (he:j7 G ops n M os a5 b0 dB=some (fr',dup L)) (oA:S w) (next:∀ bM,Fr n fr' bM->dV P ops Q p S f (Ir is ds) bM w):dV P ops Q p S (f+k) ds a w:=by
 have bh:=Nat.eq_of_beq_eq_true bh
 subst bh
 obtain ⟨jj,lG,aC,aU⟩:=QP he
 exact ZY (gs:=[]) gM fr oA (K5 L) is ny hi bA I trivial aC fun bM e5=>next bM (e5.sub aU)
theorem cQ (i:Nat) {o:Oper} (hi:ops[i]? =some o) (hc:(Region.ready .any ops (hB ops.size ds) == [i])=true) (iC:(hB ops.size ds).getD p false=false->S w) (h:wpList P ops (BP (dV P ops Q p S f (i::ds)) (NoPanic Q)) [o] a w):dV P ops Q p S (f+ 1) ds a w:=by
 have bU:=eq_of_beq hc
 refine ⟨iC,⟨fun bE=>(by rw [bU] at bE;cases bE),fun j bb=>?_⟩⟩
 rw [bU] at bb
 have:j=i:=by simpa using bb
 subst this
 exact Yk hi h
theorem Kf (i j:Nat) {o lj:Oper} (hi:ops[i]? =some o) (bb:ops[j]? =some lj) (hc:(Region.ready .any ops (hB ops.size ds) == [i,j])=true) (iC:(hB ops.size ds).getD p false=false->S w) (h:wpList P ops (BP (dV P ops Q p S f (i::ds)) (NoPanic Q)) [o] a w)
 (dP:wpList P ops (BP (dV P ops Q p S f (j::ds)) (NoPanic Q)) [lj] a w):dV P ops Q p S (f+ 1) ds a w:=by
 have bU:=eq_of_beq hc
 refine ⟨iC,⟨fun bE=>(by rw [bU] at bE;cases bE),fun q en=>?_⟩⟩
 rw [bU] at en
 have:q=i\/q=j:=by simpa using en
 rcases this with rfl | rfl
 · exact Yk hi h
 · exact Yk bb dP
theorem cD (h:dV P ops Q p S f ds a w):wpList P ops (BP (dV P ops Q p S f ds) (NoPanic Q)) [] a w:=h
end
end a2
namespace a2
open Go Go.RowKit J
theorem P6 (p q:List UInt8):((⟨⟨p⟩⟩:ByteArray) == ⟨⟨q⟩⟩)=decide (p=q):=by
 show ((⟨p⟩:Array UInt8) == ⟨q⟩)=_
 rw [Bool.eq_iff_iff];simp
structure tc (κ:Type) [DecidableEq κ] where
 enc:κ->Value
 desc:TypeDesc
 same:∀ a b,Instr.sameNow desc (enc a) (enc b)=some (decide (b=a))
 bits:∀ a,Instr.sameBits 10000 (enc a) (enc a)=true
 check:∀ (P:Program) (w:World) (e:Bool) (t:TypeId) (a:κ),P.underlying t=some desc->(Instr.checkKey e 10000 t (enc a)).run P w= .ok () w
def fg:tc Int where
 enc n:=.int .i64 n
 desc:=.int .i64
 same a b:=by
  simp only [Instr.sameNow,if_true,Option.some.injEq]
  rw [Bool.eq_iff_iff]
  simp only [beq_iff_eq,decide_eq_true_iff]
  exact eq_comm
 bits a:=by
  have h:∀ n,Instr.sameBits n (.int .i64 a) (.int .i64 a)=true:=fun n=>by cases n <;> simp [Instr.sameBits]
  exact h 10000
 check P w e t a h:=by
  have dP:∀ n:Nat,(Instr.checkKey e (n+ 1) t (.int .i64 a)).run P w= .ok () w:=fun n=>by simp [Instr.checkKey,run_underlying h]
  exact dP 9999
def du:tc (List UInt8) where
 enc s:=ao s
 desc:=.string
 same a b:=by
  simp only [Instr.sameNow,Option.some.injEq]
  have e:decide (a=b)=decide (b=a):=by rw [decide_eq_decide];exact eq_comm
  exact (P6 a b).trans e
 bits a:=by
  have h:∀ n,Instr.sameBits n (ao a) (ao a)=true:=fun n=>by
   have e:((⟨⟨a⟩⟩:ByteArray) == ⟨⟨a⟩⟩)=true:=(P6 a a).trans (by simp)
   cases n <;> (simp only [Instr.sameBits];exact e)
  exact h 10000
 check P w e t a h:=by
  have dP:∀ n:Nat,(Instr.checkKey e (n+ 1) t (ao a)).run P w= .ok () w:=fun n=>by simp [Instr.checkKey,run_underlying h]
  exact dP 9999
section
variable {κ β:Type} [DecidableEq κ] (K:tc κ) (ev:β->Value)
def iq (es:List MapEntry) (d:List (κ × β)):Prop:=es.map (fun e=>(e.key,e.val))=d.map (fun p=>(K.enc p.1,ev p.2))
def r3 (w:World) (r:Nat) (d:List (κ × β)):Prop:=∃ es clock,w.heap[r]? =some (.map es clock)/\iq K ev es.toList d/\(es.toList.map (·.born)).Pairwise (· < ·)/\ ∀ e ∈ es.toList,e.born <clock
def aq.map (r:Nat) (d:List (κ × β)):aq where
 fI:=[r]
 ok w:=r3 K ev w r d
 law w aD h bh:=by
  obtain ⟨es,c,aC,aU⟩:=bh
  exact ⟨es,c,(h r (by simp)).trans aC,aU⟩
def al.map (r:Nat) (d:List (κ × β)):al where
 ok M w:=r ∉ M/\r <w.heap.size/\r3 K ev w r d
 law M iu w aD ad hm h:=by
  obtain ⟨aC,aU,es,c,bS,ew⟩:=h
  exact ⟨fun ai=>by rcases hm r ai with e | e;exact aC e;omega,Nat.lt_of_lt_of_le aU ad.size,es,c,(ad.block r aU aC).trans bS,ew⟩
end
section
variable {κ β:Type} [DecidableEq κ] {K:tc κ} {ev:β->Value}
theorem acn {k:κ}:∀ {es:List MapEntry} {d:List (κ × β)} (i:Nat),iq K ev es d->Instr.findNow K.desc (K.enc k) es i=some ((kE d k).bind fun p=>(dv d k).map fun v=>(i+p,ev v))
 | [],[],i,_=>rfl
 | [],_::_,_,h=>by simp [iq] at h
 | _::_,[],_,h=>by simp [iq] at h
 | e::es,p::d,i,h=>by
   simp only [iq,List.map_cons,List.cons.injEq,Prod.mk.injEq] at h
   obtain ⟨⟨aC,aU⟩,bS⟩:=h
   simp only [Instr.findNow,aC,K.same,kE,dv]
   by_cases b3:p.1 =k
   · simp [b3,aU]
   · simp only [b3,decide_false,if_false]
     rw [acn (i+ 1) bS]
     cases hm:kE d k with
     | none=>rfl
     | some q=>simp only [Option.bind_some,Option.map_some];rw [show i+ 1 +q=i+(q+ 1) by omega]
theorem Mz {k:κ}:∀ {d:List (κ × β)},(kE d k).isSome=(dv d k).isSome
 | []=>rfl
 | p::d=>by
   simp only [kE,dv]
   by_cases b3:p.1 =k
   · simp [b3]
   · simp [b3,Mz]
variable {P:Program} {o:Oper} {a:Act} {w:World} {x y z:Operand} {t lR xA:TypeId} {r:Nat} {d:List (κ × β)} {k:κ} {v:β}
theorem run_findKey {es:Array MapEntry} (bh:P.underlying lR=some K.desc) (he:iq K ev es.toList d):(Instr.findKey lR (K.enc k) es.toList).run P w= .ok ((kE d k).bind fun p=>(dv d k).map fun v=>(p,ev v)) w:=by
 have h:=acn (k:=k) 0 he
 simp only [Nat.zero_add] at h
 simp only [Instr.findKey,Sem.run_bind,run_underlying bh,Result.andThen_ok,h]
 rfl
theorem aIE (br:o.op= .makeMap t none):cg P o a w (.map (some w.heap.size)) (w.alloc (.map #[] 0)):=by
 simp only [cg,execOp,br,Sem.run_bind]
 rfl
theorem aFh (w:World):(aq.map K ev w.heap.size ([]:List (κ × β))).ok (w.alloc (.map #[] 0)):=⟨#[],0,heap_alloc_new w _,rfl,by simp,by simp⟩
theorem Jp {Jr:β} (bA:P.underlying t=some (.map lR xA)) (bh:P.underlying lR=some K.desc) (c0:∀ w,(zeroValue xA).run P w= .ok (ev Jr) w) (hm:r3 K ev w r d) (br:o.op= .lookup t x y true) (ai:a.eval x= .map (some r)) (hy:a.eval y=K.enc k) :
 cg P o a w (.tuple #[ev ((dv d k).getD Jr),.bool (dv d k).isSome]) w:=by
 obtain ⟨es,clock,aC,aU,_⟩:=hm
 have I:=run_findKey (P:=P) (w:=w) (k:=k) bh aU
 simp only [cg,execOp,br,ai,hy,Instr.lookup,Sem.run_bind,Sem.run_pure,run_underlying bA,Result.andThen_ok,MapKept.run_getObj_map aC,K.check P w es.isEmpty lR k bh,I]
 have a5:=Mz (k:=k) (d:=d)
 cases b3:kE d k with
 | none=>
   rw [b3] at a5
   cases dd:dv d k with
   | none=>
     simp only [Option.bind_none,Sem.run_bind,Sem.run_pure,c0,Result.andThen_ok]
     rfl
   | some u=>rw [dd] at a5;cases a5
 | some p=>
   rw [b3] at a5
   cases dd:dv d k with
   | none=>rw [dd] at a5;cases a5
   | some u=>rfl
theorem Jo {Jr:β} (bA:P.underlying t=some (.map lR xA)) (bh:P.underlying lR=some K.desc) (c0:∀ w,(zeroValue xA).run P w= .ok (ev Jr) w) (hm:r3 K ev w r d) (br:o.op= .lookup t x y false) (ai:a.eval x= .map (some r)) (hy:a.eval y=K.enc k) :
 cg P o a w (ev ((dv d k).getD Jr)) w:=by
 obtain ⟨es,clock,aC,aU,_⟩:=hm
 have I:=run_findKey (P:=P) (w:=w) (k:=k) bh aU
 simp only [cg,execOp,br,ai,hy,Instr.lookup,Sem.run_bind,Sem.run_pure,run_underlying bA,Result.andThen_ok,MapKept.run_getObj_map aC,K.check P w es.isEmpty lR k bh,I]
 have a5:=Mz (k:=k) (d:=d)
 cases b3:kE d k with
 | none=>
   rw [b3] at a5
   cases dd:dv d k with
   | none=>
     simp only [Option.bind_none,Sem.run_bind,Sem.run_pure,c0,Result.andThen_ok]
     rfl
   | some u=>rw [dd] at a5;cases a5
 | some p=>
   rw [b3] at a5
   cases dd:dv d k with
   | none=>rw [dd] at a5;cases a5
   | some u=>rfl
theorem YG (bA:P.underlying t=some (.map lR xA)) (hm:r3 K ev w r d) (br:o.op= .call { callee:=.builtin .len,args:=#[x],argTypes:=#[t] }) (ai:a.eval x= .map (some r)):cg P o a w (.int .i64 (d.length:Int)) w:=by
 obtain ⟨es,clock,aC,aU,_⟩:=hm
 have az:es.size=d.length:=by
  have:=congrArg List.length aU
  simpa using this
 simp only [cg,execOp,br,resolve,invoke,List.map_toArray,List.map_cons,List.map_nil,ai]
 simp [go_sem,Builtin.len_,run_underlying bA,goInt,MapKept.run_getObj_map aC,az]
theorem aca {k:κ} {v:β}:∀ {es:List MapEntry} {d:List (κ × β)} {p:Nat},iq K ev es d->kE d k=some p->iq K ev (es.modify p fun e=>{ e with key:=K.enc k,val:=ev v }) (hI d k v)
 | [],[],_,_,b3=>by simp [kE] at b3
 | [],_::_,_,h,_=>by simp [iq] at h
 | _::_,[],_,h,_=>by simp [iq] at h
 | e::es,q::d,p,h,b3=>by
   simp only [iq,List.map_cons,List.cons.injEq,Prod.mk.injEq] at h
   obtain ⟨⟨aC,aU⟩,bS⟩:=h
   simp only [kE] at b3
   by_cases en:q.1 =k
   · simp only [en,if_true,Option.some.injEq] at b3
     subst b3
     simp only [hI,en,if_true,iq,List.modify_zero_cons,List.map_cons,List.cons.injEq,true_and]
     exact bS
   · simp only [en,if_false,Option.map_eq_some_iff] at b3
     obtain ⟨Ic,xW,rfl⟩:=b3
     have:=aca (v:=v) bS xW
     simp only [hI,en,if_false,iq,List.modify_succ_cons,List.map_cons,List.cons.injEq,Prod.mk.injEq,aC,aU,and_self,true_and]
     exact this
theorem ab' {k:κ} {v:β} {c:Nat}:∀ {es:List MapEntry} {d:List (κ × β)},iq K ev es d->kE d k=none->iq K ev (es++[{ key:=K.enc k,val:=ev v,born:=c }]) (hI d k v)
 | [],[],_,_=>rfl
 | [],_::_,h,_=>by simp [iq] at h
 | _::_,[],h,_=>by simp [iq] at h
 | e::es,q::d,h,b3=>by
   simp only [iq,List.map_cons,List.cons.injEq,Prod.mk.injEq] at h
   obtain ⟨⟨aC,aU⟩,bS⟩:=h
   simp only [kE] at b3
   by_cases en:q.1 =k
   · simp [en] at b3
   · simp only [en,if_false,Option.map_eq_none_iff] at b3
     have:=ab' (v:=v) (c:=c) bS b3
     simp only [hI,en,if_false,iq,List.cons_append,List.map_cons,List.cons.injEq,Prod.mk.injEq,aC,aU,and_self,true_and]
     exact this
theorem ab_ {k:κ}:∀ {es:List MapEntry} {d:List (κ × β)} {p:Nat},iq K ev es d->kE d k=some p-> ∃ e,es[p]? =some e/\e.key=K.enc k
 | [],[],_,_,b3=>by simp [kE] at b3
 | [],_::_,_,h,_=>by simp [iq] at h
 | _::_,[],_,h,_=>by simp [iq] at h
 | e::es,q::d,p,h,b3=>by
   simp only [iq,List.map_cons,List.cons.injEq,Prod.mk.injEq] at h
   obtain ⟨⟨aC,aU⟩,bS⟩:=h
   simp only [kE] at b3
   by_cases en:q.1 =k
   · simp only [en,if_true,Option.some.injEq] at b3
     subst b3
     exact ⟨e,rfl,by rw [aC,en]⟩
   · simp only [en,if_false,Option.map_eq_some_iff] at b3
     obtain ⟨Ic,xW,rfl⟩:=b3
     simpa using ab_ bS xW
theorem aIF (bA:P.underlying t=some (.map lR xA)) (bh:P.underlying lR=some K.desc) (hm:r3 K ev w r d) (br:o.op= .mapUpdate t x y z\/o.op= .insert t x y z) (ai:a.eval x= .map (some r)) (hy:a.eval y=K.enc k) (c0:a.eval z=ev v) :
 ∃ aD,w5 P o a w aD/\a' [r] w aD/\r3 K ev aD r (hI d k v):=by
 obtain ⟨es,clock,aC,aU,bS,ew⟩:=hm
 have I:=run_findKey (P:=P) (w:=w) (k:=k) bh aU
 have a5:=Mz (k:=k) (d:=d)
 have eh:r <w.heap.size:=(Array.getElem?_eq_some_iff.1 aC).1
 have lL:∀ lj:Obj,a' [r] w { w with heap:=w.heap.setIfInBounds r lj }:=fun lj=>⟨rfl,rfl,rfl,by simp,fun q _ af=>by
  rw [Array.getElem?_setIfInBounds,if_neg (fun e=>af (by simp [e]))]⟩
 cases b3:kE d k with
 | none=>
   rw [b3] at I
   refine ⟨{ w with heap:=w.heap.setIfInBounds r (.map (es.push { key:=K.enc k,val:=ev v,born:=clock }) (clock+ 1)) },?_,lL _,es.push { key:=K.enc k,val:=ev v,born:=clock },clock+ 1,?_,?_,?_,?_⟩
   · rcases br with br | br <;>
     · simp only [w5,execOp,br,ai,hy,c0,Instr.mapUpdate,Sem.run_bind,run_underlying bA,Result.andThen_ok,MapKept.run_getObj_map aC,K.check P w false lR k bh,I,Option.bind_none,MapKept.run_setObj_map _ aC]
       rfl
   · simp [eh]
   · simpa using ab' aU b3
   · simp only [Array.toList_push,List.map_append,List.map_cons,List.map_nil,List.pairwise_append]
     refine ⟨bS,by simp,fun b a1 c hc=>?_⟩
     obtain ⟨e,he,rfl⟩:=List.mem_map.1 a1
     simp only [List.mem_singleton] at hc
     subst hc
     exact ew e he
   · intro e he
     simp only [Array.toList_push,List.mem_append,List.mem_singleton] at he
     rcases he with he | rfl
     · exact Nat.lt_succ_of_lt (ew e he)
     · exact Nat.lt_succ_self _
 | some p=>
   rw [b3] at I a5
   obtain ⟨e,he,avN⟩:=ab_ (k:=k) aU b3
   cases dd:dv d k with
   | none=>rw [dd] at a5;cases a5
   | some u=>
     rw [dd] at I
     have avJ:es[p]? =some e:=by simpa using he
     have acT:((es.modify p fun e=>{ e with key:=K.enc k,val:=ev v }).toList.map (·.born))=es.toList.map (·.born):=by
      rw [Array.toList_modify]
      apply List.ext_getElem?
      intro i
      simp only [List.getElem?_map,List.getElem?_modify]
      cases hi:es.toList[i]? with
      | none=>simp
      | some e'=>by_cases ayw:p=i <;> simp [ayw]
     refine ⟨{ w with heap:=w.heap.setIfInBounds r (.map (es.modify p fun e=>{ e with key:=K.enc k,val:=ev v }) clock) },?_,lL _,es.modify p fun e=>{ e with key:=K.enc k,val:=ev v },clock,?_,?_,?_,?_⟩
     · have ayA:(Instr.keyThatStays e.key (K.enc k)).run P w= .ok (K.enc k) w:=by
        rw [avN];simp only [Instr.keyThatStays,K.bits,if_true];rfl
       rcases br with br | br <;>
       · simp only [w5,execOp,br,ai,hy,c0,Instr.mapUpdate,Sem.run_bind,run_underlying bA,Result.andThen_ok,MapKept.run_getObj_map aC,K.check P w false lR k bh,I,Option.bind_some,Option.map_some,avJ,Option.getD_some,ayA,MapKept.run_setObj_map _ aC]
         rfl
     · simp [eh]
     · rw [Array.toList_modify];exact aca aU b3
     · rw [acT];exact bS
     · intro bO avK
       have:bO.born ∈ es.toList.map (·.born):=by rw [<-acT];exact List.mem_map.2 ⟨bO,avK,rfl⟩
       obtain ⟨b4,avL,heq⟩:=List.mem_map.1 this
       rw [<-heq];exact ew b4 avL
end
end a2
namespace a2
open Go Go.RowKit J
def ZP (E:List aq):Prop:=∀ (i:Nat) (x:aq),E[i]? =some x->x.fI.Nodup/\ ∀ (j:Nat) (y:aq),E[j]? =some y->i≠j-> ∀ k ∈ x.fI,k ∉ y.fI
theorem K':∀ {E:List aq},(cP E).Nodup->ZP E
 | [],_=>fun i x h=>by simp at h
 | e::E,h=>by
   have dP:(e.fI++cP E).Nodup:=by simpa [cP] using h
   rw [List.nodup_append] at dP
   obtain ⟨aC,aU,bS⟩:=dP
   have cv:=K' aU
   intro i x ai
   cases i with
   | zero=>
     simp only [List.getElem?_cons_zero,Option.some.injEq] at ai
     subst ai
     refine ⟨aC,fun j y hy e6 k bh kc=>?_⟩
     cases j with
     | zero=>exact e6 rfl
     | succ j=>exact bS k bh k (List.mem_flatMap.2 ⟨y,List.mem_of_getElem? (by simpa using hy),kc⟩) rfl
   | succ i=>
     have ai:E[i]? =some x:=by simpa using ai
     refine ⟨(cv i x ai).1,fun j y hy e6 k bh kc=>?_⟩
     cases j with
     | zero=>
       simp only [List.getElem?_cons_zero,Option.some.injEq] at hy
       subst hy
       exact bS k kc k (List.mem_flatMap.2 ⟨x,List.mem_of_getElem? ai,bh⟩) rfl
     | succ j=>exact (cv i x ai).2 j y (by simpa using hy) (by omega) k bh kc
theorem afo:∀ {E:List aq},ZP E->(cP E).Nodup
 | [],_=>by simp [cP]
 | e::E,h=>by
   have bO:cP (e::E)=e.fI++cP E:=by simp [cP]
   rw [bO,List.nodup_append]
   refine ⟨(h 0 e rfl).1,afo fun i x ai=>⟨(h (i+ 1) x (by simpa using ai)).1,fun j y hy e6 k bh=>(h (i+ 1) x (by simpa using ai)).2 (j+ 1) y (by simpa using hy) (by omega) k bh⟩,fun a bK b a1 Lq=>?_⟩
   subst Lq
   obtain ⟨x,ai,bh⟩:=List.mem_flatMap.1 a1
   obtain ⟨i,hi,rfl⟩:=List.mem_iff_getElem.1 ai
   exact (h 0 e rfl).2 (i+ 1) E[i] (by simp [hi]) (by omega) a bK bh
def DF (E:List aq):List Nat->Option (List aq)
 | []=>some []
 | i::r=>match nth E i,DF E r with
   | some x,some xs=>some (x::xs)
   | _,_=>none
def LZ:List Nat->Nat->Bool
 | [],_=>false
 | i::r,j=>Nat.beq i j || LZ r j
def H_:List Nat->Bool
 | []=>true
 | i::r=>!LZ r i && H_ r
theorem aEB {l:List Nat} {j:Nat} (h:LZ l j=false):j ∉ l:=by
 induction l with
 | nil=>simp
 | cons i r cv=>
   simp only [LZ,Bool.or_eq_false_iff] at h
   intro hm
   rcases List.mem_cons.1 hm with rfl | e
   · simp at h
   · exact cv h.2 e
theorem afl:∀ {l:List Nat},H_ l=true->l.Nodup
 | [],_=>by simp
 | i::r,h=>by
   simp only [H_,Bool.and_eq_true,Bool.not_eq_true'] at h
   exact List.nodup_cons.2 ⟨aEB h.1,afl h.2⟩
theorem Nl {E:List aq}:∀ {is:List Nat} {lv:List aq},DF E is=some lv-> ∀ (m:Nat) (x:aq),lv[m]? =some x-> ∃ i:Nat,is[m]? =some i/\E[i]? =some x
 | [],lv,h,m,x,ai=>by simp only [DF,Option.some.injEq] at h;subst h;simp at ai
 | i::r,lv,h,m,x,ai=>by
   simp only [DF] at h
   split at h
   · rename_i y ys aC aU
     simp only [Option.some.injEq] at h
     subst h
     cases m with
     | zero=>
       simp only [List.getElem?_cons_zero,Option.some.injEq] at ai
       subst ai
       exact ⟨i,rfl,by rw [<-sP];exact aC⟩
     | succ m=>obtain ⟨q,lk,l4⟩:=Nl aU m x (by simpa using ai);exact ⟨q,by simpa using lk,l4⟩
   · cases h
section
variable {W w aD:World} {M0 X:List Nat} {E:List aq} {D:List al}
theorem au.kr (h:au W M0 X w E D) (is:List Nat) {lv:List aq} (af:H_ is=true) (a5:DF E is=some lv):au W M0 X w lv D:=by
 have um:∀ x ∈ lv,x ∈ E:=fun x ai=>by
  obtain ⟨m,hm,rfl⟩:=List.mem_iff_getElem.1 ai
  obtain ⟨i,_,hi⟩:=Nl a5 m _ (List.getElem?_eq_getElem hm)
  exact List.mem_of_getElem? hi
 have I:∀ k ∈ cP lv,k ∈ cP E:=fun k bh=>by
  obtain ⟨x,ai,LM⟩:=List.mem_flatMap.1 bh
  exact List.mem_flatMap.2 ⟨x,um x ai,LM⟩
 have bT:=K' h.dT
 have T9:=afl af
 refine ⟨h.ev,h.lS,fun k bh=>h.lt k (I k bh),fun x ai=>h.ok x (um x ai),afo fun m x ai=>?_,fun y hy=>y.law _ _ w w (a'.refl _ _) (fun k bh=>.inl ?_) (h.rd y hy)⟩
 · obtain ⟨i,hi,adS⟩:=Nl a5 m x ai
   refine ⟨(bT i x adS).1,fun h2 y hy e6 k bh=>?_⟩
   obtain ⟨j,bb,aEo⟩:=Nl a5 h2 y hy
   refine (bT i x adS).2 j y aEo (fun e=>?_) k bh
   subst e
   obtain ⟨l1,bO⟩:=List.getElem?_eq_some_iff.1 hi
   obtain ⟨gf,b4⟩:=List.getElem?_eq_some_iff.1 bb
   rcases Nat.lt_or_gt_of_ne e6 with eh | eh
   · exact (List.pairwise_iff_getElem.1 T9 m h2 l1 gf eh) (bO.trans b4.symm)
   · exact (List.pairwise_iff_getElem.1 T9 h2 m gf l1 eh) (b4.trans bO.symm)
 · rcases List.mem_append.1 bh with e | e
   · exact List.mem_append.2 (.inl e)
   · exact List.mem_append.2 (.inr (I k e))
theorem CA (A B:List aq):cP (A++B)=cP A++cP B:=by simp [cP]
theorem au.into (h:au W M0 X w E D) (m:Nat):au w (cP (E.take m)) (X++cP (E.drop m)) w (E.take m) D:=by
 have gq:cP E=cP (E.take m)++cP (E.drop m):=by rw [<-CA,List.take_append_drop]
 have bT:=h.dT
 rw [gq,List.nodup_append] at bT
 refine ⟨a'.refl _ _,fun k bh=>?_,fun k bh=>⟨(h.lt k (by rw [gq];simp [bh])).1,.inl bh⟩,fun x ai=>h.ok x (List.mem_of_mem_take ai),bT.1,fun y hy=>y.law _ _ w w (a'.refl _ _) (fun k bh=>.inl ?_) (h.rd y hy)⟩
 · rcases List.mem_append.1 bh with e | e
   · refine ⟨Nat.lt_of_lt_of_le (h.lS k e).1 h.ev.size,fun kc=>?_⟩
     have:=(h.lt k (by rw [gq];simp [kc])).2
     rcases this with b4 | b4
     · exact (h.lS k e).2 b4
     · have:=(h.lS k e).1;omega
   · exact ⟨(h.lt k (by rw [gq];simp [e])).1,fun kc=>bT.2.2 k kc k e rfl⟩
 · rw [gq]
   simp only [List.mem_append] at bh ⊢
   rcases bh with (e | e) | e <;> simp [e]
def PU:List al->Prop
 | []=>True
 | y::r=>(∀ M iu w aD,y.ok M w->y.ok iu aD)/\PU r
theorem ZQ:∀ {D:List al},PU D-> ∀ y ∈ D,∀ M iu w aD,y.ok M w->y.ok iu aD
 | [],_,y,hy=>by simp at hy
 | z::r,h,y,hy=>by
   rcases List.mem_cons.1 hy with rfl | e
   · exact h.1
   · exact ZQ h.2 y e
theorem nL {α:Type} {T:fl α} (ka:∀ F zg w aD cs d,T.rd F w cs d->T.rd zg aD cs d) {xs:List Value} {l:List α} (M iu:List Nat) (w aD:World) (h:(al.rows T xs l).ok M w):(al.rows T xs l).ok iu aD:=by
 have key:∀ {l:List α} {xs:List Value},fS T (ib M w) w xs l->fS T (ib iu aD) aD xs l:=by
  intro l
  induction l with
  | nil=>intro xs h;exact h
  | cons d r cv=>intro xs h;obtain ⟨cs,ys,rfl,aC,aU⟩:=h;exact ⟨cs,ys,rfl,ka _ _ _ _ _ _ aC,cv aU⟩
 exact key h
theorem au.Z2 (h:au W M0 X w E D) (m:Nat) {P0:List Nat} {r4:List aq} {ha:List al} (k:au w (cP (E.take m)) P0 aD r4 ha) (anH:∀ y ∈ ha,y.ok (X++cP (r4++E.drop m)) aD):au W M0 X aD (r4++E.drop m) (ha++D):=by
 have gq:cP E=cP (E.take m)++cP (E.drop m):=by rw [<-CA,List.take_append_drop]
 have bT:=h.dT
 rw [gq,List.nodup_append] at bT
 have acO:∀ b ∈ cP (E.take m),b <w.heap.size/\(b ∈ M0\/W.heap.size<=b):=fun b a1=>h.lt b (by rw [gq];simp [a1])
 have il:∀ b ∈ cP (E.drop m),b <w.heap.size/\(b ∈ M0\/W.heap.size<=b):=fun b a1=>h.lt b (by rw [gq];simp [a1])
 have ad:=k.ev
 have Rm:∀ b ∈ cP r4,b ∉ cP (E.drop m):=fun b a1 iD=>by
  rcases (k.lt b a1).2 with e | e
  · exact bT.2.2 b e b iD rfl
  · have:=(il b iD).1;omega
 refine ⟨h.ev.trans ad (fun b a1=>(acO b a1).2),h.lS,fun b a1=>?_,fun x ai=>?_,?_,fun y hy=>?_⟩
 · rw [CA] at a1
   rcases List.mem_append.1 a1 with e | e
   · refine ⟨(k.lt b e).1,?_⟩
     rcases (k.lt b e).2 with b4 | b4
     · exact (acO b b4).2
     · exact .inr (Nat.le_trans h.ev.size b4)
   · exact ⟨Nat.lt_of_lt_of_le (il b e).1 ad.size,(il b e).2⟩
 · rcases List.mem_append.1 ai with e | e
   · exact k.ok x e
   · refine x.law w aD (fun b a1=>?_) (h.ok x (List.mem_of_mem_drop e))
     have iD:b ∈ cP (E.drop m):=List.mem_flatMap.2 ⟨x,e,a1⟩
     exact ad.block b (il b iD).1 (fun bh=>bT.2.2 b bh b iD rfl)
 · rw [CA,List.nodup_append]
   exact ⟨k.dT,bT.2.1,fun a bK b a1 e=>by subst e;exact Rm a bK a1⟩
 · rcases List.mem_append.1 hy with e | e
   · exact anH y e
   · refine y.law _ _ w aD (ad.mono fun b a1=>?_) (fun b a1=>?_) (h.rd y e)
     · rw [gq];simp [a1]
     · rw [CA] at a1
       rw [gq]
       simp only [List.mem_append] at a1 ⊢
       rcases a1 with bO | bO | bO
       · simp [bO]
       · rcases (k.lt b bO).2 with b4 | b4
         · simp [b4]
         · exact .inr b4
       · simp [bO]
theorem au.back (h:au W M0 X w E D) (m:Nat) {r4:List aq} {ha:List al} (k:au w (cP (E.take m)) (X++cP (E.drop m)) aD r4 ha):au W M0 X aD (r4++E.drop m) (ha++D):=
 h.Z2 m k fun y hy=>y.law _ _ aD aD (a'.refl _ _) (fun b a1=>.inl (by
   rw [CA] at a1
   simp only [List.mem_append] at a1 ⊢
   rcases a1 with e | e | e <;> simp [e])) (k.rd y hy)
theorem au.gl (h:au W M0 X w E D) (m:Nat) {P0:List Nat} {r4:List aq} {ha:List al} (bV:PU ha) (k:au w (cP (E.take m)) P0 aD r4 ha):au W M0 X aD (r4++E.drop m) (ha++D):=
 h.Z2 m k fun y hy=>ZQ bV y hy _ _ _ _ (k.rd y hy)
theorem au.rq {κ β:Type} [DecidableEq κ] {K:tc κ} {ev:β->Value} {r:Nat} {d:List (κ × β)} (h:au W M0 X w E D) (i:Nat) (hi:E[i]? =some (aq.map K ev r d)):au W M0 X w (E.eraseIdx i) (al.map K ev r d::D):=by
 have aC:=h.FU i
 have hm:r3 K ev w r d:=h.e i hi
 obtain ⟨es,c,a1,As⟩:=hm
 refine aC.more ⟨?_,(Array.getElem?_eq_some_iff.1 a1).1,es,c,a1,As⟩
 intro kc
 have bh:r ∈ (aq.map K ev r d).fI:=by simp [aq.map]
 rcases List.mem_append.1 kc with bO | bO
 · have eh:=h.lS r bO
   rcases (h.lt r (List.mem_flatMap.2 ⟨_,List.mem_of_getElem? hi,bh⟩)).2 with b4 | b4
   · exact eh.2 b4
   · omega
 · obtain ⟨az,ai⟩:=List.getElem?_eq_some_iff.1 hi
   have gq:E=E.take i++E[i]::E.drop (i+ 1):=by simp
   have bT:=h.dT
   rw [gq,ai] at bT
   have b4:cP (E.take i++aq.map K ev r d::E.drop (i+ 1))=cP (E.take i)++((aq.map K ev r d).fI++cP (E.drop (i+ 1))):=by simp [cP]
   rw [b4,List.nodup_append,List.nodup_append] at bT
   rw [List.eraseIdx_eq_take_drop_succ] at bO
   rcases List.mem_append.1 (by simpa [cP] using bO:r ∈ cP (E.take i)++cP (E.drop (i+ 1))) with eu | eu
   · exact bT.2.2 r eu r (List.mem_append.2 (.inl bh)) rfl
   · exact bT.2.1.2.2 r bh r eu rfl
end
section
variable {P:Program} {ops:Array Oper} {Q:Exit->Act->World->Prop} {a:Act} {w:World} {rest:List Oper} {o:Oper} {n:hb} {d:Nat} {l:List (Nat × Value)}
 {W:World} {M0 X:List Nat} {E:List aq} {D:List al}
theorem au.aFt {κ β:Type} [DecidableEq κ] (K:tc κ) (ev:β->Value) (hm:au W M0 X w E D):au W M0 X (w.alloc (.map #[] 0)) (aq.map K ev w.heap.size ([]:List (κ × β))::E) D:=
 hm.push _ (a'.alloc _ _ _) (aFh w) (fun k bh=>by simp [aq.map] at bh;subst bh;exact ⟨Nat.le_refl _,by simp⟩) (by simp [aq.map])
theorem Nv {κ β:Type} [DecidableEq κ] {K:tc κ} {ev:β->Value} {t lR xA:TypeId} {x y z:Operand} {r:Nat} {m:List (κ × β)} {q:κ} {v:β} (i:Nat) (hm:au W M0 X w E D) (hi:E[i]? =some (aq.map K ev r m)) (hw:Region.wanted o (yielded ops a.tmps)=true)
 (bA:P.underlying t=some (.map lR xA)) (bh:P.underlying lR=some K.desc) (br:o.op= .mapUpdate t x y z\/o.op= .insert t x y z) (ai:a.eval x= .map (some r)) (hy:a.eval y=K.enc q) (c0:a.eval z=ev v) (bT:o.dst=none)
 (k:∀ aD,au W M0 X aD (E.set i (aq.map K ev r (hI m q v))) D->wpList P ops Q rest a aD):wpList P ops Q (o::rest) a w:=by
 obtain ⟨aD,aC,aU,bS⟩:=aIF bA bh (hm.e i hi) br ai hy c0
 exact Nw hw aC bT (k aD (hm.vA i hi aU bS (by simp [aq.map]) (fun k bh=>.inl bh)))
end
end a2
namespace a2
open Go Go.RowKit J
section
variable {P:Program} {ops:Array Oper} {Q:Exit->Act->World->Prop} {a:Act} {w:World} {rest:List Oper} {o:Oper} {n:hb} {d:Nat} {l:List (Nat × Value)}
 {W:World} {M0 X:List Nat} {E:List aq} {D:List al}
theorem au.jH {α:Type} {e sz g m:Nat} {cs:List Value} (h:au W M0 X w E D) (i:Nat) (li:List α) (hi:E[i]? =some (aq.bm g e cs)) (az:li.length=m) (hc:Nat.beq cs.length (m*sz)=true) (hm:Nat.ble m 1000000 =true):au W M0 X w (E.set i (aq.row e sz (.slice (some ⟨g,0,none⟩) m m) li cs)) D:=by
 have a1:w.heap[g]? =some (.cells cs.toArray e (0,0)):=h.e i hi
 have hc:=Nat.eq_of_beq_eq_true hc
 have hm:=Nat.le_of_ble_eq_true hm
 refine h.vA i hi (a'.refl _ _) ?_ (by simp [aq.row,Value.ownBlock]) (fun k bh=>.inl (by simpa [aq.row,Value.ownBlock,aq.bm] using bh))
 show w.ownsRow 0 e sz (.slice (some ⟨g,0,none⟩) m m) li.length cs
 refine ⟨by rw [az];exact hc,.inr ⟨g,m,cs.toArray,by rw [az],Nat.zero_le _,a1,by omega,by simp only [maxLen];omega,by simpa using hc,?_⟩⟩
 rw [az,<-hc,List.take_length]
theorem au.Is (h:au W M0 X w E D) {α:Type} {T:fl α} {xs:List Value} {li:List α} (bU:fS T (ib (X++cP E) w) w xs li):au W M0 X w E (al.rows T xs li::D):=h.more bU
theorem Nk {α:Type} {T:fl α} {t e:TypeId} {x y:Operand} {z:Value} {bytes m c:Nat} {v:Value} {li ml l':List α} {xs cs:List Value} {cc:Addr} (i:Nat) (hm:au W M0 X w E D) (hi:E[i]? =some (aq.row e T.size v li xs))
 (ka:P.underlying t=some (.slice e)) (k3:(P.info? e).map (fun i=>(i.zero,i.size,i.bytes))=some (some z,T.size,bytes)) (c0:z.cells.size=T.size) (kB:0 <T.size)
 (bU:ej bytes li ml=some l') (xU:ml.length=m) (kA:0 <bytes)
 (hA:fS T (ib (X++cP E) w) w xs li) (hcs:fS T (ib (X++cP E) w) w cs ml) (oD:∀ j u,cs[j]? =some u->w.cell? (cc.add j)=some u)
 (hw:Region.wanted o (yielded ops a.tmps)=true)
 (br:o.op= .call { callee:=.builtin .append,args:=#[x,y],argTypes:=#[t,t] }) (ai:a.eval x=v) (hy:a.eval y= .slice (some cc) m c) (I:Fr n l a) (bT:o.dst=some d) (af:Nat.blt d n=true)
 (k:∀ bM A dR aD,a' v.ownBlock.toList w aD->Fr n ((d,.slice A l'.length dR)::l) bM->au W M0 X aD (E.set i (aq.row e T.size (.slice A l'.length dR) l' (xs++cs))) (al.rows T (xs++cs) l'::D)->wpList P ops Q rest bM aD):wpList P ops Q (o::rest) a w:=by
 obtain ⟨i0,Sa,LX,adO,acR⟩:=aec k3
 obtain ⟨Rn,rfl⟩:=ZZ bU
 have rf:w.ownsRow 0 e T.size v li.length xs:=hm.e i hi
 subst xU
 have aq5:li.length+ml.length<=maxLen:=by
  have aU:=Nat.le_mul_of_pos_right (li.length+ml.length) kA
  simp only [maxLen]
  omega
 obtain ⟨rM,aD,su,aU,bS,_,lH⟩:=run_append_own_at (P:=P) w 0 t o.type e i0 z T.size bytes ka Sa LX adO acR c0 kB v li.length xs rf cc ml.length c cs (XR T hcs)
  oD (afH T hcs) aq5 Rn (Nat.zero_le _)
 have lM:(aq.row e T.size rM (li++ml) (xs++cs)).ok aD:=by
  show aD.ownsRow 0 e T.size rM (li++ml).length (xs++cs)
  rw [List.length_append];exact aU
 obtain ⟨A,dR,rfl,_⟩:=XY lM
 have HR:cg P o a w (.slice A (li++ml).length dR) aD:=by
  simp only [cg,execOp,br,resolve,invoke,builtin,Sem.run_bind,Sem.run_pure,Result.andThen_ok,List.map_toArray,List.map_cons,List.map_nil,ai,hy,su]
 have oF:=hm.Is (afG T hcs hA)
 refine bQ hw HR I bT af fun bM e5=>k bM A dR aD (a'.grown bS) e5 (oF.vA i hi (a'.grown bS) lM (WR _) fun q en=>?_)
 have HE:(Value.slice A (li++ml).length dR).ownBlock=some q:=by simpa [aq.row] using en
 rcases lH with j6 | j6
 · left;simpa [aq.row,<-j6] using HE
 · right
   rw [j6] at HE
   injection HE with HE
   subst HE
   refine ⟨Nat.le_refl _,?_⟩
   rcases aU.2 with ⟨ad,_⟩ | ⟨akF,cap,cur,ad,_,z_,_⟩
   · rw [ad] at j6;simp [Value.ownBlock] at j6
   · rw [ad] at j6
     have:akF=w.heap.size:=by simpa [Value.ownBlock] using j6
     subst this
     exact (Array.getElem?_eq_some_iff.1 z_).1
theorem iJ {α:Type} {T:fl α} {t e:TypeId} {x y:Operand} {z:Value} {bytes g m c:Nat} {v:Value} {li ml l':List α} {xs cs:List Value} (i j q:Nat) (hm:au W M0 X w E D) (hi:E[i]? =some (aq.row e T.size v li xs)) (bb:E[j]? =some (aq.bm g e cs)) (en:D[q]? =some (al.rows T xs li))
 (ka:P.underlying t=some (.slice e)) (k3:(P.info? e).map (fun i=>(i.zero,i.size,i.bytes))=some (some z,T.size,bytes)) (c0:z.cells.size=T.size) (kB:Nat.blt 0 T.size=true)
 (bU:ej bytes li ml=some l') (xU:ml.length=m) (kA:Nat.blt 0 bytes=true) (hcs:fS T (ib (X++cP E) w) w cs ml)
 (hw:Region.wanted o (yielded ops a.tmps)=true)
 (br:o.op= .call { callee:=.builtin .append,args:=#[x,y],argTypes:=#[t,t] }) (ai:a.eval x=v) (hy:a.eval y= .slice (some ⟨g,0,none⟩) m c) (I:Fr n l a) (bT:o.dst=some d) (af:Nat.blt d n=true)
 (k:∀ bM A dR fG aD,Fr n ((d,.slice A l'.length dR)::l) bM->au W M0 X aD ((E.set i (aq.row e T.size (.slice A l'.length dR) l' fG)).eraseIdx j) (al.rows T fG l'::D)->wpList P ops Q rest bM aD):wpList P ops Q (o::rest) a w:=by
 have a1:=hm.e j bb
 exact Nk i hm hi ka k3 c0 (Nat.le_of_ble_eq_true kB) bU xU (Nat.le_of_ble_eq_true kA) (hm.d q en) hcs (fun j u hu=>by rw [qM];simpa using B4 a1 hu) hw br ai hy I bT af
  fun bM A dR aD _ e5 gB=>k bM A dR _ aD e5 (gB.FU j)
theorem X1 {α:Type} {T:fl α} {t e:TypeId} {x y:Operand} {z:Value} {bytes g m c:Nat} {v:Value} {li ml l':List α} {xs cs:List Value} (i j q:Nat) (hm:au W M0 X w E D) (hi:E[i]? =some (aq.row e T.size v li xs)) (bb:E[j]? =some (aq.bm g e cs)) (en:D[q]? =some (al.rows T xs li))
 (ka:P.underlying t=some (.slice e)) (k3:(P.info? e).map (fun i=>(i.zero,i.size,i.bytes))=some (some z,T.size,bytes)) (c0:z.cells.size=T.size) (kB:Nat.blt 0 T.size=true)
 (bU:ej bytes li ml=some l') (xU:ml.length=m) (kA:Nat.blt 0 bytes=true) (hcs:fS T (ib (X++cP E) w) w cs ml)
 (hw:Region.wanted o (yielded ops a.tmps)=true)
 (br:o.op= .call { callee:=.builtin .append,args:=#[x,y],argTypes:=#[t,t] }) (ai:a.eval x=v) (hy:a.eval y= .slice (some ⟨g,0,none⟩) m c) (I:Fr n l a) (bT:o.dst=some d) (af:Nat.blt d n=true)
 (k:∀ bM A dR fG aD,a' v.ownBlock.toList w aD->Fr n ((d,.slice A l'.length dR)::l) bM->au W M0 X aD ((E.set i (aq.row e T.size (.slice A l'.length dR) l' fG)).eraseIdx j) (al.rows T fG l'::D)->wpList P ops Q rest bM aD):wpList P ops Q (o::rest) a w:=by
 have a1:=hm.e j bb
 exact Nk i hm hi ka k3 c0 (Nat.le_of_ble_eq_true kB) bU xU (Nat.le_of_ble_eq_true kA) (hm.d q en) hcs (fun j u hu=>by rw [qM];simpa using B4 a1 hu) hw br ai hy I bT af
  fun bM A dR aD ad e5 gB=>k bM A dR _ aD ad e5 (gB.FU j)
theorem aIh {t e:TypeId} {x y:Operand} {v:Value} {sz k:Nat} {xs:List Value} {z:Value} {bytes:Nat} (ka:P.underlying t=some (.slice e)) (k3:(P.info? e).map (fun i=>(i.zero,i.size,i.bytes))=some (some z,sz,bytes)) (rf:w.ownsRow 0 e sz v k xs)
 (br:o.op= .call { callee:=.builtin .append,args:=#[x,y],argTypes:=#[t,t] }) (ai:a.eval x=v) (hy:a.eval y= .slice none 0 0):cg P o a w v w:=by
 obtain ⟨i0,Sa,LX,adO,acR⟩:=aec k3
 have su:=run_append_owned_none (P:=P) (w:=w) 0 t o.type e i0 sz ka Sa v k xs rf
 simp only [cg,execOp,br,resolve,invoke,builtin,Sem.run_bind,Sem.run_pure,Result.andThen_ok,List.map_toArray,List.map_cons,List.map_nil,ai,hy,su]
theorem Nj {α:Type} {T:fl α} {t e:TypeId} {x y:Operand} {z:Value} {bytes c:Nat} {v:Value} {li ml l':List α} {xs:List Value} {qq:Option Addr} (i q p:Nat) (hm:au W M0 X w E D) (hi:E[i]? =some (aq.row e T.size v li xs)) (en:D[q]? =some (al.rows T xs li)) (b3:D[p]? =some (al.of (aH T) [.slice qq ml.length c] ml))
 (ka:P.underlying t=some (.slice e)) (k3:(P.info? e).map (fun i=>(i.zero,i.size,i.bytes))=some (some z,T.size,bytes)) (c0:z.cells.size=T.size) (kB:Nat.blt 0 T.size=true)
 (bU:ej bytes li ml=some l') (kA:Nat.blt 0 bytes=true)
 (hw:Region.wanted o (yielded ops a.tmps)=true)
 (br:o.op= .call { callee:=.builtin .append,args:=#[x,y],argTypes:=#[t,t] }) (ai:a.eval x=v) (hy:a.eval y= .slice qq ml.length c) (I:Fr n l a) (bT:o.dst=some d) (af:Nat.blt d n=true)
 (k:∀ bM A dR fG aD,a' v.ownBlock.toList w aD->Fr n ((d,.slice A l'.length dR)::l) bM->au W M0 X aD (E.set i (aq.row e T.size (.slice A l'.length dR) l' fG)) (al.rows T fG l'::D)->wpList P ops Q rest bM aD):wpList P ops Q (o::rest) a w:=by
 have hA:=hm.d q en
 have avQ:(aH T).rd (ib (X++cP E) w) w [.slice qq ml.length c] ml:=hm.d p b3
 obtain ⟨gx,eb,bO,b4,eu,g8,j6⟩:=avQ
 simp only [List.cons.injEq,Value.slice.injEq,and_true,true_and] at bO
 obtain ⟨rfl,rfl⟩:=bO
 by_cases xU:ml= []
 · subst xU
   cases qq with
   | none=>
     have CI:=g8 rfl
     subst CI
     have rf:w.ownsRow 0 e T.size v li.length xs:=hm.e i hi
     have lM:(aq.row e T.size v li xs).ok w:=hm.e i hi
     obtain ⟨A,dR,rfl,_⟩:=XY lM
     obtain ⟨_,rfl⟩:=ZZ bU
     refine bQ hw (aIh ka k3 rf br ai hy) I bT af fun bM e5=>?_
     have az:li++[]=li:=List.append_nil li
     refine k bM A dR xs w (a'.refl _ w) (by rw [az];exact e5) ?_
     rw [az]
     have gq:E.set i (aq.row e T.size (.slice A li.length dR) li xs)=E:=by
      obtain ⟨eh,he⟩:=List.getElem?_eq_some_iff.1 hi
      rw [<-he,List.set_getElem_self]
     rw [gq]
     exact hm.more hA
   | some cc=>
     exact Nk (cs:=[]) i hm hi ka k3 c0 (Nat.le_of_ble_eq_true kB) bU rfl (Nat.le_of_ble_eq_true kA) hA rfl (fun j u hu=>by simp at hu) hw br ai hy I bT af fun bM A dR aD ad e5 gB=>k bM A dR _ aD ad e5 gB
 · obtain ⟨j8,kX,cs,zH,zI⟩:=j6 xU
   rw [j8] at hy
   exact Nk (cs:=cs) i hm hi ka k3 c0 (Nat.le_of_ble_eq_true kB) bU rfl (Nat.le_of_ble_eq_true kA) hA zH (fun j u hu=>by rw [qM];exact zI j u hu) hw br ai hy I bT af fun bM A dR aD ad e5 gB=>k bM A dR _ aD ad e5 gB
theorem nM {α:Type} {T:fl α} {t e:TypeId} {x y:Operand} {z:Value} {bytes c:Nat} {v:Value} {li ml l':List α} {xs:List Value} {qq:Option Addr} (i q p:Nat) (hm:au W M0 X w E D) (hi:E[i]? =some (aq.row e T.size v li xs)) (en:D[q]? =some (al.rows T xs li)) (b3:D[p]? =some (al.of (aH T) [.slice qq ml.length c] ml))
 (ka:P.underlying t=some (.slice e)) (k3:(P.info? e).map (fun i=>(i.zero,i.size,i.bytes))=some (some z,T.size,bytes)) (c0:z.cells.size=T.size) (kB:Nat.blt 0 T.size=true)
 (bU:ej bytes li ml=some l') (kA:Nat.blt 0 bytes=true)
 (hw:Region.wanted o (yielded ops a.tmps)=true)
 (br:o.op= .call { callee:=.builtin .append,args:=#[x,y],argTypes:=#[t,t] }) (ai:a.eval x=v) (hy:a.eval y= .slice qq ml.length c) (I:Fr n l a) (bT:o.dst=some d) (af:Nat.blt d n=true)
 (k:∀ bM A dR fG aD,Fr n ((d,.slice A l'.length dR)::l) bM->au W M0 X aD (E.set i (aq.row e T.size (.slice A l'.length dR) l' fG)) (al.rows T fG l'::D)->wpList P ops Q rest bM aD):wpList P ops Q (o::rest) a w:=
 Nj i q p hm hi en b3 ka k3 c0 kB bU kA hw br ai hy I bT af fun bM A dR fG aD _=>k bM A dR fG aD
theorem XZ {x:Value} {y:Nat} {code:BoundsCode} {k:IntKind} {i:Int} (ai:x= .int k i) (h:0 <=i/\i<=y):(Instr.sliceBound x y code).run P w= .ok i.toNat w:=by
 subst ai
 simp [Instr.sliceBound,asIntOf,h]
end
end a2
namespace a2
open Go Go.RowKit J
section
variable {α:Type} {T:fl α}
theorem afI {F:Nat->Prop} {w:World} {d':α} {Cw:List Value} (dP:T.rd F w Cw d'):∀ {li:List α} {xs:List Value} {i:Nat},fS T F w xs li->i <li.length->fS T F w (xs.take (i*T.size)++Cw++xs.drop (i*T.size+T.size)) (li.set i d')
 | [],_,i,_,hi=>by simp at hi
 | d::r,xs,0,h,_=>by
   obtain ⟨cs,ys,rfl,aC,aU⟩:=h
   have az:=T.len aC
   refine ⟨Cw,ys,?_,dP,aU⟩
   simp [<-az]
 | d::r,xs,i+ 1,h,hi=>by
   obtain ⟨cs,ys,rfl,aC,aU⟩:=h
   have az:=T.len aC
   have cv:=afI dP aU (i:=i) (by simpa using hi)
   refine ⟨cs,_,?_,aC,cv⟩
   have bO:(i+ 1)*T.size=cs.length+i*T.size:=by rw [Nat.add_mul];omega
   rw [bO,List.take_append,List.take_of_length_le (by omega),show cs.length+i*T.size - cs.length=i*T.size by omega,List.drop_append,List.drop_of_length_le (l:=cs) (by omega),
    show cs.length+i*T.size+T.size - cs.length=i*T.size+T.size by omega]
   simp
end
theorem aGZ {β:Type} {L vs:List β} {p N:Nat} (aC:p+vs.length<=N) (aU:N<=L.length):(L.take p++vs++L.drop (p+vs.length)).take N=(L.take N).take p++vs++(L.take N).drop (p+vs.length):=by
 have az:(L.take p++vs).length=p+vs.length:=by rw [List.length_append,List.length_take];omega
 rw [List.take_append,List.take_of_length_le (by omega),az,List.take_take,Nat.min_eq_left (by omega),List.drop_take]
section
variable {P:Program} {ops:Array Oper} {Q:Exit->Act->World->Prop} {a:Act} {w:World} {rest:List Oper} {o:Oper} {n:hb} {d:Nat} {l:List (Nat × Value)}
 {W:World} {M0 X:List Nat} {E:List aq} {D:List al}
theorem aku {xs cs:List Value} {p:Nat} (h:∀ j u,cs[j]? =some u->xs[p+j]? =some u):(xs.drop p).take cs.length=cs:=by
 apply List.ext_getElem?
 intro j
 rw [List.getElem?_take]
 by_cases bb:j <cs.length
 · rw [if_pos bb,List.getElem?_drop,List.getElem?_eq_getElem bb]
   exact h j _ (List.getElem?_eq_getElem bb)
 · rw [if_neg bb,List.getElem?_eq_none (by omega)]
theorem aG0 {α:Type} {T:fl α} {t e:TypeId} {x y:Operand} {A:Option Addr} {c kk sz:Nat} {li:List α} {xs cs0 vs:List Value} {z:Int} {d0 d':α} {v:Value} (i q:Nat) (hm:au W M0 X w E D) (hi:E[i]? =some (aq.row e T.size (.slice A li.length c) li xs)) (en:D[q]? =some (al.rows T xs li))
 (c0:idx li z=some d0) (hcs:T.rd (ib (X++cP E) w) w cs0 d0) (nw:iO w ⟨bG A,bJ A+z.toNat*T.size,none⟩ cs0) (hw:Region.wanted o (yielded ops a.tmps)=true)
 (ad:v.cells=vs.toArray) (a5:∀ w,(Go.sizeOf t).run P w= .ok sz w) (az:Nat.beq vs.length sz=true) (aC:vs.all (·.oneCell')=true) (hle:Nat.ble (kk+vs.length) cs0.length=true)
 (Al:T.rd (ib (X++cP E) w) w (lay cs0 kk vs) d')
 (br:o.op= .store t x y) (ai:a.eval x= .pointer (some ⟨bG A,bJ A+z.toNat*T.size+kk,none⟩)) (hy:a.eval y=v) (bT:o.dst=none)
 (k:∀ fG aD,a' (Value.slice A li.length c).ownBlock.toList w aD->au W M0 X aD (E.set i (aq.row e T.size (.slice A li.length c) (li.set z.toNat d') fG)) (al.rows T fG (li.set z.toNat d')::D)->wpList P ops Q rest a aD):wpList P ops Q (o::rest) a w:=by
 obtain ⟨z0,D',Pv⟩:=ux c0
 have hlen:vs.length=sz:=Nat.eq_of_beq_eq_true az
 have LO:kk+vs.length<=cs0.length:=Nat.le_of_ble_eq_true hle
 have CI:=T.len hcs
 have rf:w.ownsRow 0 e T.size (.slice A li.length c) li.length xs:=hm.e i hi
 have aBu:fS T (ib (X++cP E) w) w xs li:=hm.d q en
 rcases rf.2 with ⟨_,iy⟩ | ⟨g,cap,cur,bO,_,dd,LP,mE,aug,Ux⟩
 · omega
 simp only [Value.slice.injEq,true_and] at bO
 obtain ⟨rfl,rfl⟩:=bO
 have arx:bG (some ⟨g,0,none⟩)=g:=rfl
 have azu:bJ (some ⟨g,0,none⟩)= 0 :=rfl
 simp only [arx,azu,Nat.zero_add] at ai nw
 have hmul:(z.toNat+ 1)*T.size<=li.length*T.size:=Nat.mul_le_mul_right _ D'
 have aJ':li.length*T.size<=c*T.size:=Nat.mul_le_mul_right _ LP
 have aKc:(z.toNat+ 1)*T.size=z.toNat*T.size+T.size:=by rw [Nat.add_mul,Nat.one_mul]
 have nz:xs.length=li.length*T.size:=rf.1
 have hold:(xs.drop (z.toNat*T.size)).take cs0.length=cs0:=aku fun j u bb=>by
  have:=nw j u bb
  have Hq:j <cs0.length:=(List.getElem?_eq_some_iff.1 bb).1
  rw [World.ownsRow.cellAt rf (z.toNat*T.size+j) (by omega)] at this
  exact this
 have LS:=run_storeCells_at P g (z.toNat*T.size+kk) e vs 0 cur w dd (by omega) (fun u hu=>List.all_eq_true.1 aC u hu)
 simp only [Nat.add_zero] at LS
 obtain ⟨p,b3⟩:∃ p,p=z.toNat*T.size+kk:=⟨_,rfl⟩
 rw [<-b3] at LS ai
 have aJ8:cur.toList.length=c*T.size:=by simpa using aug
 obtain ⟨fG,UK⟩:∃ fG,fG=xs.take p++vs++xs.drop (p+vs.length):=⟨_,rfl⟩
 have azq:fG=xs.take (z.toNat*T.size)++lay cs0 kk vs++xs.drop (z.toNat*T.size+T.size):=by
  rw [UK,WB _ _ _ LO]
  have aBw:xs=xs.take (z.toNat*T.size)++(cs0++xs.drop (z.toNat*T.size+T.size)):=by
   conv=>lhs;rw [<-List.take_append_drop (z.toNat*T.size) xs]
   congr 1
   rw [<-List.take_append_drop cs0.length (xs.drop (z.toNat*T.size)),hold,List.drop_drop,CI]
  have LN:(xs.take (z.toNat*T.size)).length=z.toNat*T.size:=by rw [List.length_take];omega
  conv=>lhs;rw [aBw]
  rw [List.take_append,List.take_of_length_le (by rw [LN];omega),LN,List.drop_append,List.drop_of_length_le (l:=xs.take (z.toNat*T.size)) (by rw [LN];omega),LN,
   show p - z.toNat*T.size=kk by omega,show p+vs.length - z.toNat*T.size=kk+vs.length by omega,List.take_append_of_le_length (by omega),List.drop_append_of_le_length (by omega)]
  simp
 have aEm:fG.length=li.length*T.size:=by
  rw [UK];simp only [List.length_append,List.length_take,List.length_drop];omega
 have lM:(aq.row e T.size (.slice (some ⟨g,0,none⟩) li.length c) (li.set z.toNat d') fG).ok (w.setRow g (cur.toList.take p++vs++cur.toList.drop (p+vs.length)).toArray):=by
  show World.ownsRow _ 0 e T.size _ (li.set z.toNat d').length fG
  rw [List.length_set]
  refine ⟨aEm,.inr ⟨g,c,(cur.toList.take p++vs++cur.toList.drop (p+vs.length)).toArray,rfl,Nat.zero_le _,?_,LP,mE,?_,?_⟩⟩
  · simp only [World.setRow,Array.getElem?_modify,if_true,dd]
    rfl
  · simp only [List.size_toArray,List.length_append,List.length_take,List.length_drop];omega
  · rw [List.toList_toArray,UK,<-Ux]
    exact aGZ (by omega) (by omega)
 have aEs:w5 P o a w (w.setRow g (cur.toList.take p++vs++cur.toList.drop (p+vs.length)).toArray):=by
  simp only [w5,execOp,br,ai,hy]
  simp only [List.append_assoc,hlen] at LS ⊢
  have ri:=ad
  unfold Value.cells at ri
  simp [go_sem,Instr.storeAt,storeVar,a5,ri,hlen,LS]
 have oF:=hm.Is (T:=T) (xs:=fG) (li:=li.set z.toNat d') (by rw [azq];exact afI Al aBu D')
 have lL:a' (Value.slice (some ⟨g,0,none⟩) li.length c).ownBlock.toList w (w.setRow g (cur.toList.take p++vs++cur.toList.drop (p+vs.length)).toArray):=⟨rfl,rfl,rfl,by simp [World.setRow],fun b _ af=>by
  simp only [World.setRow,Array.getElem?_modify]
  rw [if_neg (by simpa [Value.ownBlock,eq_comm] using af)]⟩
 exact Nw hw aEs bT (k fG _ lL (oF.vA i hi lL lM (by simp [aq.row,Value.ownBlock]) (fun b a1=>.inl (by simpa [aq.row] using a1))))
theorem nQ {α:Type} {T:fl α} {t e:TypeId} {x y:Operand} {A:Option Addr} {c kk sz:Nat} {li gf:List α} {xs cs0 vs:List Value} {z:Int} {d0 d':α} {v:Value} (i q:Nat) (ayQ:some (li.set z.toNat d')=some gf) (hm:au W M0 X w E D) (hi:E[i]? =some (aq.row e T.size (.slice A li.length c) li xs)) (en:D[q]? =some (al.rows T xs li))
 (c0:idx li z=some d0) (hcs:T.rd (ib (X++cP E) w) w cs0 d0) (nw:iO w ⟨bG A,bJ A+z.toNat*T.size,none⟩ cs0) (hw:Region.wanted o (yielded ops a.tmps)=true)
 (ad:v.cells=vs.toArray) (a5:∀ w,(Go.sizeOf t).run P w= .ok sz w) (az:Nat.beq vs.length sz=true) (aC:vs.all (·.oneCell')=true) (hle:Nat.ble (kk+vs.length) cs0.length=true)
 (Al:T.rd (ib (X++cP E) w) w (lay cs0 kk vs) d')
 (br:o.op= .store t x y) (ai:a.eval x= .pointer (some ⟨bG A,bJ A+z.toNat*T.size+kk,none⟩)) (hy:a.eval y=v) (bT:o.dst=none)
 (k:∀ fG aD,li.length=gf.length->a' (Value.slice A li.length c).ownBlock.toList w aD->au W M0 X aD (E.set i (aq.row e T.size (.slice A li.length c) gf fG)) (al.rows T fG gf::D)->wpList P ops Q rest a aD):wpList P ops Q (o::rest) a w:=by
 obtain rfl:=Option.some.inj ayQ
 exact aG0 i q hm hi en c0 hcs nw hw ad a5 az aC hle Al br ai hy bT fun fG aD=>k fG aD (by rw [List.length_set])
theorem aGF {A:Option Addr} {m c sz:Nat} {t e:TypeId} {lo hi:Option Value} {i j:Int} (bA:P.underlying t=some (.slice e)) (a5:∀ w,(Go.sizeOf e).run P w= .ok sz w)
 (rc:(lo=none/\i= 0)\/lo=some (.int .i64 i)) (q':(hi=none/\j=m)\/hi=some (.int .i64 j)) (h:0 <=i/\i<=j/\j<=m) (C0:m<=c) :
 (Instr.slice t (.slice A m c) lo hi none).run P w= .ok (.slice (if c=i.toNat then A else A.map (·.add (i.toNat*sz))) (j.toNat - i.toNat) (c - i.toNat)) w:=by
 have a1:(Instr.sliceBounds true m c lo hi none).run P w= .ok (i.toNat,j.toNat,c) w:=by
  have Kg:∀ code,(Instr.sliceBound (.int .i64 j) c code).run P w= .ok j.toNat w:=fun code=>XZ rfl (by omega)
  have E2:∀ code,(Instr.sliceBound (.int .i64 i) j.toNat code).run P w= .ok i.toNat w:=fun code=>XZ rfl (by omega)
  have E3:j=m-> ∀ code,(Instr.sliceBound (.int .i64 i) m code).run P w= .ok i.toNat w:=fun e code=>XZ rfl (by omega)
  rcases rc with ⟨rfl,rfl⟩ | rfl <;> rcases q' with ⟨rfl,bb⟩ | rfl
  · simp [Instr.sliceBounds,bb]
  · simp [Instr.sliceBounds,Kg]
  · simp [Instr.sliceBounds,E3 bb,bb]
  · simp [Instr.sliceBounds,Kg,E2]
 simp [Instr.slice,run_underlying bA,a1,a5]
theorem Pt {A:Option Addr} {m c sz:Nat} {t e:TypeId} {x:Operand} {lo hi:Option Operand} {i j:Int} (bA:P.underlying t=some (.slice e)) (a5:∀ w,(Go.sizeOf e).run P w= .ok sz w) (br:o.op= .slice t x lo hi none) (ai:a.eval x= .slice A m c)
 (rc:(lo=none/\i= 0)\/ ∃ z,lo=some z/\a.eval z= .int .i64 i) (q':(hi=none/\j=m)\/ ∃ z,hi=some z/\a.eval z= .int .i64 j) (h:0 <=i/\i<=j/\j<=m) (C0:m<=c) :
 cg P o a w (.slice (if c=i.toNat then A else A.map (·.add (i.toNat*sz))) (j.toNat - i.toNat) (c - i.toNat)) w:=by
 have bU:=aGF (P:=P) (w:=w) (A:=A) (m:=m) (c:=c) (lo:=lo.map a.eval) (hi:=hi.map a.eval) bA a5 (i:=i) (j:=j)
  (rc.imp (fun h=>⟨by rw [h.1];rfl,h.2⟩) (fun ⟨z,aC,aU⟩=>by rw [aC,Option.map_some,aU])) (q'.imp (fun h=>⟨by rw [h.1];rfl,h.2⟩) (fun ⟨z,aC,aU⟩=>by rw [aC,Option.map_some,aU])) h C0
 simp only [cg,execOp,br,ai,Instr.sliceAt,Sem.run_bind,run_underlying bA,Result.andThen_ok,Option.map_none,bU]
 rfl
theorem QJ {α:Type} {l r:List α} {i j:Int} (h:cut l i j=some r):(0 <=i/\i<=j/\j<=l.length)/\r=(l.take j.toNat).drop i.toNat:=by
 unfold cut at h
 split at h
 · rename_i bE;exact ⟨bE,by simpa using h.symm⟩
 · cases h
theorem XP {α:Type} {T:fl α} {F:Nat->Prop} {w:World}:∀ {l:List α} {xs:List Value} (i j:Nat),fS T F w xs l->fS T F w ((xs.take (j*T.size)).drop (i*T.size)) ((l.take j).drop i)
 | [],xs,i,j,h=>by
   have h:xs= []:=h
   subst h
   have e:(([]:List α).take j).drop i= []:=by simp
   rw [e]
   show List.drop _ (List.take _ _)= []
   simp
 | d::r,xs,i,0,h=>by
   have e:((d::r).take 0).drop i= []:=by simp
   rw [e]
   show List.drop _ (List.take _ _)= []
   simp
 | d::r,xs,0,j+ 1,h=>by
   obtain ⟨cs,ys,rfl,aC,aU⟩:=h
   have az:=T.len aC
   have cv:=XP 0 j aU
   simp only [Nat.zero_mul,List.drop_zero] at cv ⊢
   rw [List.take_succ_cons,show (j+ 1)*T.size=cs.length+j*T.size by rw [Nat.add_mul];omega,List.take_append,List.take_of_length_le (by omega),show cs.length+j*T.size - cs.length=j*T.size by omega]
   exact ⟨cs,_,rfl,aC,cv⟩
 | d::r,xs,i+ 1,j+ 1,h=>by
   obtain ⟨cs,ys,rfl,aC,aU⟩:=h
   have az:=T.len aC
   have cv:=XP i j aU
   rw [List.take_succ_cons,List.drop_succ_cons,show (j+ 1)*T.size=cs.length+j*T.size by rw [Nat.add_mul];omega,List.take_append,List.take_of_length_le (by omega),show cs.length+j*T.size - cs.length=j*T.size by omega,
    show (i+ 1)*T.size=cs.length+i*T.size by rw [Nat.add_mul];omega,List.drop_append,List.drop_of_length_le (l:=cs) (by omega),show cs.length+i*T.size - cs.length=i*T.size by omega,List.nil_append]
   exact cv
theorem abY {α:Type} {T:fl α} {M:List Nat} {A:Option Addr} {c:Nat} {li r:List α} {i j:Int} (h:(al.of (aH T) [.slice A li.length c] li).ok M w) (bU:cut li i j=some r) :
 (al.of (aH T) [.slice (if c=i.toNat then A else A.map (·.add (i.toNat*T.size))) (j.toNat - i.toNat) (c - i.toNat)] r).ok M w/\j.toNat - i.toNat=r.length:=by
 obtain ⟨⟨bE,aC,aU⟩,rfl⟩:=QJ bU
 obtain ⟨gx,eb,bO,b4,eu,g8,j6⟩:=h
 simp only [List.cons.injEq,Value.slice.injEq,and_true,true_and] at bO
 obtain ⟨rfl,rfl⟩:=bO
 have hlen:((li.take j.toNat).drop i.toNat).length=j.toNat - i.toNat:=by rw [List.length_drop,List.length_take];omega
 refine ⟨?_,hlen.symm⟩
 show (aH T).rd (ib M w) w _ _
 refine ⟨_,c - i.toNat,by rw [hlen],by rw [hlen];omega,by omega,fun gL=>?_,fun e6=>?_⟩
 · split at gL
   · have:=g8 gL;omega
   · cases A with
     | none=>have:=g8 rfl;omega
     | some cc=>cases gL
 · have LQ:0 <((li.take j.toNat).drop i.toNat).length:=List.length_pos_iff.2 e6
   have CZ:li≠ []:=by intro e;subst e;simp at LQ
   obtain ⟨j8,kX,xs,zH,zI⟩:=j6 CZ
   have pj:c≠i.toNat:=by omega
   rw [if_neg pj,j8]
   refine ⟨?_,?_⟩
   · simp only [Option.map_some,qM]
     rfl
   simp only [Option.map_some,qM]
   refine ⟨kX,_,XP i.toNat j.toNat zH,fun q u hu=>?_⟩
   have en:(xs.take (j.toNat*T.size))[i.toNat*T.size+q]? =some u:=by rwa [List.getElem?_drop] at hu
   rw [List.getElem?_take] at en
   split at en
   · have:=zI (i.toNat*T.size+q) u en
     simpa [bG,bJ,Nat.add_assoc] using this
   · cases en
theorem QK {α:Type} {T:fl α} {c:Nat} {A:Option Addr} {li r:List α} {i j:Int} {M:List Nat} {w:World} (b3:(al.of (aH T) [.slice A li.length c] li).ok M w) (bU:cut li i j=some r) :
 ∃ jx dR,(al.of (aH T) [.slice jx r.length dR] r).ok M w/\ ∀ {P:Program} {o:Oper} {a:Act} {t e:TypeId} {x:Operand} {lo hi:Option Operand},P.underlying t=some (.slice e)->(∀ w,(Go.sizeOf e).run P w= .ok T.size w)->o.op= .slice t x lo hi none->a.eval x= .slice A li.length c ->
   ((lo=none/\i= 0)\/ ∃ z,lo=some z/\a.eval z= .int .i64 i)->((hi=none/\j=(li.length:Int))\/ ∃ z,hi=some z/\a.eval z= .int .i64 j)-> ∀ w,cg P o a w (.slice jx r.length dR) w:=by
 obtain ⟨aC,aU⟩:=abY b3 bU
 have bE:=(QJ bU).1
 have C0:li.length<=c:=by
  obtain ⟨gx,eb,bO,b4,_⟩:=(b3:(aH T).rd _ w [.slice A li.length c] li)
  simp only [List.cons.injEq,Value.slice.injEq,and_true,true_and] at bO
  omega
 rw [aU] at aC
 refine ⟨_,_,aC,fun bA a5 br ai rc q' w=>?_⟩
 have hy:=Pt (w:=w) (i:=i) (j:=j) bA a5 br ai rc q' bE C0
 rw [aU] at hy
 exact hy
theorem aGP {α:Type} {T:fl α} {t e c:Nat} {A:Option Addr} {li r:List α} {x:Operand} {lo hi:Option Operand} {i j:Int} (p:Nat) (hm:au W M0 X w E D) (b3:D[p]? =some (al.of (aH T) [.slice A li.length c] li)) (bA:P.underlying t=some (.slice e)) (a5:∀ w,(Go.sizeOf e).run P w= .ok T.size w) (bU:cut li i j=some r)
 (hw:Region.wanted o (yielded ops a.tmps)=true) (br:o.op= .slice t x lo hi none) (ai:a.eval x= .slice A li.length c) (rc:(lo=none/\i= 0)\/ ∃ z,lo=some z/\a.eval z= .int .i64 i) (q':(hi=none/\j=(li.length:Int))\/ ∃ z,hi=some z/\a.eval z= .int .i64 j)
 (I:Fr n l a) (bT:o.dst=some d) (af:Nat.blt d n=true)
 (k:∀ bM jx dR,Fr n ((d,.slice jx r.length dR)::l) bM->au W M0 X w E (al.of (aH T) [.slice jx r.length dR] r::D)->wpList P ops Q rest bM w):wpList P ops Q (o::rest) a w:=by
 obtain ⟨aC,aU⟩:=abY (hm.d p b3) bU
 have bE:=(QJ bU).1
 have C0:li.length<=c:=by
  obtain ⟨gx,eb,bO,b4,_⟩:=(hm.d p b3:(aH T).rd _ w [.slice A li.length c] li)
  simp only [List.cons.injEq,Value.slice.injEq,and_true,true_and] at bO
  omega
 have hy:=Pt (P:=P) (w:=w) (i:=i) (j:=j) bA a5 br ai rc q' bE C0
 rw [aU] at hy aC
 exact bQ hw hy I bT af fun bM e5=>k bM _ _ e5 (hm.more aC)
end
end a2
namespace a2
open Go Go.RowKit J
section
variable {P:Program} {ops:Array Oper} {Q:Exit->Act->World->Prop} {a:Act} {w:World} {rest:List Oper} {o:Oper} {n:hb} {d:Nat} {l:List (Nat × Value)}
 {W:World} {M0 X:List Nat} {E:List aq} {D:List al}
theorem Fr.b5 (I:Fr n l a) (t:Nat) {b c:Bool} (az:ft l t=some (.bool b)) (a1:b=c):Fr n ((t,.bool c)::l) a:=
 ⟨I.size,I.defers,fun u v h=>by
  simp only [ft] at h
  cases RH:Nat.beq t u with
  | true=>
    rw [RH] at h
    simp only [Option.some.injEq] at h
    rw [<-Nat.eq_of_beq_eq_true RH,<-h,<-a1]
    exact I.get t _ az
  | false=>rw [RH] at h;exact I.get u v h⟩
theorem K7 {κ β:Type} [DecidableEq κ] {K:tc κ} {ev:β->Value} {w aD:World} {r:Nat} {m:List (κ × β)} (h:a' [] w aD) (hm:r3 K ev w r m):r3 K ev aD r m:=by
 obtain ⟨es,c,aC,aU⟩:=hm
 exact ⟨es,c,(h.block r (Array.getElem?_eq_some_iff.1 aC).1 (by simp)).trans aC,aU⟩
theorem fp {w a7 qk:World} (h:a' [] w a7) (dP:a' [] a7 qk):a' [] w qk:=h.trans dP (by simp)
theorem cy {t:TypeId} {cs:List Value} (hw:Region.wanted o (yielded ops a.tmps)=true) (hy:cg P o a w (.pointer (some ⟨w.heap.size,0,none⟩)) (w.alloc (.cells cs.toArray t))) (I:Fr n l a) (hm:au W M0 X w E D)
 (bT:o.dst=some d) (af:Nat.blt d n=true) (k:∀ bM g aD,a' [] w aD->Fr n ((d,.pointer (some ⟨g,0,none⟩))::l) bM->au W M0 X aD (aq.bm g t cs::E) D->wpList P ops Q rest bM aD):wpList P ops Q (o::rest) a w:=
 bQ hw hy I bT af fun bM e5=>k bM _ _ (a'.alloc _ _ _) e5 (hm.new t cs)
theorem gw {t:TypeId} {cs:List Value} {m:Nat} (hw:Region.wanted o (yielded ops a.tmps)=true) (hy:cg P o a w (.slice (some ⟨w.heap.size,0,none⟩) m m) (w.alloc (.cells cs.toArray t))) (I:Fr n l a) (hm:au W M0 X w E D)
 (bT:o.dst=some d) (af:Nat.blt d n=true) (k:∀ bM g aD,a' [] w aD->Fr n ((d,.slice (some ⟨g,0,none⟩) m m)::l) bM->au W M0 X aD (aq.bm g t cs::E) D->wpList P ops Q rest bM aD):wpList P ops Q (o::rest) a w:=
 bQ hw hy I bT af fun bM e5=>k bM _ _ (a'.alloc _ _ _) e5 (hm.new t cs)
theorem MD {κ β:Type} [DecidableEq κ] {t:TypeId} (K:tc κ) (ev:β->Value) (hw:Region.wanted o (yielded ops a.tmps)=true) (br:o.op= .makeMap t none) (I:Fr n l a) (hm:au W M0 X w E D)
 (bT:o.dst=some d) (af:Nat.blt d n=true) (k:∀ bM r aD,a' [] w aD->Fr n ((d,.map (some r))::l) bM->au W M0 X aD (aq.map K ev r ([]:List (κ × β))::E) D->wpList P ops Q rest bM aD):wpList P ops Q (o::rest) a w:=
 bQ hw (aIE br) I bT af fun bM e5=>k bM _ _ (a'.alloc _ _ _) e5 (hm.aFt K ev)
theorem rT {t e:TypeId} {sz:Nat} (hu:P.underlying t=some (.slice e)) (a5:∀ w,(Go.sizeOf e).run P w= .ok sz w) (br:o.op= .buildSlice t 0 (List.toArray [])) :
 cg P o a w (.slice (some ⟨w.heap.size,0,none⟩) 0 0) (w.alloc (.cells (List.toArray []) e)):=by
 simp only [cg,execOp,br,Instr.buildSlice,Sem.run_bind,Sem.run_pure,a5,Result.andThen_ok,run_underlying hu]
 simp [Instr.fill,newRow,go_sem]
theorem eR {S:World->Prop} {f p:Nat} {ds:List Nat} {v:Value} (i:Nat) (hi:ops[i]? =some o) (bA:(Nx ops ds i && !Nat.beq p i)=true) (hw:Region.wanted o (yielded ops a.tmps)=true) (hy:∀ aD,cg P o a aD v aD) (oA:S w)
 (I:Fr n l a) (bT:o.dst=some d) (af:Nat.blt d n=true) (k:∀ bM,Fr n ((d,v)::l) bM->dV P ops Q p S f (i::ds) bM w):dV P ops Q p S (f+ 1) ds a w:=by
 simp only [Bool.and_eq_true,Bool.not_eq_true'] at bA
 obtain ⟨ps,ur⟩:=bA
 have HB:p≠i:=fun e=>by rw [e] at ur;simp at ur
 simp only [Nx,Bool.and_eq_true] at ps
 refine ⟨fun _=>oA,?_⟩
 refine agm (v:=v) hi (Region.noSelect_spec ps.1.1) HB (fun c a w h=>h) f _ a w (Region.free_spec hi ps.1.2) (fun _=>oA) (by simpa using ps.2) (.inl ⟨hw,fun w _=>hy w⟩) ?_
 rw [bT]
 exact (k _ (I.put af)).2
theorem au.swap {x y:aq} (h:au W M0 X w (x::y::E) D):au W M0 X w (y::x::E) D:=by
 have I:∀ k,k ∈ cP (y::x::E) ↔ k ∈ cP (x::y::E):=fun k=>by
  simp only [cP,List.flatMap_cons,List.mem_append]
  exact ⟨fun h=>by rcases h with h | h | h <;> simp [h],fun h=>by rcases h with h | h | h <;> simp [h]⟩
 refine ⟨h.ev,h.lS,fun k bh=>h.lt k ((I k).1 bh),fun z c0=>h.ok z (by simp only [List.mem_cons] at c0 ⊢;rcases c0 with h | h | h <;> simp [h]),?_,fun z c0=>z.law _ _ w w (a'.refl _ _) (fun k bh=>.inl (by
  rcases List.mem_append.1 bh with e | e
  · exact List.mem_append.2 (.inl e)
  · exact List.mem_append.2 (.inr ((I k).1 e)))) (h.rd z c0)⟩
 have bT:=h.dT
 have bO:cP (x::y::E)=x.fI++(y.fI++cP E):=by simp [cP]
 have b4:cP (y::x::E)=y.fI++(x.fI++cP E):=by simp [cP]
 rw [bO,List.nodup_append,List.nodup_append] at bT
 rw [b4,List.nodup_append,List.nodup_append]
 obtain ⟨ab4,⟨aj8,aj5,aj9⟩,ab6⟩:=bT
 exact ⟨aj8,⟨ab4,aj5,fun a bK b a1=>ab6 a bK b (by simp [a1])⟩,fun a bK b a1=>by
  rcases List.mem_append.1 a1 with e | e
  · exact fun eu=>ab6 b e a (by simp [bK]) eu.symm
  · exact aj9 a bK b e⟩
theorem MC {K:Act->World->Prop} {i d t:Nat} {c:List Value} (hi:ops[i]? =some o) (hw:Region.wanted o (yielded ops a.tmps)=true) (hy:cg P o a w (.pointer (some ⟨w.heap.size,0,none⟩)) (w.alloc (.cells c.toArray t))) (bT:o.dst=some d)
 (h:K (a.put (some d) (.pointer (some ⟨w.heap.size,0,none⟩))) (w.alloc (.cells c.toArray t))):wpOp P ops Q i K a w:=by
 unfold wpOp
 simp only [hi]
 rw [if_pos hw]
 refine .inl ?_
 unfold Oper.wp
 rw [show (execOp a.eval o).run P w=_ from hy]
 show K (a.put o.dst _) _
 rw [bT]
 exact h
theorem ZV {S:World->Prop} {f p i:Nat} {ds:List Nat} (bU:Region.ready .any ops (hB ops.size ds)= [i]) (iC:S w) (h:wpOp P ops (NoPanic Q) i (dV P ops Q p S f (i::ds)) a w):dV P ops Q p S (f+ 1) ds a w:=
 ⟨fun _=>iC,⟨fun bE=>(by rw [bU] at bE;cases bE),fun j bb=>by
  rw [bU] at bb
  have:j=i:=by simpa using bb
  subst this
  exact h⟩⟩
theorem P4 {S:World->Prop} {f p:Nat} {ds:List Nat} {aB jP:Oper} {xw dT A0 A1:Nat} {ci cj:List Value} (i j:Nat) (hi:ops[i]? =some aB) (bb:ops[j]? =some jP) (hc:(Region.ready .any ops (hB ops.size ds) == [i,j])=true) (pj:(Region.ready .any ops (hB ops.size (i::ds)) == [j])=true) (auf:(Region.ready .any ops (hB ops.size (j::ds)) == [i])=true)
 (oF:(hB ops.size (i::j::ds) == hB ops.size (j::i::ds))=true)
 (Lv:aB.guard=none) (adq:jP.guard=none)
 (ad6:∀ (b:Act) w,cg P aB b w (.pointer (some ⟨w.heap.size,0,none⟩)) (w.alloc (.cells ci.toArray A0))) (ad7:∀ (b:Act) w,cg P jP b w (.pointer (some ⟨w.heap.size,0,none⟩)) (w.alloc (.cells cj.toArray A1)))
 (I:Fr n l a) (hm:au W M0 X w E D) (adh:aB.dst=some xw) (z6:jP.dst=some dT) (adw:Nat.blt xw n=true) (xV:Nat.blt dT n=true) (e6:Nat.beq xw dT=false) (iC:∀ aD,a' [] w aD->S aD)
 (k:∀ bM CB CC aD,a' [] w aD->w.heap.size<=CB->w.heap.size<=CC->Fr n ((xw,.pointer (some ⟨CB,0,none⟩))::(dT,.pointer (some ⟨CC,0,none⟩))::l) bM->au W M0 X aD (aq.bm CB A0 ci::aq.bm CC A1 cj::E) D->dV P ops Q p S f (i::j::ds) bM aD):dV P ops Q p S (f+ 2) ds a w:=by
 have bU:=eq_of_beq hc
 have aBs:=eq_of_beq pj
 have aBt:=eq_of_beq auf
 have Aj:=eq_of_beq oF
 have Hy:xw≠dT:=fun e=>by rw [e] at e6;simp at e6
 have aBy:∀ {CB CC:Nat} {bM:Act},Fr n ((dT,.pointer (some ⟨CC,0,none⟩))::(xw,.pointer (some ⟨CB,0,none⟩))::l) bM->Fr n ((xw,.pointer (some ⟨CB,0,none⟩))::(dT,.pointer (some ⟨CC,0,none⟩))::l) bM:=fun h=>⟨h.size,h.defers,fun t v bA=>h.get t v (by
  simp only [ft] at bA ⊢
  cases bO:Nat.beq xw t <;> cases b4:Nat.beq dT t <;> simp only [bO,b4] at bA ⊢ <;> first | exact bA | exact absurd ((Nat.eq_of_beq_eq_true bO).trans (Nat.eq_of_beq_eq_true b4).symm) Hy)⟩
 refine ⟨fun _=>iC w (a'.refl _ _),⟨fun bE=>(by rw [bU] at bE;cases bE),fun m um=>?_⟩⟩
 rw [bU] at um
 have Lx:m=i\/m=j:=by simpa using um
 rcases Lx with rfl | rfl
 · have bO:a' [] w (w.alloc (.cells ci.toArray A0)):=a'.alloc _ _ _
   refine MC hi (DM Lv) (ad6 a w) adh ?_
   have eu:=fp bO (a'.alloc [] (w.alloc (.cells ci.toArray A0)) (.cells cj.toArray A1))
   exact ⟨fun _=>iC _ bO,(ZV (f:=f) aBs (iC _ bO) (MC bb (DM adq) (ad7 _ _) z6 (by
    have:=k _ _ _ _ eu (Nat.le_refl _) (by simp) (aBy ((I.put adw).put xV)) ((hm.new A0 ci).new A1 cj).swap
    unfold dV at this ⊢
    rw [<-Aj]
    exact this))).2⟩
 · have bO:a' [] w (w.alloc (.cells cj.toArray A1)):=a'.alloc _ _ _
   refine MC bb (DM adq) (ad7 a w) z6 ?_
   have eu:=fp bO (a'.alloc [] (w.alloc (.cells cj.toArray A1)) (.cells ci.toArray A0))
   exact ⟨fun _=>iC _ bO,(ZV (f:=f) aBt (iC _ bO) (MC hi (DM Lv) (ad6 _ _) adh (k _ _ _ _ eu (by simp) (Nat.le_refl _) ((I.put xV).put adw) ((hm.new A1 cj).new A0 ci)))).2⟩
theorem aGE {f:FuncId} {q0:Operand} {xs:List Operand} {kU:Array TypeId} {vs cs us:List Value}
 (br:o.op= .call { callee:=.value q0,args:=xs.toArray,argTypes:=kU }) (z1:∀ args w,(callFunc f args).run P w= .ok (.enter f args) w) (z8:a.eval q0= .func (.func f) us.toArray cs.toArray)
 (hA:xC a xs vs):(execOp a.eval o).run P w= .ok (.enter f (us++vs++cs).toArray) w:=by
 have aC:=K_ hA
 simp only [execOp,br,resolve,List.map_toArray,aC,z8]
 simp [Deferred.ofValue,invoke,z1]
theorem ll {f:FuncId} {q0:Operand} {xs:List Operand} {kU:Array TypeId} {vs cs us:List Value} {R:Ending->World->Prop} (hw:Region.wanted o (yielded ops a.tmps)=true)
 (br:o.op= .call { callee:=.value q0,args:=xs.toArray,argTypes:=kU }) (z1:∀ args w,(callFunc f args).run P w= .ok (.enter f args) w) (z8:a.eval q0= .func (.func f) us.toArray cs.toArray)
 (hA:xC a xs vs) (hc:Calls P f (us++vs++cs).toArray w R) (I:Fr n l a) (bT:o.dst=some d) (af:Nat.blt d n=true)
 (k:∀ e aD,R e aD-> ∃ v,e= .returned v/\ ∀ bM,Fr n ((d,v)::l) bM->wpList P ops Q rest bM aD):wpList P ops Q (o::rest) a w:=by
 refine wpList_step fun K hs=>?_
 rw [if_pos hw]
 unfold Oper.wp
 rw [aGE br z1 z8 hA]
 refine hc.mono fun e aD bU=>?_
 obtain ⟨v,rfl,bh⟩:=k e aD bU
 rw [bT]
 exact hs _ _ (bh _ (I.put af))
end
section
variable {P:Program} {o:Oper} {a:Act} {w:World} {xs ys:Array Value}
theorem akd {d sz:Nat} {f:Field} {l:List Field} {us vs:List Value} {e q:Prop} [Decidable e] [Decidable q] (af:(f.name != "_")=true) (dd:∀ w,(isAgg f.type).run P w= .ok true w) (a5:∀ w,(Go.sizeOf f.type).run P w= .ok sz w)
 (ai:xs.extract f.offset (f.offset+sz)=us.toArray) (hy:ys.extract f.offset (f.offset+sz)=vs.toArray) (en:(Op.equalIn (d+ 1) f.type (.agg us.toArray) (.agg vs.toArray)).run P w= .ok (decide q) w)
 (h:(Op.eqFields (d+ 1) xs ys l).run P w= .ok (decide e) w):(Op.eqFields (d+ 1) xs ys (f::l)).run P w= .ok (decide (q/\e)) w:=by
 have Ak:f.name≠ "_" :=by simpa using af
 simp only [Op.eqFields,Ak,if_true,ne_eq,not_false_iff,part,Sem.run_bind,dd,a5,Result.andThen_ok,ai,hy,Sem.run_pure,en]
 by_cases uo:q
 · simp [uo,h]
 · simp [uo]
theorem akn {d:Nat} {t:TypeId} {gK:Array Field} {q:Prop} [Decidable q] (bA:P.underlying t=some (.struct gK)) (b3:P.stoodInHeld t=false) (h:(Op.eqFields d xs ys gK.toList).run P w= .ok (decide q) w):(Op.equalIn (d+ 1) t (.agg xs) (.agg ys)).run P w= .ok (decide q) w:=by
 have I:P.fieldsOf t=gK:=by simp [Program.fieldsOf,bA]
 have dP:=run_equalIn_struct (P:=P) w d t xs ys (by rw [I];exact bA) b3
 rw [I,h] at dP
 exact dP
theorem FR {d:Nat} {f:Field} {l:List Field} {m n:List UInt8} {e:Prop} [Decidable e] (af:(f.name != "_")=true) (hu:P.underlying f.type=some .string) (dd:∀ w,(isAgg f.type).run P w= .ok false w)
 (ai:xs[f.offset]? =some (ao m)) (hy:ys[f.offset]? =some (ao n)) (h:(Op.eqFields (d+ 1) xs ys l).run P w= .ok (decide e) w):(Op.eqFields (d+ 1) xs ys (f::l)).run P w= .ok (decide (m=n/\e)) w:=by
 have Ak:f.name≠ "_" :=by simpa using af
 have heq:(Op.equalIn (d+ 1) f.type (ao m) (ao n)).run P w= .ok (decide (m=n)) w:=by
  simp only [Op.equalIn,Sem.run_bind,run_underlying hu,Result.andThen_ok]
  rw [<-P6 m n]
  rfl
 simp only [Op.eqFields,Ak,if_true,ne_eq,not_false_iff,part,Sem.run_bind,dd,Result.andThen_ok,ai,hy,Bool.false_eq_true,if_false,Sem.run_pure,heq]
 by_cases uo:m=n
 · subst uo;simp [h]
 · simp [uo]
end
section
variable {P:Program} {ops:Array Oper} {Q:Exit->Act->World->Prop} {a:Act} {w:World} {rest:List Oper} {o:Oper} {n:hb} {d:Nat} {l:List (Nat × Value)}
 {W:World} {M0 X:List Nat} {E:List aq} {D:List al}
theorem afK {F:Nat->Prop} {w:World}:∀ s:List UInt8,fS Nz F w (s.map fun b=>Value.int .u8 (b.toNat:Int)) s
 | []=>rfl
 | b::r=>⟨[.int .u8 (b.toNat:Int)],_,rfl,rfl,afK r⟩
theorem aFs {t ep e:TypeId} {x:Operand} {s r:List UInt8} (bU:bytesOf s=some r) (bA:P.underlying t=some .string) (oI:P.underlying ep=some (.slice e)) (he:P.underlying e=some (.int .u8)) (hw:Region.wanted o (yielded ops a.tmps)=true)
 (br:o.op= .convert t ep x) (ai:a.eval x=ao s) (I:Fr n l a) (hm:au W M0 X w E D) (bT:o.dst=some d) (af:Nat.blt d n=true)
 (k:∀ bM A c aD,a' [] w aD->Fr n ((d,.slice A r.length c)::l) bM->au W M0 X aD E (al.of (aH Nz) [.slice A r.length c] r::D)->wpList P ops Q rest bM aD):wpList P ops Q (o::rest) a w:=by
 unfold bytesOf at bU
 split at bU
 · rename_i hle
   simp only [Option.some.injEq] at bU
   subst bU
   have su:=run_bytes_of_string (P:=P) w t ep e ⟨⟨s⟩⟩ bA oI he
   have kB:(⟨⟨s⟩⟩:ByteArray).size=s.length:=rfl
   have hc:=grownCap_ge w s.length 0 e
   have mE:=grownCap_le_maxLen w s.length 0 e (by simp only [maxLen];omega)
   obtain ⟨B,ik⟩:∃ B,B=bytesRow ⟨⟨s⟩⟩ (grownCap w s.length 0 e):=⟨_,rfl⟩
   obtain ⟨zr,CI⟩:∃ zr,zr=grownCap w s.length 0 e:=⟨_,rfl⟩
   rw [kB,<-ik,<-CI] at su
   rw [<-CI] at hc mE
   have hy:cg P o a w (.slice (some ⟨w.heap.size,0,none⟩) s.length zr) (w.drew.alloc (.cells B e (B.size,B.size+ 1))):=by
    simp only [cg,execOp,br,ai,Sem.run_bind,su,Result.andThen_ok]
    rfl
   have lL:a' [] w (w.drew.alloc (.cells B e (B.size,B.size+ 1))):=(a'.drew [] w).trans (a'.alloc [] _ _) (by simp)
   have oF:=hm.dB lL
   refine bQ hw hy I bT af fun bM e5=>k bM _ _ _ lL e5 (oF.more ⟨_,_,rfl,hc,mE,(fun h=>by cases h),fun _=>⟨rfl,⟨?_,by show w.heap.size <_;simp⟩,_,afK s,fun j u bb=>?_⟩⟩)
   · intro bh
     have:w.heap.size <w.heap.size:=by
      rcases List.mem_append.1 bh with bO | bO
      · exact Nat.lt_of_lt_of_le (hm.lS _ bO).1 hm.ev.size
      · exact (hm.lt _ bO).1
     omega
   · rw [List.getElem?_map,Option.map_eq_some_iff] at bb
     obtain ⟨b,a1,rfl⟩:=bb
     obtain ⟨Hq,iD⟩:=List.getElem?_eq_some_iff.1 a1
     have:=bytesRow_at ⟨⟨s⟩⟩ (grownCap w s.length 0 e) j (by simpa using Hq)
     rw [<-ik] at this
     show World.cell? _ ⟨w.heap.size,0 +j,none⟩=_
     simp only [World.cell?,World.alloc]
     rw [show (w.drew.heap.push _)[w.heap.size]? =some _ from Array.getElem?_push_size (xs:=w.heap)]
     simp only [Nat.zero_add,this]
     simp [iD]
 · cases bU
end
end a2
namespace a2
open Go Go.RowKit J
section
variable {P:Program} {o:Oper} {a:Act} {w:World} {x y:Operand} {t ep e:TypeId}
theorem s3 {A:Option Addr} {n c:Nat} (bA:P.underlying t=some (.slice e)) (br:o.op= .binOp .eql t x y ep) (ai:a.eval x= .slice A n c) (hy:a.eval y= .slice none 0 0):cg P o a w (.bool A.isNone) w:=by
 have h:∀ d:Nat,(Op.equalIn (d+ 1) t (.slice A n c) (.slice none 0 0)).run P w= .ok A.isNone w:=fun d=>by
  cases A <;> simp [Op.equalIn,run_underlying bA]
 have aU:(binOp .eql t (.slice A n c) (.slice none 0 0)).run P w= .ok (.bool A.isNone) w:=by
  simp only [binOp]
  simp [Op.equal,Op.maxDepth,h 9999]
 simp only [cg,execOp,br,ai,hy]
 simp [go_sem,aU]
theorem H' {α:Type} {T:fl α} {M:List Nat} {w:World} {n c:Nat} {l:List α} (h:(al.of (aH T) [.slice none n c] l).ok M w):l= []/\n= 0 /\c= 0 :=by
 obtain ⟨A,dR,bO,b4,eu,g8,j6⟩:=h
 simp only [List.cons.injEq,Value.slice.injEq,and_true] at bO
 obtain ⟨rfl,rfl,rfl⟩:=bO
 have hc:=g8 rfl
 have az:l.length= 0 :=by omega
 exact ⟨List.eq_nil_of_length_eq_zero az,az,hc⟩
theorem FN {α:Type} {b:Nat} {r:List α} (h:((J.ej b [] []).bind fun l=>some l)=some r):r= []:=by
 simp [J.ej] at h
 exact h
end
section
variable {P:Program} {Q:Exit->Act->World->Prop} {a:Act} {w:World}
def E0 (P:Program) (c:Code) (Q:Exit->Act->World->Prop):Nat->Act->World->Prop
 | 0,_,_=>False
 | n+ 1,a,w=>c.wp P (Exit.then (E0 P c Q n) Q) a w
theorem bi {c:Operand} {x y:Code} {t:Bool} {ρ:Type} {p q:Option ρ} {r:ρ} (hc:a.eval c= .bool t) (h:cond t p q=some r) (bA:t=true->p=some r->x.wp P Q a w) (I:t=false->q=some r->y.wp P Q a w):(Code.cond c x y).wp P Q a w:=
 wp_cond_split hc (fun e=>bA e (di e h)) (fun e=>I e (dh e h))
theorem abK {c:Code} (n:Nat) (h:E0 P c Q n a w):(Code.loop c).wp P Q a w:=by
 refine cA (fun k a w=>E0 P c Q k a w) n h (fun a w h=>h) fun k a w CD K hs=>?_
 exact wp_mono (h:=CD) fun e a w h=>by
  cases e with
  | normal=>exact hs a w h
  | _=>exact h
theorem rL {c:Code} {n:Nat} (h:c.wp P (Exit.then (E0 P c Q n) Q) a w):E0 P c Q (n+ 1) a w:=h
end
end a2
namespace a2
open Go Go.RowKit J
section
variable {P:Program} {ops:Array Oper} {Q:Exit->Act->World->Prop} {a:Act} {w iK aD:World} {rest:List Oper} {o:Oper} {n:hb} {d:Nat} {l:List (Nat × Value)}
 {W:World} {M0 X:List Nat} {E:List aq} {D:List al}
theorem au.AK (h:au W M0 X w E D) {g:Nat} {t:TypeId} {cs:List Value} {x:aq} (i j:Nat) (hi:E[i]? =some (aq.bm g t cs)) (bb:E[j]? =some x) (e6:i≠j):g ∉ x.fI:=fun bh=>
 (K' h.dT i _ hi).2 j x bb e6 g (by simp [aq.bm]) bh
theorem sg {g:Nat} (h:a' [] iK w) (dP:a' [g] w aD) (dd:iK.heap.size<=g):a' [] iK aD:=h.trans dP (fun x ai=>.inr (by simp at ai;omega))
theorem zD {M:List Nat} {p:Addr} {cs:List Value} (h:a' M w aD) (af:p.block ∉ M) (eh:p.block <w.heap.size) (hc:iO w p cs):iO aD p cs:=hc.law (h.block p.block eh af)
theorem aFu {t:TypeId} {cs:List Value} (hw:Region.wanted o (yielded ops a.tmps)=true) (hy:cg P o a w (.pointer (some ⟨w.heap.size,0,none⟩)) (w.alloc (.cells cs.toArray t))) (I:Fr n l a) (hm:au W M0 X w E D)
 (bT:o.dst=some d) (af:Nat.blt d n=true) (k:∀ bM g aD,a' [] w aD->w.heap.size<=g->Fr n ((d,.pointer (some ⟨g,0,none⟩))::l) bM->au W M0 X aD (aq.bm g t cs::E) D->wpList P ops Q rest bM aD):wpList P ops Q (o::rest) a w:=
 bQ hw hy I bT af fun bM e5=>k bM _ _ (a'.alloc _ _ _) (Nat.le_refl _) e5 (hm.new t cs)
theorem o3 {t:TypeId} {cs:List Value} {m:Nat} (hw:Region.wanted o (yielded ops a.tmps)=true) (hy:cg P o a w (.slice (some ⟨w.heap.size,0,none⟩) m m) (w.alloc (.cells cs.toArray t))) (I:Fr n l a) (hm:au W M0 X w E D)
 (bT:o.dst=some d) (af:Nat.blt d n=true) (k:∀ bM g aD,a' [] w aD->w.heap.size<=g->Fr n ((d,.slice (some ⟨g,0,none⟩) m m)::l) bM->au W M0 X aD (aq.bm g t cs::E) D->wpList P ops Q rest bM aD):wpList P ops Q (o::rest) a w:=
 bQ hw hy I bT af fun bM e5=>k bM _ _ (a'.alloc _ _ _) (Nat.le_refl _) e5 (hm.new t cs)
theorem AX {g p sz:Nat} {t o7:TypeId} {x y:Operand} {cs vs:List Value} {v:Value} (i:Nat) (hm:au W M0 X w E D) (hi:E[i]? =some (aq.bm g o7 cs)) (hw:Region.wanted o (yielded ops a.tmps)=true)
 (ad:v.cells=vs.toArray) (a5:∀ w,(Go.sizeOf t).run P w= .ok sz w) (az:Nat.beq vs.length sz=true) (aC:vs.all (·.oneCell')=true) (hle:Nat.ble (p+vs.length) cs.length=true)
 (br:o.op= .store t x y) (ai:a.eval x= .pointer (some ⟨g,p,none⟩)) (hy:a.eval y=v) (bT:o.dst=none)
 (k:∀ aD,a' [g] w aD->au W M0 X aD (E.set i (aq.bm g o7 (lay cs p vs))) D->wpList P ops Q rest a aD):wpList P ops Q (o::rest) a w:=by
 obtain ⟨aD,aC,aU,bS⟩:=ag7 ad a5 az aC hle (hm.e i hi) br ai hy
 exact Nw hw aC bT (k aD aU (hm.vA i hi aU bS (by simp [aq.bm]) (fun k bh=>.inl bh)))
end
end a2
namespace a2
open Go Go.RowKit J
def qc:List Oper->Bool
 | []=>true
 | o::r=>(match o.op with
   | .defer _=>false
   | _=>true) && qc r
theorem ME:∀ {l:List Oper},qc l=true-> ∀ o ∈ l,∀ c,o.op≠ .defer c
 | [],_,o,br,_=>by simp at br
 | p::r,h,o,br,c=>by
   simp only [qc,Bool.and_eq_true] at h
   rcases List.mem_cons.1 br with rfl | e
   · intro b4
     rw [b4] at h
     exact absurd h.1 (by simp)
   · exact ME h.2 o e c
def j1 (ro:Option Nat):Fence:={ Fence.wide with round:=ro }
theorem XS {ro:Option Nat} {q:Prop}:(j1 ro).depth.isSome=true->q:=fun h=>by simp [j1,Fence.wide] at h
section
variable {P:Program} {ops:Array Oper} {Q:Exit->Act->World->Prop} {K:Act->World->Prop} {a:Act} {w:World} {o:Oper} {ro:Option Nat} {n:Nat}
theorem WN (bT:∀ c,o.op≠ .defer c) (h:o.wp P a w K Q):o.wpIn (j1 ro) n P a w K Q:=by
 unfold Oper.wpIn
 refine ⟨fun _ _=>trivial,?_⟩
 rw [Oper.semAt_eq _ _ _ bT]
 unfold Oper.wp at h
 generalize (execOp a.eval o).run P w=r at *
 cases r with
 | ok x aD=>
   cases x <;> simp only [Oper.upon,Oper.uponIn] at h ⊢ <;> first
    | exact h
    | exact ⟨XS,(callsIn_wide (n:=n - 1)).2 h⟩
    | exact ⟨XS,fun c cs _=>let ⟨v,aD,r,s⟩:=h c cs;⟨v,aD,r,stepsIn_wide.2 s⟩⟩
 | halt x aD=>cases x <;> simp only [Oper.upon,Oper.uponIn] at h ⊢ <;> exact h
theorem Mx (gu:∀ a w,¬ Q .outgrown a w):∀ {os:List Oper} {a:Act} {w:World},qc os=true->wpList P ops Q os a w->wpListIn (j1 ro) n P ops Q os a w
 | [],_,_,_,h=>h
 | o::r,a,w,bT,h=>by
   have z5:=bT
   simp only [qc,Bool.and_eq_true] at z5
   simp only [wpList] at h
   simp only [wpListIn]
   split
   · rename_i hw
     rw [if_pos hw] at h
     rcases h with h | ⟨_,bM,aD,h⟩
     · exact WN (ME bT o (by simp)) (Oper.wp_mono (fun a w h=>Mx gu z5.2 h) h)
     · exact absurd h (gu _ _)
   · rename_i hw
     rw [if_neg hw] at h
     exact ⟨fun _ _=>trivial,Mx gu z5.2 h⟩
theorem aE8 (k:Nat) {lo:List Oper} (bT:qc (lo.take k)=true) (h:wpList P ops (Exit.then (wpListIn (j1 ro) n P ops Q (lo.drop k)) (fun _ _ _=>False)) (lo.take k) a w):wpListIn (j1 ro) n P ops Q lo a w:=by
 have key:∀ (os rest:List Oper) (a:Act) (w:World),qc os=true->wpList P ops (Exit.then (wpListIn (j1 ro) n P ops Q rest) (fun _ _ _=>False)) os a w->wpListIn (j1 ro) n P ops Q (os++rest) a w:=by
  intro os
  induction os with
  | nil=>intro rest a w _ h;exact h
  | cons o r cv=>
    intro rest a w bT h
    have z5:=bT
    simp only [qc,Bool.and_eq_true] at z5
    simp only [wpList] at h
    simp only [List.cons_append,wpListIn]
    split
    · rename_i hw
      rw [if_pos hw] at h
      rcases h with h | ⟨_,bM,aD,h⟩
      · have aC:=WN (ro:=ro) (n:=n) (ME bT o (by simp)) (Oper.wp_mono (fun a w h=>cv rest a w z5.2 h) h)
        refine ⟨aC.1,?_⟩
        have aU:=aC.2
        revert aU
        generalize (o.semAt (j1 ro).round a.eval).run P w=MN
        intro aU
        cases MN with
        | ok x aD=>
          cases x <;> simp only [Oper.uponIn] at aU ⊢ <;> first
           | exact aU
           | exact ⟨aU.1,CallsIn.mono aU.2 (fun e agf he=>by cases e <;> first | exact he | exact absurd he (by simp [Exit.then,LetsOut]))⟩
           | exact ⟨aU.1,RoundIn.mono aU.2 (fun e agf he=>by cases e <;> first | exact he | exact absurd he (by simp [Exit.then,LetsOut]))⟩
        | halt x aD=>cases x <;> simp only [Oper.uponIn] at aU ⊢ <;> first | exact aU | exact absurd aU (by simp [Exit.then])
      · exact absurd h (by simp [Exit.then])
    · rename_i hw
      rw [if_neg hw] at h
      exact ⟨fun _ _=>trivial,cv rest _ _ z5.2 h⟩
 have:=key (lo.take k) (lo.drop k) a w bT h
 rwa [List.take_append_drop] at this
theorem aFD (gu:∀ a w,¬ Q .outgrown a w) (bT:qc ops.toList=true) {i:Nat} (h:wpOp P ops Q i K a w):wpOpIn (j1 ro) n P ops Q i K a w:=by
 unfold wpOp at h
 unfold wpOpIn
 split
 · rename_i bE
   rw [bE] at h
   exact h
 · rename_i o br
   rw [br] at h
   have hm:o ∈ ops.toList:=by
    have:=List.mem_of_getElem? (l:=ops.toList) (i:=i) (a:=o) (by rw [Array.getElem?_toList];exact br)
    exact this
   simp only at h
   split
   · rename_i hw
     rw [if_pos hw] at h
     rcases h with h | ⟨_,bM,aD,h⟩
     · exact WN (ME bT o hm) h
     · exact absurd h (gu _ _)
   · rename_i hw
     rw [if_neg hw] at h
     exact ⟨fun _ _=>trivial,h⟩
theorem ZW (gu:∀ a w,¬ Q .outgrown a w) (bT:qc ops.toList=true):∀ {f:Nat} {gO:Array Bool} {a:Act} {w:World},wpAny P .any ops Q f gO a w->wpAnyIn (j1 ro) n P .any ops Q f gO a w
 | 0,_,_,_,h=>h
 | f+ 1,gO,a,w,h=>⟨h.1,fun i hi=>aFD gu bT (wpOp_mono (fun a w h=>ZW gu bT h) (h.2 i hi))⟩
end
def iP (ro:Option Nat) (n:Nat) (P:Program) (c:Code) (Q:Exit->Act->World->Prop) (a:Act) (w:World):Prop:=(∀ a w,¬ Q .outgrown a w)->c.wpIn (j1 ro) n P Q a w
section
variable {P:Program} {Q:Exit->Act->World->Prop} {a:Act} {w:World} {ro:Option Nat} {n:Nat}
theorem NE (h:Q .normal a w):iP ro n P .skip Q a w:=fun _=>wpIn_skip h
theorem Yo {id:Nat} (h:Q (.exit id) a w):iP ro n P (.exit id) Q a w:=fun _=>wpIn_exit h
theorem m9 {x y:Code} (h:∀ K:Act->World->Prop,(∀ a w,iP ro n P y Q a w->K a w)->iP ro n P x (Exit.then K Q) a w):iP ro n P (.seq x y) Q a w:=
 fun gu=>wpIn_seq (h _ (fun _ _ h=>h gu) gu)
theorem Yn {c:Operand} {x y:Code} {t:Bool} (hc:a.eval c= .bool t) (bA:t=true->iP ro n P x Q a w) (I:t=false->iP ro n P y Q a w):iP ro n P (.cond c x y) Q a w:=
 fun gu=>wpIn_cond_split hc (fun e=>bA e gu) (fun e=>I e gu)
theorem aHu {c:Operand} {x y:Code} {b:Bool} (hc:a.eval c= .bool b) (a1:b=false) (h:iP ro n P y Q a w):iP ro n P (.cond c x y) Q a w:=fun gu=>wpIn_cond_false (by rw [hc,a1]) (h gu)
theorem Yl {id:Nat} {c:Code} (h:iP ro n P c (Exit.inBlock id Q) a w):iP ro n P (.block id c) Q a w:=fun gu=>wpIn_block (h gu)
theorem Ym {id:Nat} {c:Code} (lx:Act->World->Prop) (ai:∀ K:Act->World->Prop,(∀ a w,lx a w->K a w)->iP ro n P c (Exit.inBlock id (Exit.then K Q)) a w) (hy:∀ a w,lx a w->Q .normal a w):iP ro n P (.block id c) Q a w:=by
 intro gu
 refine wpIn_block (wpIn_mono (ai _ hy gu) ?_)
 intro e a w h
 cases e with
 | exit i=>
   by_cases hi:i=id
   · simpa [Exit.inBlock,Exit.then,hi] using h
   · simpa [Exit.inBlock,Exit.then,hi] using h
 | _=>exact h
theorem agq {c:Code} (n5:Nat->Act->World->Prop) (k:Nat) (h:n5 k a w) (bE:∀ a w,¬ n5 0 a w)
 (round:∀ k a w,n5 (k+ 1) a w-> ∀ K:Act->World->Prop,(∀ a w,n5 k a w->K a w)->iP ro n P c (Exit.then K Q) a w):iP ro n P (.loop c) Q a w:=by
 intro gu
 refine wpIn_loop (fun a w=>∃ n,n5 n a w) (fun a w=>leastOf (fun n=>n5 n a w)) ⟨k,h⟩ ?_
 intro a w CD
 have aC:=(leastOf_spec CD).1
 cases bh:leastOf (fun n=>n5 n a w) with
 | zero=>rw [bh] at aC;exact absurd aC (bE a w)
 | succ m=>
   rw [bh] at aC
   exact round m a w aC _ (fun bM aD dP=>⟨⟨m,dP⟩,Nat.lt_succ_of_le ((leastOf_spec ⟨m,dP⟩).2 m dP)⟩) gu
theorem o9 {id:Nat} {l:List Oper} (bT:qc l=true) (h:wpList P l.toArray Q l a w):iP ro n P (.region id l.toArray false) Q a w:=fun gu=>wpIn_region_lit (Mx gu bT h)
theorem agp {id m:Nat} {lo:List Oper} (p:Nat) (S:World->World->Prop) (hm:P.follows .mixedOrders=true) (az:Nat.beq lo.length m=true) (bT:qc lo=true) (h:∀ aD,a' [] w aD->dV P lo.toArray Q p (S aD) m [] a aD):iP ro n P (.region id lo.toArray true) Q a w:=by
 have az:=Nat.eq_of_beq_eq_true az
 subst az
 intro gu
 exact wpIn_mono (Q:=NoPanic Q) (wpIn_region_any hm (ZW (Q:=NoPanic Q) (fun a w=>gu a w) bT (h _ (a'.drew [] w)).wpAny)) NoPanic.imp
theorem aHv {id:Nat} {l:List Oper} (h:(∀ a w,¬ Q .outgrown a w)->wpListIn (j1 ro) n P l.toArray Q l a w):iP ro n P (.region id l.toArray false) Q a w:=fun gu=>wpIn_region_lit (h gu)
end
def aq.obj (g:Nat) (o:Obj):aq where
 fI:=[g]
 ok w:=w.heap[g]? =some o
 law w aD h bh:=(h g (by simp)).trans bh
section
variable {W w:World} {M0 X:List Nat} {E:List aq} {D:List al}
theorem aks (w:World) (g:Nat) (o:Obj):a' [g] w (w.putObj g o):=
 ⟨rfl,rfl,rfl,by simp,fun k _ af=>World.putObj_heap_other (by simpa using af)⟩
theorem au.putObj {g:Nat} {o:Obj} (hm:au W M0 X w E D) (i:Nat) (hi:E[i]? =some (aq.obj g o)) (lj:Obj):au W M0 X (w.putObj g lj) (E.set i (aq.obj g lj)) D:=
 hm.vA i hi (aks w g lj) (by
   have h:w.heap[g]? =some o:=hm.e i hi
   exact World.putObj_heap_same (Array.getElem?_eq_some_iff.1 h).1) (by simp [aq.obj]) (fun k bh=>.inl bh)
theorem au.newObj (hm:au W M0 X w E D) (o:Obj):au W M0 X (w.alloc o) (aq.obj w.heap.size o::E) D:=
 hm.push _ (a'.alloc _ _ _) (World.alloc_heap_new w o) (fun k bh=>by simp [aq.obj] at bh;subst bh;exact ⟨Nat.le_refl _,by simp⟩) (by simp [aq.obj])
end
def mark (r:Nat):Deferred:={ target:=.collected r,args:=#[] }
theorem ab9 {P:Program} {f:FuncId} {fn:Func} {c:Code} {vs:List Value} {w:World} {R:Ending->World->Prop} {n:Nat}
 (I:P.funcs[f]? =some fn) (a1:fn.body=some c) (af:fn.ntmps=n) (az:Nat.ble vs.length n=true)
 (h:∀ a,Fr ⟨n,[]⟩ (xx 0 vs) a->c.wp P (bodyPostM Fence.wide 0 P fn R) a w):Calls P f vs.toArray w R:=by
 refine (callsIn_wide (n:=0)).1 (callsIn_of_wp_marks I a1 trivial (wpIn_wide.2 ?_))
 rw [af]
 exact h _ (Fr.init vs n az)
section
variable {P:Program} {a:Act} {w:World} {W:World} {M0 X:List Nat} {E:List aq} {D:List al} {fn:Func} {R:Ending->World->Prop} {l:List (Nat × Value)} {n g t u:Nat} {v rM:Value}
theorem afd (i:Nat) (I:Fr ⟨n,[mark g]⟩ l a) (hm:au W M0 X w E D) (hi:E[i]? =some (aq.obj g (.deferred (some [])))) (h:∀ aD,au W M0 X aD (E.set i (aq.obj g (.deferred none))) D-> ∃ v,(results fn a.tmps).run P aD= .ok v aD/\R (.returned v) aD) :
 bodyPostM Fence.wide 0 P fn R .ret a w:=by
 show LeavesInM Fence.wide 0 P fn a.tmps R a.defers .returning w
 rw [I.defers]
 exact ⟨by simp,.inl ⟨g,_,rfl,run_takeDeferred (hm.e i hi),h _ (hm.putObj i hi _)⟩⟩
theorem aFb (i:Nat) (bU:fn.results= #[.tmp t]) (I:Fr ⟨n,[mark g]⟩ l a) (hm:au W M0 X w E D) (hi:E[i]? =some (aq.obj g (.deferred (some [])))) (az:ft l t=some v)
 (h:∀ aD,au W M0 X aD (E.set i (aq.obj g (.deferred none))) D->R (.returned v) aD):bodyPostM Fence.wide 0 P fn R .ret a w:=
 afd i I hm hi fun aD gB=>⟨_,results_tmp bU _ _ _,by rw [I.get _ _ az];exact h aD gB⟩
theorem aFc (i:Nat) (bU:fn.results= #[.tmp t,.tmp u]) (I:Fr ⟨n,[mark g]⟩ l a) (hm:au W M0 X w E D) (hi:E[i]? =some (aq.obj g (.deferred (some [])))) (az:ft l t=some v) (pr:ft l u=some rM)
 (h:∀ aD,au W M0 X aD (E.set i (aq.obj g (.deferred none))) D->R (.returned (.tuple #[v,rM])) aD):bodyPostM Fence.wide 0 P fn R .ret a w:=
 afd i I hm hi fun aD gB=>⟨_,results_tmp2 bU _ _ _,by rw [I.get _ _ az,I.get _ _ pr];exact h aD gB⟩
end
theorem akb {P:Program} {f:FuncId} {fn:Func} {c:Code} {vs:List Value} {w:World} {R:Ending->World->Prop} {n:Nat}
 (I:P.funcs[f]? =some fn) (a1:fn.body=some c) (af:fn.ntmps=n) (az:Nat.ble vs.length n=true) (il:∀ w,¬ R .outgrown w)
 (h:∀ a,Fr ⟨n,[]⟩ (xx 0 vs) a->iP none 1 P c (bodyPost P fn R) a w):CallsIn (j1 none) 1 P f vs.toArray w R:=by
 refine callsIn_of_wp I a1 trivial ?_
 rw [af]
 exact h _ (Fr.init vs n az) (fun a w h=>il w h)
theorem zq {P:Program} {fn:Func} {R:Ending->World->Prop} {a:Act} {w:World} (h:bodyPost P fn R .ret a w):bodyPost P fn R .normal a w:=h
theorem agh {n:Nat} (h:n<=maxLen):J.ap ((n:Int) - 1)=(n:Int) - 1 :=by
 unfold J.ap
 simp only [maxLen] at h
 omega
theorem aEx {jI pre rem:List Int} {x:Int} (h:jI=(x::rem).reverse++pre):J.idx jI (rem.length:Int)=some x:=by
 subst h
 unfold J.idx
 rw [if_pos (by omega)]
 simp
def ZR (P:Program) (f:FuncId):Prop:=∀ (lx:List Int->World->Prop) (jI:List Int) (A:Option Addr) (c j9 L:Nat) (iK:World),
 (∀ rem w,lx rem w-> ∃ W M0 X E,au W M0 X w E [al.cU j9 [.slice A jI.length c],al.of (aH (aj .i64)) [.slice A jI.length c] jI]) ->
 (∀ x rem w,lx (x::rem) w->YieldAt (j1 none) 0 P L #[.int .i64 (rem.length:Int),.int .i64 x] w (fun e aD=>e= .returned (.bool true)/\lx rem aD)) ->
 lx jI.reverse iK->CallsIn (j1 none) 1 P f #[.func (.yield L) #[] #[],.pointer (some ⟨j9,0,none⟩)] iK (fun e aD=>(∃ v,e= .returned v)/\lx [] aD)
section
variable {P:Program} {ops:Array Oper} {Q:Exit->Act->World->Prop} {a:Act} {w:World} {rest:List Oper} {o:Oper} {n:hb} {d L:Nat} {l:List (Nat × Value)}
theorem aGJ {q0:Operand} {xs:List Operand} {kU:Array TypeId} {vs:List Value} (br:o.op= .call { callee:=.value q0,args:=xs.toArray,argTypes:=kU }) (z8:a.eval q0= .func (.yield L) #[] #[]) (hA:xC a xs vs) :
 (execOp a.eval o).run P w=(Instr.yield L vs.toArray).run P w:=by
 have aC:=K_ hA
 simp only [execOp,br,resolve,List.map_toArray,aC,z8]
 simp [Deferred.ofValue,invoke]
theorem aIV {q0:Operand} {xs:List Operand} {kU:Array TypeId} {vs:List Value} {R:Ending->World->Prop} (hw:Region.wanted o (yielded ops a.tmps)=true) (br:o.op= .call { callee:=.value q0,args:=xs.toArray,argTypes:=kU })
 (z8:a.eval q0= .func (.yield L) #[] #[]) (hA:xC a xs vs) (hy:YieldAt (j1 none) 0 P L vs.toArray w R) (I:Fr n l a) (bT:o.dst=some d) (af:Nat.blt d n=true)
 (k:∀ e aD,R e aD-> ∃ v,e= .returned v/\ ∀ bM,Fr n ((d,v)::l) bM->wpListIn (j1 none) 1 P ops Q rest bM aD):wpListIn (j1 none) 1 P ops Q (o::rest) a w:=by
 refine wpListIn_step fun K hs=>?_
 rw [if_pos hw]
 refine ⟨fun _ _=>trivial,?_⟩
 obtain ⟨fn,tmps,assign,body,aC,aU⟩:=hy
 rw [Oper.semAt_eq _ _ _ (by rw [br];simp),aGJ br z8 hA,aC]
 refine ⟨XS,RoundIn.mono aU ?_⟩
 intro e aD bU
 obtain ⟨v,rfl,bh⟩:=k e aD bU
 rw [bT]
 exact hs _ _ (bh _ (I.put af))
end
section
variable {P:Program} {Q:Exit->Act->World->Prop} {a:Act} {w:World} {W:World} {M0 X:List Nat} {E:List aq} {D:List al}
theorem abq {β:Type} {C7 af7 h8 hl n j9 c:Nat} {A:Option Addr} {l:List (Nat × Value)} {l1:Int->Int->List (Nat × Value)} {assign body:Code} (BO:β->List aq) (wg:β->List al) (rel:List Int->β->Prop) (jI:List Int) (w7:β) (lk l4:Nat)
 (ayx:ZR P C7) (ab8:∀ args w,(callFunc C7 args).run P w= .ok (.enter C7 args) w)
 (I:Fr ⟨n,[]⟩ l a) (dd:ft l af7=some (.func (.func C7) #[] #[.pointer (some ⟨j9,0,none⟩)])) (azw:Nat.blt h8 n=true) (azx:Nat.blt hl n=true)
 (hm:au W M0 X w (BO w7) (wg w7)) (bE:rel jI.reverse w7)
 (azA:∀ b,(wg b)[lk]? =some (al.cU j9 [.slice A jI.length c])) (azB:∀ b,(wg b)[l4]? =some (al.of (aH (aj .i64)) [.slice A jI.length c] jI))
 (bK:∀ L i x w bM (K:Act->World->Prop),Fr ⟨n,[]⟩ ((hl,.int .i64 x)::(h8,.int .i64 i)::l) bM->(∀ B1,Fr ⟨n,[]⟩ (l1 i x) B1->K B1 w)->iP (some L) 0 P assign (Exit.then K (fun _ _ _=>False)) bM w)
 (a1:∀ L g qd kX qf b i x rem w bM (K:Exit->Act->World->Prop),rel (x::rem) b->Fr ⟨n,[]⟩ (l1 i x) bM->au W M0 X w (aq.obj g qd::aq.obj kX qf::BO b) (wg b) ->
  (∀ tv B1 aD,rel rem tv->au W M0 X aD (aq.obj g qd::aq.obj kX qf::BO tv) (wg tv)->K .normal B1 aD)->iP (some L) 0 P body K bM w)
 (avI:∀ g b bM aD,rel [] b->Fr ⟨n,[mark g]⟩ l bM->au W M0 X aD (aq.obj g (.deferred (some []))::BO b) (wg b)->Q .normal bM aD) :
 (Code.rangeFunc (.tmp af7) #[h8,hl] assign body).wp P Q a w:=by
 refine (wpIn_wide (n:=2)).1 (wpIn_rangeFunc fun fn _=>?_)
 obtain ⟨rec,xY⟩:∃ rec:LoopState->Loop,rec=fun st=>{ state:=st,pending:=none,fn,tmps:=a.tmps,params:=#[h8,hl],assign,body,defers:=w.heap.size }:=⟨_,rfl⟩
 obtain ⟨zo,acQ⟩:∃ zo,(w.alloc (.deferred (some []))).alloc (.loop (rec .ready))=zo:=⟨_,rfl⟩
 have azl:au W M0 X zo (aq.obj (w.heap.size+ 1) (.loop (rec .ready))::aq.obj w.heap.size (.deferred (some []))::BO w7) (wg w7):=by
  have:=(hm.newObj (.deferred (some []))).newObj (.loop (rec .ready))
  rw [acQ] at this
  simpa using this
 refine ⟨w.heap.size+ 1,[mark w.heap.size],zo,{ target:=.fn (.func C7) #[.pointer (some ⟨j9,0,none⟩)],args:=#[.func (.yield (w.heap.size+ 1)) #[] #[]] },zo,C7,
  #[.func (.yield (w.heap.size+ 1)) #[] #[],.pointer (some ⟨j9,0,none⟩)],zo,?_,?_,fun _ _=>trivial,?_,fun _=>by decide,?_⟩
 · rw [<-acQ,xY];exact run_enterLoop_outer _ _ _ _ _
 · have R_:=I.g dd
   simp only [resolve,R_]
   simp [go_sem]
 · simp [invoke,go_sem,ab8]
 · refine CallsIn.mono (ayx (fun rem aD=>∃ b,rel rem b/\au W M0 X aD (aq.obj (w.heap.size+ 1) (.loop (rec .ready))::aq.obj w.heap.size (.deferred (some []))::BO b) (wg b)) jI A c j9 (w.heap.size+ 1) zo ?_ ?_ ⟨w7,bE,azl⟩) ?_
   · rintro rem aD ⟨b,_,gB⟩
     exact ⟨_,_,_,_,gB.less fun y hy=>by
      simp only [List.mem_cons,List.not_mem_nil,or_false] at hy
      rcases hy with rfl | rfl
      · exact List.mem_of_getElem? (azA b)
      · exact List.mem_of_getElem? (azB b)⟩
   · rintro x rem aD ⟨b,bU,gB⟩
     have az:aD.heap[w.heap.size+ 1]? =some (.loop (rec .ready)):=gB.e 0 rfl
     have hy:=run_yield (P:=P) (args:=#[.int .i64 (rem.length:Int),.int .i64 x]) az (by rw [xY];rfl)
     rw [xY] at hy
     refine ⟨fn,_,assign,body,hy,roundIn_of_wpIn trivial ?_⟩
     have avP:Fr ⟨n,[]⟩ ((hl,.int .i64 x)::(h8,.int .i64 (rem.length:Int))::l) ⟨((#[h8,hl]:Array Tmp).zip #[Value.int .i64 (rem.length:Int),.int .i64 x]).foldl (fun tmps (x:Tmp × Value)=>tmps.setIfInBounds x.1 x.2) a.tmps,[]⟩:=by
      have aC:=(I.put (v:=.int .i64 (rem.length:Int)) azw).put (v:=.int .i64 x) azx
      have e:((#[h8,hl]:Array Tmp).zip #[Value.int .i64 (rem.length:Int),.int .i64 x]).foldl (fun tmps (x:Tmp × Value)=>tmps.setIfInBounds x.1 x.2) a.tmps=((a.put (some h8) (.int .i64 (rem.length:Int))).put (some hl) (.int .i64 x)).tmps:=by simp [Act.put]
      refine ⟨?_,rfl,?_⟩
      · simp only [e];exact aC.size
      · simp only [e];exact aC.get
     refine bK (w.heap.size+ 1) _ _ aD _ _ avP ?_ (fun a w h=>h)
     intro B1 avO
     have oF:=gB.putObj 0 rfl (.loop { rec .ready with state:=.busy })
     refine ⟨_,run_beginRound az (by rw [xY]),?_⟩
     refine a1 (w.heap.size+ 1) _ _ _ _ b _ x rem _ B1 _ bU avO oF ?_ (fun a w h=>h)
     intro tv a3 o8 HF Hv
     have T3:o8.heap[w.heap.size+ 1]? =some (.loop { rec .ready with state:=.busy }):=Hv.e 0 rfl
     refine ⟨_,_,run_endRound none T3,rfl,tv,HF,?_⟩
     have Hw:=Hv.putObj 0 rfl (.loop (rec .ready))
     rw [xY] at Hw ⊢
     exact Hw
   · rintro e o8 ⟨⟨v,rfl⟩,b,bU,Hv⟩
     have T3:o8.heap[w.heap.size+ 1]? =some (.loop (rec .ready)):=Hv.e 0 rfl
     have he:=run_endLoop (P:=P) T3 (by rw [xY];simp)
     rw [xY] at he
     refine ⟨none,_,he,?_⟩
     have Hw:=Hv.putObj 0 rfl (.loop { rec .ready with state:=.exhausted })
     rw [xY] at Hw
     refine avI w.heap.size b _ _ bU ⟨I.size,?_,I.get⟩ (Hw.drop (List.sublist_cons_self _ _))
     show [mark w.heap.size]++a.defers= [mark w.heap.size]
     rw [I.defers];rfl
end
end a2
namespace a2
open Go Go.RowKit J
def al.A2:al:=⟨fun _ _=>True,fun _ _ _ _ _ _ _=>trivial⟩
def al.ey {α:Type} (o:Option α) (f:α->al):al:=match o with
 | none=>al.A2
 | some x=>f x
def jO {α:Type} (o:Option α) (g:Nat):Option Addr:=match o with
 | none=>none
 | some _=>some ⟨g,0,none⟩
section
variable {P:Program} {ops:Array Oper} {Q:Exit->Act->World->Prop} {a:Act} {w:World} {rest:List Oper} {o:Oper} {n:hb} {d:Nat} {l:List (Nat × Value)}
 {W:World} {M0 X:List Nat} {E:List aq} {D:List al}
theorem au.none (h:au W M0 X w E D) {α:Type} (f:α->al):au W M0 X w E (al.ey (Option.none:Option α) f::D):=h.more (y:=al.ey (Option.none:Option α) f) trivial
theorem aGY {α:Type} {T:fl α} {t e:TypeId} {x y:Operand} {z:Value} {bytes:Nat} {k:Int} {z0:α} {r:List α}
 (hm:au W M0 X w E D) (ka:P.underlying t=some (.slice e)) (k3:(P.info? e).map (fun i=>(i.zero,i.size,i.bytes))=some (some z,1,bytes)) (C2:z.cells= #[z]) (zT:T.size= 1)
 (C1:∀ F w,T.rd F w [z] z0) (kA:Nat.ble 1 bytes=true) (bU:MA z0 bytes k=some r) (hw:Region.wanted o (yielded ops a.tmps)=true) (br:o.op= .makeSlice t x y) (ai:a.eval x= .int .i64 k) (hy:a.eval y= .int .i64 k)
 (I:Fr n l a) (bT:o.dst=some d) (af:Nat.blt d n=true)
 (next:∀ bM A c xs aD,a' [] w aD->Fr n ((d,.slice A r.length c)::l) bM->au W M0 X aD (aq.row e T.size (.slice A r.length c) r xs::E) (al.rows T xs r::D)->wpList P ops Q rest bM aD):wpList P ops Q (o::rest) a w:=by
 obtain ⟨bE,aC,rfl⟩:=aFo bU
 obtain ⟨m,rfl⟩:=Int.eq_ofNat_of_zero_le bE
 simp only [Int.toNat_natCast] at *
 have kA:=Nat.le_of_ble_eq_true kA
 have hle:m<=bytes*m:=Nat.le_mul_of_pos_left m kA
 have su:=run_make_row' (P:=P) t e z bytes ka k3 C2 .i64 .i64 m (by omega) (by omega) w
 have HR:cg P o a w (.slice (some ⟨w.heap.size,0,none⟩) m m) (w.alloc (.cells (madeCells #[z] m) e)):=by
  simp only [cg,execOp,br,ai,hy,Sem.run_bind,su,Result.andThen_ok,Sem.run_pure]
 have lM:(aq.row e T.size (.slice (some ⟨w.heap.size,0,none⟩) m m) (List.replicate m z0) (List.replicate m z)).ok (w.alloc (.cells (madeCells #[z] m) e)):=by
  refine ⟨by simp [zT],.inr ⟨w.heap.size,m,madeCells #[z] m,by simp,Nat.zero_le _,heap_alloc_new w _,by simp,by simp only [maxLen];omega,by simp [size_madeCells,zT],?_⟩⟩
  rw [toList_madeCells_one]
  simp [zT]
 have aBq:∀ (F:Nat->Prop) (w:World) (q:Nat),fS T F w (List.replicate q z) (List.replicate q z0):=by
  intro F w q
  induction q with
  | zero=>rfl
  | succ q cv=>exact ⟨[z],List.replicate q z,rfl,C1 F w,cv⟩
 have oF:=hm.push (aq.row e T.size (.slice (some ⟨w.heap.size,0,none⟩) m m) (List.replicate m z0) (List.replicate m z)) (a'.alloc [] w _) lM (fun q en=>by
  have:q=w.heap.size:=by simpa [aq.row,Value.ownBlock,eq_comm] using en
  subst this;simp) (by simp [aq.row,Value.ownBlock])
 refine bQ hw HR I bT af fun bM e5=>next bM (some ⟨w.heap.size,0,none⟩) m (List.replicate m z) _ (a'.alloc [] w _) ?_ ?_
 · simpa using e5
 · have:=oF.Is (T:=T) (xs:=List.replicate m z) (li:=List.replicate m z0) (aBq _ _ m)
   simpa using this
theorem afN {α:Type} {T:fl α} {z:Value} {z0:α} (C1:∀ F w,T.rd F w [z] z0) (F:Nat->Prop) (w:World):∀ q:Nat,fS T F w (List.replicate q z) (List.replicate q z0)
 | 0 =>rfl
 | q+ 1 =>⟨[z],List.replicate q z,rfl,C1 F w,afN C1 F w q⟩
theorem aGO {α:Type} {T:fl α} {t X_ e:TypeId} {x y:Operand} {z:Value} {bytes:Nat} {k:Int} {z0:α} {r:List α}
 (hm:au W M0 X w E D) (ka:P.underlying t=some (.slice e)) (aox:P.underlying X_=some (.int .i64)) (k3:(P.info? e).map (fun i=>(i.zero,i.size,i.bytes))=some (some z,1,bytes)) (C2:z.cells= #[z]) (zT:T.size= 1)
 (C1:∀ F w,T.rd F w [z] z0) (kA:Nat.ble 1 bytes=true) (bU:E1 z0 bytes k=some r) (hw:Region.wanted o (yielded ops a.tmps)=true) (br:o.op= .call { callee:=.builtin .append,args:=#[x,y],argTypes:=#[t,X_] })
 (ai:a.eval x= .slice none 0 0) (hy:a.eval y= .int .i64 k) (I:Fr n l a) (bT:o.dst=some d) (af:Nat.blt d n=true)
 (next:∀ bM A c xs aD,a' [] w aD->Fr n ((d,.slice A r.length c)::l) bM->au W M0 X aD (aq.row e T.size (.slice A r.length c) r xs::E) (al.rows T xs r::D)->wpList P ops Q rest bM aD):wpList P ops Q (o::rest) a w:=by
 obtain ⟨bE,aC,rfl⟩:=ahK bU
 obtain ⟨m,rfl⟩:=Int.eq_ofNat_of_zero_le (Int.le_of_lt bE)
 simp only [Int.toNat_natCast] at *
 have kA:=Nat.le_of_ble_eq_true kA
 have hle:m<=bytes*m:=Nat.le_mul_of_pos_left m kA
 obtain ⟨i0,hi,ad9⟩:=Option.map_eq_some_iff.1 k3
 simp only [Prod.mk.injEq] at ad9
 obtain ⟨c0,a5,a1⟩:=ad9
 have su:=Lib.run_append_nil_zeros (P:=P) w t X_ o.type e i0 z .i64 .i64 ka aox hi c0 m (by omega) (by omega) (by omega) (by rw [a1,Nat.mul_comm];omega)
 let cap:=grownCap w m 0 e
 have acU:m<=cap:=grownCap_ge w m 0 e
 have G5:cap<=maxLen:=grownCap_le_maxLen w m 0 e (by simp only [maxLen];omega)
 have aEt:∀ q,(Builtin.zeroCells z.cells q).toList=List.replicate q z:=by
  intro q
  rw [C2]
  apply List.ext_getElem
  · simp [Builtin.zeroCells]
  · intro j aC aU
    simp [Builtin.zeroCells,Nat.mod_one]
 let cur:=Builtin.zeroCells z.cells m++Builtin.zeroCells z.cells (cap - m)
 have hcs:cur.size=cap:=by simp only [cur,Array.size_append,size_zeroCells,C2];simp;omega
 have HR:cg P o a w (.slice (some ⟨w.heap.size,0,none⟩) m cap) (w.drew.alloc (.cells cur e)):=by
  simp only [cg,execOp,br,resolve,invoke,builtin,Sem.run_bind,Sem.run_pure,Result.andThen_ok,List.map_toArray,List.map_cons,List.map_nil,ai,hy,su,cap,cur]
 have lL:a' [] w (w.drew.alloc (.cells cur e)):=(a'.drew [] w).trans (a'.alloc [] w.drew (.cells cur e)) (by simp)
 have Lw:w.drew.heap.size=w.heap.size:=rfl
 have lM:(aq.row e T.size (.slice (some ⟨w.heap.size,0,none⟩) m cap) (List.replicate m z0) (List.replicate m z)).ok (w.drew.alloc (.cells cur e)):=by
  refine ⟨by simp [zT],.inr ⟨w.heap.size,cap,cur,by simp,Nat.zero_le _,?_,by simpa using acU,G5,by simp [hcs,zT],?_⟩⟩
  · rw [<-Lw];exact heap_alloc_new w.drew _
  · simp only [cur,Array.toList_append,aEt,zT,List.length_replicate,Nat.mul_one]
    rw [List.take_append_of_le_length (by simp),List.take_of_length_le (by simp)]
 have oF:=hm.push (aq.row e T.size (.slice (some ⟨w.heap.size,0,none⟩) m cap) (List.replicate m z0) (List.replicate m z)) lL lM (fun q en=>by
  have:q=w.heap.size:=by simpa [aq.row,Value.ownBlock,eq_comm] using en
  subst this;simp) (by simp [aq.row,Value.ownBlock])
 refine bQ hw HR I bT af fun bM e5=>next bM (some ⟨w.heap.size,0,none⟩) cap (List.replicate m z) _ lL ?_ ?_
 · simpa using e5
 · have:=oF.Is (T:=T) (xs:=List.replicate m z) (li:=List.replicate m z0) (afN C1 _ _ m)
   simpa using this
theorem aGQ {α:Type} {T:fl α} {t e c:Nat} {A:Option Addr} {li:List α} {xs:List Value} {x:Operand} {lo hi:Option Operand} (i:Nat) (hm:au W M0 X w E D) (xQ:E[i]? =some (aq.row e T.size (.slice A li.length c) li xs))
 (bA:P.underlying t=some (.slice e)) (a5:∀ w,(Go.sizeOf e).run P w= .ok T.size w) (hw:Region.wanted o (yielded ops a.tmps)=true) (br:o.op= .slice t x lo hi none) (ai:a.eval x= .slice A li.length c)
 (rc:(lo=none/\(0 :Int)= 0)\/ ∃ z,lo=some z/\a.eval z= .int .i64 0) (q':∃ z,hi=some z/\a.eval z= .int .i64 0) (I:Fr n l a) (bT:o.dst=some d) (af:Nat.blt d n=true)
 (next:∀ bM,Fr n ((d,.slice A ([]:List α).length c)::l) bM->au W M0 X w (E.set i (aq.row e T.size (.slice A ([]:List α).length c) ([]:List α) [])) (al.rows T [] ([]:List α)::D)->wpList P ops Q rest bM w):wpList P ops Q (o::rest) a w:=by
 have Ua:w.ownsRow 0 e T.size (.slice A li.length c) li.length xs:=hm.e i xQ
 obtain ⟨jx,dR,ad,hle,_,LP,gL⟩:=XY (hm.e i xQ)
 simp only [Value.slice.injEq,true_and] at ad
 obtain ⟨rfl,rfl⟩:=ad
 have hy:=Pt (P:=P) (w:=w) (a:=a) (o:=o) bA a5 br ai rc (.inr q') (i:=0) (j:=0) ⟨Int.le_refl _,Int.le_refl _,by omega⟩ hle
 have hAdd:(if c=(0 :Int).toNat then A else A.map (·.add ((0 :Int).toNat*T.size)))=A:=by
  split
  · rfl
  · cases acH:A with
    | none=>rfl
    | some cc=>
      have:=gL (by rw [acH];simp)
      rw [acH] at this
      simp only [Option.some.injEq] at this
      rw [this,Option.map_some,qM]
      simp
 rw [hAdd] at hy
 have hy:cg P o a w (.slice A ([]:List α).length c) w:=by simpa using hy
 have lM:(aq.row e T.size (.slice A ([]:List α).length c) ([]:List α) []).ok w:=by
  refine ⟨by simp,?_⟩
  rcases Ua.2 with ⟨bO,b4⟩ | ⟨g,cap,cur,bO,b4,eu,g8,j6,zB,_⟩
  · left
    simp only [Value.slice.injEq] at bO
    obtain ⟨rfl,_,rfl⟩:=bO
    exact ⟨rfl,rfl⟩
  · right
    simp only [Value.slice.injEq] at bO
    obtain ⟨rfl,_,rfl⟩:=bO
    exact ⟨g,c,cur,rfl,b4,eu,Nat.zero_le _,j6,zB,by simp⟩
 refine bQ hw hy I bT af fun bM e5=>next bM e5 ?_
 refine (hm.more (y:=al.rows T [] ([]:List α)) rfl).vA i xQ (a'.refl _ _) lM (WR _) (fun q en=>.inl (by
  cases A with
  | none=>simp [aq.row,Value.ownBlock] at en
  | some cc=>simpa [aq.row,Value.ownBlock] using en))
theorem aIn {t e:TypeId} {sz:Nat} {x:Operand} {lo hi:Option Operand} (bA:P.underlying t=some (.slice e)) (a5:∀ w,(Go.sizeOf e).run P w= .ok sz w) (br:o.op= .slice t x lo hi none) (ai:a.eval x= .slice none 0 0)
 (rc:(lo=none/\(0 :Int)= 0)\/ ∃ z,lo=some z/\a.eval z= .int .i64 0) (q':(hi=none/\(0 :Int)=(0 :Nat))\/ ∃ z,hi=some z/\a.eval z= .int .i64 0):cg P o a w (.slice none 0 0) w:=by
 have h:=Pt (P:=P) (w:=w) bA a5 br ai rc q' (i:=0) (j:=0) ⟨Int.le_refl _,Int.le_refl _,by omega⟩ (Nat.le_refl 0)
 simpa using h
theorem ag4 {t e:TypeId} {A:Option Addr} {m c:Nat} {x:Operand} (bA:P.underlying t=some (.slice e)) (br:o.op= .call { callee:=.builtin .cap,args:=#[x],argTypes:=#[t] }) (ai:a.eval x= .slice A m c):cg P o a w (.int .i64 c) w:=by
 simp [cg,execOp,br,resolve,invoke,builtin,Builtin.cap_,ai,run_underlying bA,goInt]
theorem aIl {t ep:TypeId} {x:Operand} {m:Int} (bA:P.underlying t=some (.int .i64)) (oI:P.underlying ep=some (.int .u64)) (br:o.op= .convert t ep x) (ai:a.eval x= .int .i64 m):cg P o a w (.int .u64 (nT m)) w:=by
 have h:=Ps (P:=P) (w:=w) bA oI br ai
 rwa [show IntKind.u64.wrap m=nT m by rw [IntKind.wrap_u64];rfl] at h
theorem aIj {t ep:TypeId} {x:Operand} {m:Int} (bA:P.underlying t=some (.int .u64)) (oI:P.underlying ep=some (.int .i64)) (br:o.op= .convert t ep x) (ai:a.eval x= .int .u64 m):cg P o a w (.int .i64 (ap m)) w:=by
 have h:=Ps (P:=P) (w:=w) bA oI br ai
 rwa [yT] at h
theorem aIS {t ep:TypeId} {x y:Operand} {k:IntKind} {m:Int} {n:Nat} (af:Nat.ble n 64 =true) (br:o.op= .binOp .shr t x y ep) (ai:a.eval x= .int .u64 m) (hy:a.eval y= .int k (n:Int)):cg P o a w (.int .u64 (nO m n)) w:=by
 have hle:=Nat.le_of_ble_eq_true af
 unfold nO
 simp only [cg,execOp,br,ai,hy]
 simp [go_sem,hle]
end
end a2
namespace a2
open Go Go.RowKit J Go.Shelf Go.Proofs
theorem Cz (b:Nat):∀ (vs:List Value) (o:Nat) (w:World),a' [b] w (w.setCells b o vs)
 | [],_,w=>a'.refl _ w
 | v::r,o,w=>(a'.set w ⟨b,o,none⟩ v).trans (Cz b r (o+ 1) _) (fun x ai=>.inl ai)
theorem DG (b:Nat) (e:TypeId) (Lb:Nat × Nat):∀ (vs:List Value) (o:Nat) (w:World) (cur:List Value),w.heap[b]? =some (.cells cur.toArray e Lb)->o+vs.length<=cur.length ->
 (w.setCells b o vs).heap[b]? =some (.cells (cur.take o++vs++cur.drop (o+vs.length)).toArray e Lb)
 | [],o,w,cur,h,_=>by simpa [World.setCells] using h
 | v::r,o,w,cur,h,az=>by
   simp only [List.length_cons] at az
   have a1:b <w.heap.size:=by
    rcases Nat.lt_or_ge b w.heap.size with dP | dP
    · exact dP
    · rw [Array.getElem?_eq_none dP] at h;cases h
   have aC:(w.setCell ⟨b,o,none⟩ v).heap[b]? =some (.cells (cur.set o v).toArray e Lb):=by
    simp only [World.setCell,Array.getElem?_modify,if_pos,h,Option.map_some]
    simp
   have:=DG b e Lb r (o+ 1) _ (cur.set o v) aC (by simp;omega)
   show ((w.setCell ⟨b,o,none⟩ v).setCells b (o+ 1) r).heap[b]? =_
   rw [this]
   have HN:cur.set o v=cur.take o++v::cur.drop (o+ 1):=by rw [List.set_eq_take_append_cons_drop,if_pos (by omega)]
   have bA:(cur.take o).length=o:=by rw [List.length_take];omega
   have bO:(cur.set o v).take (o+ 1)=cur.take o++[v]:=by
    rw [HN,List.take_append,bA,List.take_of_length_le (by rw [bA];omega)]
    simp
   have b4:(cur.set o v).drop (o+ 1 +r.length)=cur.drop (o+(v::r).length):=by
    rw [List.drop_set_of_lt (by omega)]
    congr 1
    simp;omega
   rw [bO,b4]
   simp
theorem aGV {cur xs:List Value} {x:Value} {n m:Nat} (bA:cur.take n=xs) (af:xs.length=n) (hm:m<=n) (hc:n+ 1 <=cur.length) :
 ((cur.take (m+ 1)++xs.drop m++cur.drop (m+ 1 +(xs.drop m).length)).take m++[x]++(cur.take (m+ 1)++xs.drop m++cur.drop (m+ 1 +(xs.drop m).length)).drop (m+ 1)).take (n+ 1)=xs.take m++[x]++xs.drop m:=by
 have aC:(cur.take (m+ 1)).length=m+ 1 :=by rw [List.length_take];omega
 have aU:(cur.take (m+ 1)++xs.drop m++cur.drop (m+ 1 +(xs.drop m).length)).take m=xs.take m:=by
  rw [List.append_assoc,List.take_append_of_le_length (by omega),List.take_take,Nat.min_eq_left (by omega),<-bA,List.take_take,Nat.min_eq_left hm]
 have bS:(cur.take (m+ 1)++xs.drop m++cur.drop (m+ 1 +(xs.drop m).length)).drop (m+ 1)=xs.drop m++cur.drop (m+ 1 +(xs.drop m).length):=by
  rw [List.append_assoc,List.drop_append,aC,List.drop_eq_nil_of_le (by omega)]
  simp
 rw [aU,bS,<-List.append_assoc,List.take_append_of_le_length (by simp;omega),List.take_of_length_le (by simp;omega)]
theorem akX {z0 xs:List Value} {x:Value} {n m:Nat} (af:xs.length=n) (hm:m<=n) (c0:z0.take m=xs.take m) (az:n+ 1 <=z0.length) :
 ((z0.take m++[x]++z0.drop (m+ 1)).take (m+ 1)++xs.drop m++(z0.take m++[x]++z0.drop (m+ 1)).drop (m+ 1 +(xs.drop m).length)).take (n+ 1)=xs.take m++[x]++xs.drop m:=by
 have aC:(z0.take m++[x]).length=m+ 1 :=by simp;omega
 rw [List.take_append_of_le_length (l₁:=z0.take m++[x]) (by omega),List.take_of_length_le (l:=z0.take m++[x]) (by omega),c0,List.take_append_of_le_length (by simp;omega),List.take_of_length_le (by simp;omega)]
section
variable {P:Program} {ρ:Ren} {w:World} {W:World} {M0 X:List Nat} {E:List aq} {D:List al}
theorem afL {F:Nat->Prop}:∀ {li:List Int} {xs:List Value},fS (aj .i64) F w xs li->xs=li.map (Value.int .i64)
 | [],_,h=>h
 | b::r,_,⟨cs,ys,e,aC,aU⟩=>by
   have aC:cs= [.int .i64 b]:=aC
   rw [e,aC,afL aU]
   rfl
theorem afM {F:Nat->Prop}:∀ li:List Int,fS (aj .i64) F w (li.map (Value.int .i64)) li
 | []=>rfl
 | b::r=>⟨[.int .i64 b],r.map (Value.int .i64),rfl,rfl,afM r⟩
theorem ai_ (L:Lays2.n21 P ρ) {A:Option Addr} {c g:Nat} {li r:List Int} {xs:List Value} {n x:Int} (i j q:Nat) (Lx:Nat.beq i j=false) (hm:au W M0 X w E D) (hi:E[i]? =some (aq.row (ρ.t 3) 1 (.slice A li.length c) li xs))
 (bb:E[j]? =some (aq.bm g (ρ.t 3) [.int .i64 x])) (en:D[q]? =some (al.rows (aj .i64) xs li)) (bU:L1 li n x=some r) :
 Calls P (ρ.f 21) [.slice A li.length c,.int .i64 n,.slice (some ⟨g,0,none⟩) 1 1].toArray w (fun e aD=>∃ jx dR fG,e= .returned (.slice jx r.length dR)/\au W M0 X aD (E.set i (aq.row (ρ.t 3) 1 (.slice jx r.length dR) r fG)) (al.rows (aj .i64) fG r::D)):=by
 obtain ⟨bE,aC,sk,rfl⟩:=aEI bU
 obtain ⟨m,rfl⟩:=Int.eq_ofNat_of_zero_le bE
 have gB:m<=li.length:=by omega
 simp only [Int.toNat_natCast]
 have hA:xs=li.map (Value.int .i64):=afL (hm.d q en)
 have lM:w.ownsRow 0 (ρ.t 3) 1 (.slice A li.length c) li.length xs:=hm.e i hi
 have ary:w.heap[g]? =some (.cells [Value.int .i64 x].toArray (ρ.t 3) (0,0)):=hm.e j bb
 have x1:∀ q v,[Value.int .i64 x][q]? =some v->w.cell? ⟨g,0 +q,none⟩=some v:=fun q v en=>by
  have:=B4 (hm.e j bb) en
  simpa using this
 have F2:∀ v ∈ [Value.int .i64 x],v.oneCell'=true:=fun v ad=>by simp at ad;subst ad;rfl
 have acG:∀ v ∈ xs,v.oneCell'=true:=fun v ad=>by rw [hA] at ad;simp at ad;obtain ⟨_,_,rfl⟩:=ad;rfl
 have nz:xs.length=li.length:=by rw [hA];simp
 have hlen:(li.take m++x::li.drop m).length=li.length+ 1 :=by simp;omega
 have Al:(li.take m++x::li.drop m).map (Value.int .i64)=xs.take m++[Value.int .i64 x]++xs.drop m:=by rw [hA];simp [List.map_take,List.map_drop]
 have go:∀ (jx:Option Addr) (dR:Nat) (aD:World),a' (Value.slice A li.length c).ownBlock.toList w aD->aD.ownsRow 0 (ρ.t 3) 1 (.slice jx (li.length+ 1) dR) (li.length+ 1) (xs.take m++[Value.int .i64 x]++xs.drop m) ->
  (∀ k,(Value.slice jx (li.length+ 1) dR).ownBlock=some k->(Value.slice A li.length c).ownBlock=some k\/(w.heap.size<=k/\k <aD.heap.size)) ->
  ∃ YI Z8 fG,Ending.returned (.slice jx (li.length+ 1) dR)= .returned (.slice YI (li.take m++x::li.drop m).length Z8)/\au W M0 X aD (E.set i (aq.row (ρ.t 3) 1 (.slice YI (li.take m++x::li.drop m).length Z8) (li.take m++x::li.drop m) fG)) (al.rows (aj .i64) fG (li.take m++x::li.drop m)::D):=by
  intro jx dR aD ad rf I
  have Ua:(aq.row (ρ.t 3) 1 (.slice jx (li.take m++x::li.drop m).length dR) (li.take m++x::li.drop m) ((li.take m++x::li.drop m).map (Value.int .i64))).ok aD:=by
   show aD.ownsRow 0 (ρ.t 3) 1 _ (li.take m++x::li.drop m).length _
   rw [hlen,Al]
   exact rf
  refine ⟨jx,dR,(li.take m++x::li.drop m).map (Value.int .i64),by rw [hlen],?_⟩
  refine (hm.Is (T:=aj .i64) (afM (li.take m++x::li.drop m))).vA i hi ad Ua (WR _) (fun k bh=>?_)
  have kc:(Value.slice jx (li.length+ 1) dR).ownBlock=some k:=by
   have:(Value.slice jx (li.take m++x::li.drop m).length dR).ownBlock=some k:=by simpa [aq.row] using bh
   rwa [hlen] at this
  rcases I k kc with e | e
  · exact .inl (by simpa [aq.row] using e)
  · exact .inr e
 have R':grownCap w (li.length+ 1) c (ρ.t 3)<=maxLen:=grownCap_le_maxLen _ _ _ _ (by simp only [maxLen];omega)
 have Ab:li.length+ 1 <=grownCap w (li.length+ 1) c (ρ.t 3):=grownCap_ge _ _ _ _
 rcases lM.2 with ⟨ad,azo⟩ | ⟨b,cap,cur,ad,_,a1,LP,mE,hcs,Ux⟩
 ·
   simp only [Value.slice.injEq] at ad
   obtain ⟨rfl,_,rfl⟩:=ad
   have CZ:li= []:=List.eq_nil_of_length_eq_zero azo
   subst CZ
   have ba:m= 0 :=by simpa using gB
   subst ba
   have aEn:xs= []:=by simpa using hA
   subst aEn
   have hc:=Any2.slices_Insert_int_end_grow L none 0 0 g 0 1 1 [] [Value.int .i64 x] w (by decide) (by decide) (by decide) (by decide) rfl rfl (fun _=>rfl) (fun a bK=>by cases bK) x1 F2
   refine Calls.mono hc ?_
   rintro e aD ⟨rfl,rfl⟩
   refine go (some ⟨w.heap.size,0,none⟩) (grownCap w 1 0 (ρ.t 3)) _ ((a'.drew [] w).trans (a'.alloc [] w.drew _) (by simp) |>.mono (by simp)) ?_ (fun k bh=>.inr ?_)
   · refine ⟨by simp,.inr ⟨w.heap.size,_,_,rfl,Nat.zero_le _,heap_alloc_new w.drew _,Ab,R',?_,?_⟩⟩
     · simp only [Array.size_append,List.size_toArray,size_zeroCells];simp at Ab ⊢;simp [Value.cells];omega
     · simp
   · have:w.heap.size=k:=by simpa [Value.ownBlock] using bh
     subst this;simp
 · simp only [Value.slice.injEq,true_and] at ad
   obtain ⟨rfl,rfl⟩:=ad
   have RR:cur.size=c:=by simpa using hcs
   have nw:cur.toList.length=c:=by simpa using RR
   have bA:cur.toList.take li.length=xs:=by simpa using Ux
   have iD:w.heap[b]? =some (.cells cur.toList.toArray (ρ.t 3) (0,0)):=by simpa using a1
   have oD:∀ j v,xs[j]? =some v->w.cell? ⟨b,0 +j,none⟩=some v:=fun j v bb=>by
    have:=(lM.cells (g:=b) rfl) j v bb
    rw [Nat.zero_add]
    have e:(⟨b,j,none⟩:Addr)=if j= 0 then ⟨b,0,none⟩ else ⟨b,j,none⟩:=by split <;> simp_all
    rw [e]
    simpa [Addr.add] using this
   have e6:g≠b:=by
    intro e
    have bT:=K' hm.dT
    have Hy:i≠j:=by intro h;subst h;simp at Lx
    exact (bT i _ hi).2 j _ bb Hy b (by simp [aq.row,Value.ownBlock]) (by simp [aq.bm,e])
   have sv:∀ j,j <c->(w.cell? ⟨b,0 +j,none⟩).isSome=true:=fun j bb=>by
    simp [World.cell?,a1,RR,bb]
   have R2:∀ j,w.frozen? ⟨b,0 +j,none⟩=false:=fun j=>by simp [World.frozen?,a1]
   by_cases LR:li.length+ 1 <=c
   · by_cases uj:m=li.length
     · subst uj
       have hc:=Any2.slices_Insert_int_end_room L b 0 li.length c g 0 1 1 [Value.int .i64 x] w (by decide) LR (by simp only [maxLen] at mE;omega) rfl (fun j bb=>by rw [Nat.add_assoc];exact sv _ (by omega)) (fun j bb=>by rw [Nat.add_assoc];exact R2 _) x1 F2
       refine Calls.mono hc ?_
       rintro e aD ⟨rfl,rfl⟩
       refine go (some ⟨b,0,none⟩) c _ ((Cz b _ _ w).mono (by simp [Value.ownBlock])) ?_ (fun k bh=>.inl (by simpa [Value.ownBlock] using bh))
       have h0:=DG b (ρ.t 3) (0,0) [Value.int .i64 x] (0 +li.length) w cur.toList iD (by simp;omega)
       refine ⟨by simp;omega,.inr ⟨b,c,_,rfl,Nat.zero_le _,h0,LR,mE,?_,?_⟩⟩
       · simp;omega
       · simp only [Nat.zero_add,Nat.mul_one,bA]
         rw [List.take_append_of_le_length (by simp;omega),List.take_of_length_le (by simp;omega),List.take_of_length_le (by omega),List.drop_eq_nil_of_le (by omega)]
         simp
     · have hc:=Any2.slices_Insert_int_shift L b 0 li.length c m g 0 1 1 xs [Value.int .i64 x] w (by omega) (by decide) LR (by simp only [maxLen] at mE;omega) e6 nz rfl oD (fun j bb=>sv j (by omega)) (fun j _=>R2 j) x1 acG F2
        (ρ.t 3) (ρ.t 3) 1 c (by simp [World.shape?,ary]) (by simp [World.shape?,a1,RR]) (by omega) (Z7 (hm.e j bb) 0) (Z7 (hm.e j bb) 1)
       refine Calls.mono hc ?_
       rintro e aD ⟨rfl,rfl⟩
       have nn:=Cz b (xs.drop m) (0 +(m+ 1)) w.drew
       have K6:=Cz b [Value.int .i64 x] (0 +m) (w.drew.setCells b (0 +(m+ 1)) (xs.drop m))
       refine go (some ⟨b,0,none⟩) c _ ((((a'.drew [b] w).trans nn (fun x ai=>.inl ai)).trans K6 (fun x ai=>.inl ai)).mono (by simp [Value.ownBlock])) ?_ (fun k bh=>.inl (by simpa [Value.ownBlock] using bh))
       have avT:=DG b (ρ.t 3) (0,0) (xs.drop m) (0 +(m+ 1)) w.drew cur.toList iD (by simp;omega)
       have h0:=DG b (ρ.t 3) (0,0) [Value.int .i64 x] (0 +m) _ _ avT (by simp;omega)
       refine ⟨by simp;omega,.inr ⟨b,c,_,rfl,Nat.zero_le _,h0,LR,mE,?_,?_⟩⟩
       · simp;omega
       · have:=aGV (x:=Value.int .i64 x) bA nz gB (by omega)
         simpa using this
   · have acU:li.length=c:=by omega
     by_cases uj:m=li.length
     · subst uj
       have hc:=Any2.slices_Insert_int_end_grow L (some ⟨b,0,none⟩) li.length c g 0 1 1 xs [Value.int .i64 x] w (by decide) (by omega) (by omega) (by omega) nz rfl (fun h=>by cases h) (fun a bK j v bb=>by
        cases bK
        have:=(lM.cells (g:=b) rfl) j v bb
        simpa [Addr.add] using this) x1 F2
       refine Calls.mono hc ?_
       rintro e aD ⟨rfl,rfl⟩
       refine go (some ⟨w.heap.size,0,none⟩) (grownCap w (li.length+ 1) c (ρ.t 3)) _ (((a'.drew [] w).trans (a'.alloc [] w.drew _) (by simp)).mono (by simp)) ?_ (fun k bh=>.inr ?_)
       · refine ⟨by simp;omega,.inr ⟨w.heap.size,_,_,rfl,Nat.zero_le _,heap_alloc_new w.drew _,Ab,R',?_,?_⟩⟩
         · simp only [Array.size_append,List.size_toArray,size_zeroCells,List.length_append,nz];simp [Value.cells];omega
         · simp only [Nat.mul_one,List.drop_zero,Array.toList_append]
           rw [List.take_append_of_le_length (by simp [nz]),List.take_of_length_le (by simp [nz]),List.take_of_length_le (l:=xs) (by omega),List.drop_eq_nil_of_le (by omega)]
           simp
       · have:w.heap.size=k:=by simpa [Value.ownBlock] using bh
         subst this;simp
     · have hc:=Any2.slices_Insert_int_grow L b 0 li.length c m g 0 1 1 xs [Value.int .i64 x] w (by omega) (by decide) (by omega) (by omega) (by omega) nz rfl oD x1 acG F2
       refine Calls.mono hc ?_
       rintro e aD ⟨rfl,rfl⟩
       have aoF:=heap_alloc_new w (.cells ((xs.take m).toArray++Builtin.zeroCells (Value.int .i64 0).cells (li.length+ 1 - m)++Builtin.zeroCells (Value.int .i64 0).cells (grownCap w (li.length+ 1) c (ρ.t 3) - (li.length+ 1))) (ρ.t 3))
       have C2:∀ q,(Builtin.zeroCells (Value.int .i64 0).cells q).toList.length=q:=fun q=>by rw [Array.length_toList,size_zeroCells];simp [Value.cells]
       have ayB:((xs.take m)++(Builtin.zeroCells (Value.int .i64 0).cells (li.length+ 1 - m)).toList++(Builtin.zeroCells (Value.int .i64 0).cells (grownCap w (li.length+ 1) c (ρ.t 3) - (li.length+ 1))).toList).length=grownCap w (li.length+ 1) c (ρ.t 3):=by
        simp only [List.length_append,C2,List.length_take,nz];omega
       have Rp:(w.alloc (.cells ((xs.take m).toArray++Builtin.zeroCells (Value.int .i64 0).cells (li.length+ 1 - m)++Builtin.zeroCells (Value.int .i64 0).cells (grownCap w (li.length+ 1) c (ρ.t 3) - (li.length+ 1))) (ρ.t 3))).drew.heap[w.heap.size]? =some (.cells ((xs.take m)++(Builtin.zeroCells (Value.int .i64 0).cells (li.length+ 1 - m)).toList++(Builtin.zeroCells (Value.int .i64 0).cells (grownCap w (li.length+ 1) c (ρ.t 3) - (li.length+ 1))).toList).toArray (ρ.t 3) (0,0)):=by
        refine aoF.trans ?_
        congr 2
        apply Array.toList_inj.mp
        simp
       generalize LX:(xs.take m)++(Builtin.zeroCells (Value.int .i64 0).cells (li.length+ 1 - m)).toList++(Builtin.zeroCells (Value.int .i64 0).cells (grownCap w (li.length+ 1) c (ρ.t 3) - (li.length+ 1))).toList=z0 at ayB Rp
       have aEu:z0.take m=xs.take m:=by
        rw [<-LX,List.append_assoc,List.take_append_of_le_length (by simp;omega),List.take_of_length_le (by simp;omega)]
       have lL:a' [] w (w.alloc (.cells ((xs.take m).toArray++Builtin.zeroCells (Value.int .i64 0).cells (li.length+ 1 - m)++Builtin.zeroCells (Value.int .i64 0).cells (grownCap w (li.length+ 1) c (ρ.t 3) - (li.length+ 1))) (ρ.t 3))).drew:=(a'.alloc [] w _).trans (a'.drew [] _) (by simp)
       generalize aBS:(w.alloc (.cells ((xs.take m).toArray++Builtin.zeroCells (Value.int .i64 0).cells (li.length+ 1 - m)++Builtin.zeroCells (Value.int .i64 0).cells (grownCap w (li.length+ 1) c (ρ.t 3) - (li.length+ 1))) (ρ.t 3))).drew=a7 at Rp lL
       have xZ:w.heap.size <a7.heap.size:=by rw [<-aBS];simp
       have nn:=Cz w.heap.size [Value.int .i64 x] m a7
       have K6:=a'.drew [] (a7.setCells w.heap.size m [Value.int .i64 x])
       have acf:=Cz w.heap.size (xs.drop m) (m+ 1) (a7.setCells w.heap.size m [Value.int .i64 x]).drew
       have akq:=((lL.trans nn (fun x ai=>.inr (by simp at ai;omega))).trans K6 (by simp)).trans acf (fun x ai=>.inr (by simp at ai;omega))
       have aU:=DG w.heap.size (ρ.t 3) (0,0) [Value.int .i64 x] m a7 z0 Rp (by simp;omega)
       have bS:=DG w.heap.size (ρ.t 3) (0,0) (xs.drop m) (m+ 1) (a7.setCells w.heap.size m [Value.int .i64 x]).drew _ aU (by simp;omega)
       refine go (some ⟨w.heap.size,0,none⟩) (grownCap w (li.length+ 1) c (ρ.t 3)) _ (akq.mono (by simp)) ?_ (fun k bh=>.inr ?_)
       · refine ⟨by simp;omega,.inr ⟨w.heap.size,_,_,rfl,Nat.zero_le _,bS,Ab,R',?_,?_⟩⟩
         · simp;omega
         · have:=akX (x:=Value.int .i64 x) nz gB aEu (by omega)
           simpa using this
       · have:w.heap.size=k:=by simpa [Value.ownBlock] using bh
         subst this
         exact ⟨Nat.le_refl _,Nat.lt_of_lt_of_le xZ (Nat.le_trans nn.size (Nat.le_trans K6.size acf.size))⟩
end
end a2
namespace Go.Proofs.YtpkhpagplommoaaGreat
open Go Go.Shelf
def aEK:Ren:=⟨fun f=>match f with | 21 =>116 | 27 =>141 | 28 =>142 | 35 =>150 | 39 =>151 | f=>f,fun t=>t,fun g=>g⟩
theorem aEJ:Lays2.n21 Tryz.prog aEK:={
 mixed:=by kernel_rfl,f21:=by kernel_rfl,f27:=by kernel_rfl,f28:=by kernel_rfl,f35:=by kernel_rfl,f39:=by kernel_rfl
 t0:=by kernel_rfl,a0:=fun w=>by kernel_rfl,z0:=fun w=>by kernel_rfl,v0:=fun w=>by kernel_rfl
 t3:=by kernel_rfl,a3:=fun w=>by kernel_rfl,z3:=fun w=>by kernel_rfl,v3:=fun w=>by kernel_rfl
 t4:=by kernel_rfl,a4:=fun w=>by kernel_rfl,z4:=fun w=>by kernel_rfl,v4:=fun w=>by kernel_rfl
 t22:=by kernel_rfl,a22:=fun w=>by kernel_rfl,z22:=fun w=>by kernel_rfl,v22:=fun w=>by kernel_rfl
 i3:=by kernel_rfl }
end Go.Proofs.YtpkhpagplommoaaGreat
namespace Go.Value
abbrev q {α:Type} (A:Option Addr) (c:Nat) (l:List α):Value:=.slice A l.length c
end Go.Value
namespace a2
open Go Go.RowKit J
theorem aFG {A:Option Addr} {n m c x:Nat} (h:x ∈ (Value.slice A n c).ownBlock.toList):x ∈ (Value.slice A m c).ownBlock.toList:=by cases A <;> exact h
abbrev aS:=Option Addr
abbrev dF:=List Value
abbrev eK:=List Int
theorem wn {ops:Array Oper} {a:Act} {o:Oper} (dd:o.guard=none:=by rfl):Region.wanted o (yielded ops a.tmps)=true:=DM dd
section
variable {W w:World} {M0 X:List Nat} {E lv:List aq} {D ha:List al} {n:hb} {l l' new b0 jj:List (Nat × Value)} {a:Act}
theorem Fr.cut (I:Fr n l a) (h:Cx l (l'.map (·.1))=some l':=by kernel_rfl):Fr n l' a:=I.sub (QI h)
def DE (D:List al):List Nat->Option (List al)
 | []=>some []
 | i::r=>match nth D i,DE D r with
   | some y,some ys=>some (y::ys)
   | _,_=>none
theorem afX:∀ {is:List Nat} {ha:List al},DE D is=some ha->MI D ha
 | [],ha,h=>by simp only [DE,Option.some.injEq] at h;subst h;trivial
 | i::r,ha,h=>by
   simp only [DE] at h
   split at h
   · rename_i y ys aC aU
     simp only [Option.some.injEq] at h
     subst h
     exact ⟨⟨i,by rw [<-sP];exact aC⟩,afX aU⟩
   · cases h
theorem au.ec (h:au W M0 X w E D) (is:List Nat) (e:DE D is=some ha:=by kernel_rfl):au W M0 X w E ha:=h.pick (afX e)
theorem au.aW (h:au W M0 X w E D) (Wj is:List Nat) (bO:H_ Wj=true:=by kernel_rfl) (b4:DF E Wj=some lv:=by kernel_rfl) (e:DE D is=some ha:=by kernel_rfl):au W M0 X w lv ha:=(h.kr Wj bO b4).ec is e
theorem aB {α:Type} {a b:α} (h:some a=some b):a=b:=Option.some.inj h
theorem os {α:Type} {a b:α} (h:some a=some b):b=a:=(Option.some.inj h).symm
def n':List (Nat × Value)->List (Nat × Value)->List (Nat × Value)
 | [],r=>r
 | x::l,r=>x::n' l r
def tZ:List (Nat × Value)->Nat->Bool
 | [],_=>false
 | p::r,j=>Nat.beq p.1 j || tZ r j
def Ib:List (Nat × Value)->List (Nat × Value)->List (Nat × Value)
 | _,[]=>[]
 | new,p::r=>match tZ new p.1 with
   | true=>Ib new r
   | false=>p::Ib (p::new) r
def lB (new b0:List (Nat × Value)):List (Nat × Value):=n' new (Ib new b0)
theorem afc {t:Nat} {r:List (Nat × Value)}:∀ {l:List (Nat × Value)},ft (n' l r) t=cond (tZ l t) (ft l t) (ft r t)
 | []=>by simp [n',tZ]
 | p::l=>by
   simp only [n',ft,tZ]
   cases Nat.beq p.1 t with
   | true=>simp
   | false=>simp only [Bool.false_or];exact afc
theorem WE {t:Nat}:∀ {r new:List (Nat × Value)},tZ new t=false->ft (Ib new r) t=ft r t
 | [],_,_=>rfl
 | p::r,new,h=>by
   simp only [Ib,ft]
   cases a1:Nat.beq p.1 t with
   | true=>
     have:p.1 =t:=Nat.eq_of_beq_eq_true a1
     rw [this,h]
     simp only [ft,this,Nat.beq_refl]
   | false=>
     cases tZ new p.1 with
     | true=>simp only;exact WE h
     | false=>simp only [ft,a1];exact WE (by simp only [tZ,a1,Bool.false_or];exact h)
theorem Fr.FP (I:Fr n (lB new b0) a):Fr n (n' new b0) a:=⟨I.size,I.defers,fun t v bA=>I.get t v (by
 unfold lB
 rw [afc] at bA ⊢
 cases h0:tZ new t with
 | true=>rw [h0] at bA;exact bA
 | false=>rw [h0] at bA;rw [WE h0];exact bA)⟩
def K9 (G:mf) (ops:Array Oper) (n:Nat) (M:List (Nat × Nat × List Value)) (is a5:List Nat) (b0:List (Nat × Value)) (dB:List Nat):Option (List (Nat × Value) × List (Nat × Nat)):=
 match AM ops.toList is with
 | some os=>j7 G ops n M os a5 b0 dB
 | none=>none
theorem akt {G:mf} {ops:Array Oper} {n:Nat} {M:List (Nat × Nat × List Value)} {is a5:List Nat} {b0:List (Nat × Value)} {dB:List Nat} {r:List (Nat × Value) × List (Nat × Nat)} (h:K9 G ops n M is a5 b0 dB=some r):∃ os,AM ops.toList is=some os/\j7 G ops n M os a5 b0 dB=some r:=by
 unfold K9 at h
 split at h
 · rename_i os aC;exact ⟨os,aC,h⟩
 · cases h
end
end a2
