/- Part 1 of the proof that is ended in the last text: small logic, what the functions compute, walks, plain laws. -/
import Derived.WalkKit
import Derived.Deep.LoopGhost
import Derived.Deep.Quiet
import Derived.Maps.AppendAt
import Derived.KernelRfl
import Derived.Deep.RegionHeld3
import Derived.Laws.StructEq
import Derived.Carry
import Derived.ChangeSame
import Derived.OpenShut
import Derived.Deep.Slices
import Derived.Deep.Fields
import Derived.ChangeMaps5
import Derived.Lib.LaidTab
import Derived.OrdersHeld
import Derived.MapKept
import Derived.Laws.OwnMore
import Derived.Laws.IdiomStrings
import Derived.RangeFuncRecord
import Derived.RangeFuncSeq
import Derived.RangeFuncIn
import Derived.RangeFuncLeaves
import Derived.OrdersIn
import Derived.TacticsIn
import Derived.Deep.OwnRows
import Derived.Lib.AppendZeros
import Derived.Shelf.Spec.SlicesInsert
import Derived.Shelf.Spec.SlicesInsertGrow
import Derived.Test.YtpkhpagplommoaaGreatProg
namespace J
def av (n:Int):Int:=(n+ 9223372036854775808) % 18446744073709551616 - 9223372036854775808
def ns (n:Int):Int:=n % 18446744073709551616
def Wg (a b:Int):Int:=av ((BitVec.ofInt 64 a ||| BitVec.ofInt 64 b).toNat:Int)
def Ps (a b:Int):Int:=av ((BitVec.ofInt 64 a &&& BitVec.ofInt 64 b).toNat:Int)
def nr (a:Int) (n:Nat):Int:=a / 2 ^ n
def EE (n:Int):UInt8:=UInt8.ofNat (n % 256).toNat
def idx {α:Type} (l:List α) (i:Int):Option α:=if 0 <=i then l[i.toNat]? else none
def eO {α:Type} (bytes:Nat) (l m:List α):Option (List α):=if (l.length+m.length)*bytes<= 140737488355328 then some (l++m) else none
def bytesOf (s:List UInt8):Option (List UInt8):=if s.length<= 140737488355328 then some s else none
def LV {α:Type} (z:α) (bytes:Nat) (n:Int):Option (List α):=if 0 <=n/\bytes*n.toNat<= 140737488355328 then some (List.replicate n.toNat z) else none
def EB {α:Type} (z:α) (bytes:Nat) (n:Int):Option (List α):=if 0 <n/\bytes*n.toNat<= 140737488355328 then some (List.replicate n.toNat z) else none
def Lu (l:List Int) (n x:Int):Option (List Int):=if 0 <=n/\n<=l.length/\(l.length+ 1)* 8 <= 140737488355328 then some (l.take n.toNat++x::l.drop n.toNat) else none
def cut {α:Type} (l:List α) (i j:Int):Option (List α):=if 0 <=i/\i<=j/\j<=l.length then some ((l.take j.toNat).drop i.toNat) else none
theorem dz {α:Type} {b:Bool} {x y:Option α} {r:α} (a8:b=true) (h:cond b x y=some r):x=some r:=by subst a8;exact h
theorem dy {α:Type} {b:Bool} {x y:Option α} {r:α} (a8:b=false) (h:cond b x y=some r):y=some r:=by subst a8;exact h
theorem aQ {α β:Type} {o:Option α} {f:α->Option β} {r:β} (h:o.bind f=some r):∃ x,o=some x/\f x=some r:=by
 cases o with
 | none=>cases h
 | some x=>exact ⟨x,rfl,h⟩
theorem uR {α:Type} {l:List α} {i:Int} {d:α} (h:idx l i=some d):0 <=i/\i.toNat <l.length/\l[i.toNat]? =some d:=by
 unfold idx at h
 split at h
 · rename_i bH
   exact ⟨bH,(List.getElem?_eq_some_iff.1 h).1,h⟩
 · cases h
theorem Y_ {α:Type} {bytes:Nat} {l m r:List α} (h:eO bytes l m=some r):(l.length+m.length)*bytes<= 140737488355328 /\r=l++m:=by
 unfold eO at h
 split at h
 · rename_i bH;exact ⟨bH,by simpa using h.symm⟩
 · cases h
theorem aDA {α:Type} {z:α} {bytes:Nat} {n:Int} {r:List α} (h:LV z bytes n=some r):0 <=n/\bytes*n.toNat<= 140737488355328 /\r=List.replicate n.toNat z:=by
 unfold LV at h
 split at h
 · rename_i bH;exact ⟨bH.1,bH.2,by simpa using h.symm⟩
 · cases h
theorem agb {α:Type} {z:α} {bytes:Nat} {n:Int} {r:List α} (h:EB z bytes n=some r):0 <n/\bytes*n.toNat<= 140737488355328 /\r=List.replicate n.toNat z:=by
 unfold EB at h
 split at h
 · rename_i bH;exact ⟨bH.1,bH.2,by simpa using h.symm⟩
 · cases h
theorem aCZ {l r:List Int} {n x:Int} (h:Lu l n x=some r):0 <=n/\n<=l.length/\(l.length+ 1)* 8 <= 140737488355328 /\r=l.take n.toNat++x::l.drop n.toNat:=by
 unfold Lu at h
 split at h
 · rename_i bH;exact ⟨bH.1,bH.2.1,bH.2.2,by simpa using h.symm⟩
 · cases h
theorem agd (n:Int):((EE n).toNat:Int)=n % 256 :=by
 unfold EE
 have bH:0 <=n % 256 :=Int.emod_nonneg _ (by omega)
 have aI:n % 256 < 256 :=Int.emod_lt_of_pos _ (by omega)
 simp only [UInt8.toNat_ofNat']
 omega
end J
namespace J
end J
namespace J
section
variable {κ β:Type} [DecidableEq κ]
def dr:List (κ × β)->κ->Option β
 | [],_=>none
 | p::r,k=>if p.1 =k then some p.2 else dr r k
def iM:List (κ × β)->κ->β->List (κ × β)
 | [],k,v=>[(k,v)]
 | p::r,k,v=>if p.1 =k then (k,v)::r else p::iM r k v
def lS:List (κ × β)->κ->Option Nat
 | [],_=>none
 | p::r,k=>if p.1 =k then some 0 else (lS r k).map (· + 1)
end
end J
namespace J
inductive Way (ρ α:Type)
 | go (a:α)
 | out (r:ρ)
def dD {ρ α:Type} (x:Option (Way ρ α)) (k:α->Option ρ):Option ρ:=match x with
 | none=>none
 | some (.go a)=>k a
 | some (.out r)=>some r
def et {ρ α β:Type} (x:Option (Way ρ α)) (k:α->Option (Way ρ β)):Option (Way ρ β):=match x with
 | none=>none
 | some (.go a)=>k a
 | some (.out r)=>some (.out r)
def ep {ρ α:Type} (k:α->Option ρ):Way ρ α->Option ρ
 | .go a=>k a
 | .out r=>some r
def fa {ρ α β:Type} (k:α->Option (Way ρ β)):Way ρ α->Option (Way ρ β)
 | .go a=>k a
 | .out r=>some (.out r)
theorem eC {ρ α:Type} {x:Option (Way ρ α)} {k:α->Option ρ} {r:ρ} (h:dD x k=some r):∃ y,x=some y/\ep k y=some r:=by
 cases x with
 | none=>cases h
 | some y=>cases y <;> exact ⟨_,rfl,h⟩
theorem fl {ρ α β:Type} {x:Option (Way ρ α)} {k:α->Option (Way ρ β)} {r:Way ρ β} (h:et x k=some r):∃ y,x=some y/\fa k y=some r:=by
 cases x with
 | none=>cases h
 | some y=>cases y <;> exact ⟨_,rfl,h⟩
@[simp] theorem qG {ρ α:Type} (a:α) (k:α->Option ρ):dD (some (.go a)) k=k a:=rfl
@[simp] theorem aej {ρ α:Type} (r:ρ) (k:α->Option ρ):dD (some (.out r)) k=some r:=rfl
@[simp] theorem oP {ρ α β:Type} (a:α) (k:α->Option (Way ρ β)):et (some (.go a)) k=k a:=rfl
@[simp] theorem aIr {ρ α β:Type} (r:ρ) (k:α->Option (Way ρ β)):et (some (.out r)) k=some (.out r):=rfl
end J
namespace J
end J
namespace a5
open Go Go.RowKit
def hf:List (Nat × Value)->Nat->Option Value
 | [],_=>none
 | p::r,t=>match Nat.beq p.1 t with
   | true=>some p.2
   | false=>hf r t
structure h' where
 n:Nat
 ds:List Deferred
instance:Coe h' Nat:=⟨h'.n⟩
structure Fr (n:h') (l:List (Nat × Value)) (a:Act):Prop where
 size:a.tmps.size=n.n
 defers:a.defers=n.ds
 get:∀ t v,hf l t=some v->a.tmps.getD t undef=v
theorem Fr.g {n:h'} {l:List (Nat × Value)} {a:Act} {t:Nat} {v:Value} (I:Fr n l a) (h:hf l t=some v):a.eval (.tmp t)=v:=I.get t v h
theorem Fr.put {n:h'} {d:Nat} {l:List (Nat × Value)} {a:Act} {v:Value} (I:Fr n l a) (bY:Nat.blt d n=true):Fr n ((d,v)::l) (a.put (some d) v):=by
 have ey:d <n:=Nat.le_of_ble_eq_true bY
 refine ⟨by simpa [Act.put] using I.size,I.defers,fun t u h=>?_⟩
 have bc:=I.size
 simp only [hf] at h
 cases a8:Nat.beq d t with
 | true=>
   rw [a8] at h
   simp only [Option.some.injEq] at h
   have e:d=t:=Nat.eq_of_beq_eq_true a8
   subst e;subst h
   simp [Act.put,bc,ey]
 | false=>
   rw [a8] at h
   have e:d≠t:=by intro e;subst e;simp at a8
   have:=I.get t u h
   simp only [Act.put,Array.getD_eq_getD_getElem?] at this ⊢
   rw [Array.getElem?_setIfInBounds,if_neg e]
   exact this
def Io (l:List (Nat × Value)):List (Nat × Value)->Prop
 | []=>True
 | p::r=>hf l p.1 =some p.2 /\Io l r
theorem aDo {l l':List (Nat × Value)} (h:Io l l'):∀ t v,hf l' t=some v->hf l t=some v:=by
 induction l' with
 | nil=>intro t v bV;simp [hf] at bV
 | cons p r cA=>
   intro t v bV
   simp only [hf] at bV
   cases a8:Nat.beq p.1 t with
   | true=>
     rw [a8] at bV
     have e:p.1 =t:=Nat.eq_of_beq_eq_true a8
     simp only [Option.some.injEq] at bV
     rw [<-e,<-bV];exact h.1
   | false=>rw [a8] at bV;exact cA h.2 t v bV
theorem Fr.sub {n:h'} {l l':List (Nat × Value)} {a:Act} (I:Fr n l a) (h:Io l l'):Fr n l' a:=
 ⟨I.size,I.defers,fun t v bV=>I.get t v (aDo h t v bV)⟩
def xH:Nat->List Value->List (Nat × Value)
 | _,[]=>[]
 | k,v::r=>(k,v)::xH (k+ 1) r
theorem aDn (vs:List Value):∀ k t v,hf (xH k vs) t=some v->k<=t/\vs[t - k]? =some v:=by
 induction vs with
 | nil=>intro k t v h;simp [xH,hf] at h
 | cons u r cA=>
   intro k t v h
   simp only [xH,hf] at h
   cases a8:Nat.beq k t with
   | true=>
     rw [a8] at h
     have e:k=t:=Nat.eq_of_beq_eq_true a8
     subst e
     simpa using h
   | false=>
     rw [a8] at h
     have e:k≠t:=by intro e;subst e;simp at a8
     obtain ⟨aI,aV⟩:=cA (k+ 1) t v h
     refine ⟨by omega,?_⟩
     have:t - k=(t - (k+ 1))+ 1 :=by omega
     rw [this];simpa using aV
theorem Fr.init (vs:List Value) (n:Nat) (h:Nat.ble vs.length n=true):Fr ⟨n,[]⟩ (xH 0 vs) { tmps:=vs.toArray++Array.replicate (n - vs.toArray.size) undef,defers:=[] }:=by
 have hle:vs.length<=n:=by simpa using h
 refine ⟨by simp;omega,rfl,fun t v bV=>?_⟩
 obtain ⟨_,aV⟩:=aDn vs 0 t v bV
 have ey:t <vs.length:=by
  rcases Nat.lt_or_ge t vs.length with h | h
  · exact h
  · rw [List.getElem?_eq_none (by simpa using h)] at aV;cases aV
 have bX:vs[t]? =some v:=by simpa using aV
 rw [Array.getD_eq_getD_getElem?]
 rw [List.getElem?_eq_getElem ey,Option.some.injEq] at bX
 simp [Array.getElem?_append,ey,bX]
theorem enter {P:Program} {f:FuncId} {fn:Func} {c:Code} {vs:List Value} {w:World} {R:Ending->World->Prop} {n:Nat}
 (I:P.funcs[f]? =some fn) (a8:fn.body=some c) (ai:fn.ntmps=n) (aC:Nat.ble vs.length n=true)
 (h:∀ a,Fr ⟨n,[]⟩ (xH 0 vs) a->c.wp P (bodyPost P fn R) a w):Calls P f vs.toArray w R:=by
 refine calls_of_wp I a8 ?_
 rw [ai]
 exact h _ (Fr.init vs n aC)
structure bg (M:List Nat) (w aJ:World):Prop where
 os:aJ.os=w.os
 tape:aJ.tape=w.tape
 output:aJ.output=w.output
 size:w.heap.size<=aJ.heap.size
 block:∀ k,k <w.heap.size->k ∉ M->aJ.heap[k]? =w.heap[k]?
theorem bg.refl (M:List Nat) (w:World):bg M w w:=⟨rfl,rfl,rfl,Nat.le_refl _,fun _ _ _=>rfl⟩
theorem bg.trans {M jR:List Nat} {a b c:World} (h:bg M a b) (k:bg jR b c) (hm:∀ x ∈ jR,x ∈ M\/a.heap.size<=x):bg M a c:=
 ⟨k.os.trans h.os,k.tape.trans h.tape,k.output.trans h.output,Nat.le_trans h.size k.size,fun i hi ai=>
   (k.block i (Nat.lt_of_lt_of_le hi h.size) (fun al=>by rcases hm i al with e | e;exact ai e;omega)).trans (h.block i hi ai)⟩
theorem bg.drew (M:List Nat) (w:World):bg M w w.drew:=⟨rfl,rfl,rfl,Nat.le_refl _,fun _ _ _=>rfl⟩
theorem bg.alloc (M:List Nat) (w:World) (o:Obj):bg M w (w.alloc o):=⟨rfl,rfl,rfl,by simp,fun k bi _=>Below.heap_alloc _ _ _ bi⟩
theorem bg.set (w:World) (a:Addr) (u:Value):bg [a.block] w (w.setCell a u):=
 ⟨rfl,rfl,rfl,by simp [World.setCell],fun k _ ai=>Below.heap_setCell _ _ _ _ (by simpa using ai)⟩
theorem bg.mono {M jR:List Nat} {a b:World} (h:bg M a b) (hm:∀ x ∈ M,x ∈ jR):bg jR a b:=⟨h.os,h.tape,h.output,h.size,fun k bi ai=>h.block k bi (fun al=>ai (hm k al))⟩
theorem bg.grown {w aJ:World} {row:Option Nat} (h:w.grownBy aJ row):bg row.toList w aJ:=
 ⟨h.os,h.tape,h.output,h.size,fun k bi ai=>h.block k bi (fun e=>ai (by rw [<-e];simp))⟩
theorem bg.below {w aJ:World} (h:bg [] w aJ):Below w.heap.size w aJ:=⟨h.os,h.tape,h.output,h.size,fun k bi=>h.block k bi (by simp)⟩
structure au where
 gw:List Nat
 ok:World->Prop
 law:∀ w aJ,(∀ k ∈ gw,aJ.heap[k]? =w.heap[k]?)->ok w->ok aJ
structure ap where
 ok:List Nat->World->Prop
 law:∀ M jR w aJ,bg M w aJ->(∀ k ∈ jR,k ∈ M\/w.heap.size<=k)->ok M w->ok jR aJ
def cY (E:List au):List Nat:=E.flatMap au.gw
structure aw (W:World) (M0 X:List Nat) (w:World) (E:List au) (D:List ap):Prop where
 ev:bg M0 W w
 m':∀ k ∈ X,k <W.heap.size/\k ∉ M0
 lt:∀ k ∈ cY E,k <w.heap.size/\(k ∈ M0\/W.heap.size<=k)
 ok:∀ x ∈ E,x.ok w
 ea:(cY E).Nodup
 rd:∀ y ∈ D,y.ok (X++cY E) w
section
variable {W w aJ:World} {M0 X:List Nat} {E:List au} {D:List ap}
theorem aw.dX (h:aw W M0 X w E D) (ah:bg [] w aJ):aw W M0 X aJ E D:=
 ⟨h.ev.trans ah (by simp),h.m',fun k bi=>⟨Nat.lt_of_lt_of_le (h.lt k bi).1 ah.size,(h.lt k bi).2⟩,
  fun x al=>x.law w aJ (fun k bi=>ah.block k (h.lt k (List.mem_flatMap.2 ⟨x,al,bi⟩)).1 (by simp)) (h.ok x al),h.ea,
  fun y hy=>y.law (X++cY E) _ w aJ (ah.mono (by simp)) (fun k bi=>.inl bi) (h.rd y hy)⟩
theorem aw.drew (h:aw W M0 X w E D):aw W M0 X w.drew E D:=h.dX (bg.drew _ _)
theorem aw.push (h:aw W M0 X w E D) (x:au) (ah:bg [] w aJ) (al:x.ok aJ) (I:∀ k ∈ x.gw,w.heap.size<=k/\k <aJ.heap.size) (ai:x.gw.Nodup):aw W M0 X aJ (x::E) D:=by
 have aI:=h.dX ah
 refine ⟨aI.ev,h.m',fun k bi=>?_,fun y hy=>?_,?_,fun y hy=>?_⟩
 · rcases List.mem_append.1 (by simpa [cY] using bi:k ∈ x.gw++cY E) with e | e
   · exact ⟨(I k e).2,.inr (Nat.le_trans h.ev.size (I k e).1)⟩
   · exact aI.lt k e
 · rcases List.mem_cons.1 hy with rfl | e
   · exact al
   · exact aI.ok y e
 · have:cY (x::E)=x.gw++cY E:=by simp [cY]
   rw [this,List.nodup_append]
   refine ⟨ai,h.ea,fun a bN b a8 e=>?_⟩
   subst e
   have:=(I a bN).1
   have:=(h.lt a a8).1
   omega
 · refine y.law (X++cY E) _ w aJ (ah.mono (by simp)) (fun k bi=>?_) (h.rd y hy)
   have lx:k ∈ X++(x.gw++cY E):=by simpa [cY] using bi
   simp only [List.mem_append] at lx
   rcases lx with e | e | e
   · exact .inl (by simp [e])
   · exact .inr (I k e).1
   · exact .inl (by simp [e])
theorem aw.drop (h:aw W M0 X w E D) {mM:List au} (bc:List.Sublist mM E):aw W M0 X w mM D:=by
 have I:List.Sublist (cY mM) (cY E):=by
  unfold cY
  clear h
  induction bc with
  | slnil=>simp
  | cons a _ cA=>simpa using cA.trans (List.sublist_append_right _ _)
  | cons_cons a _ cA=>simpa using List.Sublist.append_left cA a.gw
 exact ⟨h.ev,h.m',fun k bi=>h.lt k (I.subset bi),fun x al=>h.ok x (bc.subset al),h.ea.sublist I,
  fun y hy=>y.law (X++cY E) _ w w (bg.refl _ _) (fun k bi=>.inl (by rcases List.mem_append.1 bi with e | e;exact List.mem_append.2 (.inl e);exact List.mem_append.2 (.inr (I.subset e)))) (h.rd y hy)⟩
theorem aw.aFo (h:aw W M0 X w E D) {A B:List au} {x qJ:au} (hb:E=A++x::B) (ah:bg x.gw w aJ) (al:qJ.ok aJ) (ai:qJ.gw.Nodup)
 (I:∀ k ∈ qJ.gw,k ∈ x.gw\/(w.heap.size<=k/\k <aJ.heap.size)):aw W M0 X aJ (A++qJ::B) D:=by
 subst hb
 have bS:cY (A++x::B)=cY A++(x.gw++cY B):=by simp [cY]
 have cf:cY (A++qJ::B)=cY A++(qJ.gw++cY B):=by simp [cY]
 have z7:=h.ea
 rw [bS,List.nodup_append,List.nodup_append] at z7
 obtain ⟨ais,⟨aaS,ait,aaT⟩,Qj⟩:=z7
 have oy:∀ k ∈ x.gw,k <w.heap.size/\(k ∈ M0\/W.heap.size<=k):=fun k bi=>h.lt k (by rw [bS];simp [bi])
 refine ⟨h.ev.trans ah (fun k bi=>(oy k bi).2),h.m',fun k bi=>?_,fun y hy=>?_,?_,fun y hy=>?_⟩
 · rw [cf] at bi
   simp only [List.mem_append] at bi
   rcases bi with bi | bi | bi
   · have:=h.lt k (by rw [bS];simp [bi]);exact ⟨Nat.lt_of_lt_of_le this.1 ah.size,this.2⟩
   · rcases I k bi with e | e
     · exact ⟨Nat.lt_of_lt_of_le (oy k e).1 ah.size,(oy k e).2⟩
     · exact ⟨e.2,.inr (Nat.le_trans h.ev.size e.1)⟩
   · have:=h.lt k (by rw [bS];simp [bi]);exact ⟨Nat.lt_of_lt_of_le this.1 ah.size,this.2⟩
 · have adx:∀ z,z ∈ A\/z ∈ B->z.ok aJ:=fun z c8=>by
    have acL:z ∈ A++x::B:=by rcases c8 with e | e <;> simp [e]
    refine z.law w aJ (fun k bi=>ah.block k (h.lt k (List.mem_flatMap.2 ⟨z,acL,bi⟩)).1 (fun Lg=>?_)) (h.ok z acL)
    rcases c8 with e | e
    · exact Qj k (List.mem_flatMap.2 ⟨z,e,bi⟩) k (by simp [Lg]) rfl
    · exact aaT k Lg k (List.mem_flatMap.2 ⟨z,e,bi⟩) rfl
   simp only [List.mem_append,List.mem_cons] at hy
   rcases hy with hy | rfl | hy
   · exact adx y (.inl hy)
   · exact al
   · exact adx y (.inr hy)
 · rw [cf,List.nodup_append,List.nodup_append]
   have fo:∀ k ∈ qJ.gw,∀ b,(b ∈ cY A\/b ∈ cY B)->k≠b:=fun k bi b a8 e=>by
    subst e
    rcases I k bi with e | e
    · rcases a8 with a8 | a8
      · exact Qj k a8 k (by simp [e]) rfl
      · exact aaT k e k a8 rfl
    · have:=(h.lt k (by rw [bS];rcases a8 with a8 | a8 <;> simp [a8])).1
      omega
   exact ⟨ais,⟨ai,ait,fun a bN b a8=>fo a bN b (.inr a8)⟩,fun a bN b a8=>by
    rcases List.mem_append.1 a8 with a8 | a8
    · exact fun e=>fo b a8 a (.inl bN) e.symm
    · exact Qj a bN b (by simp [a8])⟩
 · refine y.law (X++cY (A++x::B)) _ w aJ (ah.mono (fun k bi=>by rw [bS];simp [bi])) (fun k bi=>?_) (h.rd y hy)
   rw [cf] at bi
   simp only [List.mem_append] at bi
   rcases bi with bi | bi | bi | bi
   · exact .inl (by simp [bi])
   · exact .inl (by rw [bS];simp [bi])
   · rcases I k bi with e | e
     · exact .inl (by rw [bS];simp [e])
     · exact .inr e.1
   · exact .inl (by rw [bS];simp [bi])
theorem aw.more (h:aw W M0 X w E D) {y:ap} (hy:y.ok (X++cY E) w):aw W M0 X w E (y::D):=
 ⟨h.ev,h.m',h.lt,h.ok,h.ea,fun z c8=>by rcases List.mem_cons.1 c8 with rfl | e;exact hy;exact h.rd z e⟩
theorem aw.less (h:aw W M0 X w E D) {h9:List ap} (bc:∀ y ∈ h9,y ∈ D):aw W M0 X w E h9:=⟨h.ev,h.m',h.lt,h.ok,h.ea,fun y hy=>h.rd y (bc y hy)⟩
theorem aw.e (h:aw W M0 X w E D) (i:Nat) {x:au} (hi:E[i]? =some x):x.ok w:=h.ok x (List.mem_of_getElem? hi)
theorem aw.d (h:aw W M0 X w E D) (i:Nat) {y:ap} (hi:D[i]? =some y):y.ok (X++cY E) w:=h.rd y (List.mem_of_getElem? hi)
theorem ap.less {y:ap} {M jR:List Nat} (h:y.ok M w) (hm:∀ k ∈ jR,k ∈ M):y.ok jR w:=y.law M jR w w (bg.refl _ _) (fun k bi=>.inl (hm k bi)) h
theorem aw.vM (h:aw W M0 X w E D) (i:Nat) {x qJ:au} (hi:E[i]? =some x) (ah:bg x.gw w aJ) (al:qJ.ok aJ) (ai:qJ.gw.Nodup)
 (I:∀ k ∈ qJ.gw,k ∈ x.gw\/(w.heap.size<=k/\k <aJ.heap.size)):aw W M0 X aJ (E.set i qJ) D:=by
 obtain ⟨aC,rfl⟩:=List.getElem?_eq_some_iff.1 hi
 have hb:E=E.take i++E[i]::E.drop (i+ 1):=by simp
 have:=h.aFo hb ah al ai I
 rwa [List.set_eq_take_append_cons_drop,if_pos aC]
end
end a5
namespace a5
open Go Go.RowKit J
abbrev ak (l:List UInt8):Value:=.string ⟨⟨l⟩⟩
structure fJ (α:Type) where
 size:Nat
 rd:(Nat->Prop)->World->List Value->α->Prop
 len:∀ {F w cs d},rd F w cs d->cs.length=size
 one:∀ {F w cs d},rd F w cs d-> ∀ v ∈ cs,v.oneCell'=true
 law:∀ {F zh w aJ cs d},(∀ k,F k->zh k/\aJ.heap[k]? =w.heap[k]?)->rd F w cs d->rd zh aJ cs d
def jx (M:List Nat) (w:World):Nat->Prop:=fun k=>k ∉ M/\k <w.heap.size
def ap.of {α:Type} (T:fJ α) (cs:List Value) (d:α):ap where
 ok M w:=T.rd (jx M w) w cs d
 law M jR w aJ ah hm h:=T.law (fun k bi=>⟨⟨fun al=>by rcases hm k al with e | e;exact bi.1 e;exact absurd bi.2 (by omega),Nat.lt_of_lt_of_le bi.2 ah.size⟩,ah.block k bi.2 bi.1⟩) h
def aq (k:IntKind):fJ Int where
 size:=1
 rd _ _ cs d:=cs= [.int k d]
 len h:=by subst h;rfl
 one h v ah:=by subst h;simp at ah;subst ah;rfl
 law _ h:=h
def MN:fJ UInt8 where
 size:=1
 rd _ _ cs d:=cs= [.int .u8 (d.toNat:Int)]
 len h:=by subst h;rfl
 one h v ah:=by subst h;simp at ah;subst ah;rfl
 law _ h:=h
def aFp:fJ Bool where
 size:=1
 rd _ _ cs d:=cs= [.bool d]
 len h:=by subst h;rfl
 one h v ah:=by subst h;simp at ah;subst ah;rfl
 law _ h:=h
def bE:fJ (List UInt8) where
 size:=1
 rd _ _ cs d:=cs= [ak d]
 len h:=by subst h;rfl
 one h v ah:=by subst h;simp at ah;subst ah;rfl
 law _ h:=h
section
variable {α:Type} (T:fJ α)
def gO (F:Nat->Prop) (w:World):List Value->List α->Prop
 | xs,[]=>xs= []
 | xs,d::r=>∃ cs ys,xs=cs++ys/\T.rd F w cs d/\gO F w ys r
theorem Xg {F:Nat->Prop} {w:World}:∀ {l:List α} {xs:List Value},gO T F w xs l->xs.length=l.length*T.size
 | [],xs,h=>by simp only [gO] at h;subst h;simp
 | d::r,xs,h=>by
   obtain ⟨cs,ys,rfl,aI,aV⟩:=h
   rw [List.length_append,T.len aI,Xg aV,List.length_cons,Nat.add_mul];omega
theorem ad6 {F:Nat->Prop} {w:World}:∀ {l:List α} {xs:List Value},gO T F w xs l-> ∀ v ∈ xs,v.oneCell'=true
 | [],xs,h=>by simp only [gO] at h;subst h;simp
 | d::r,xs,h=>by
   obtain ⟨cs,ys,rfl,aI,aV⟩:=h
   intro v ah
   rcases List.mem_append.1 ah with e | e
   · exact T.one aI v e
   · exact ad6 aV v e
theorem Xf {F zh:Nat->Prop} {w aJ:World} (b4:∀ k,F k->zh k/\aJ.heap[k]? =w.heap[k]?):∀ {l:List α} {xs:List Value},gO T F w xs l->gO T zh aJ xs l
 | [],xs,h=>h
 | d::r,xs,h=>by
   obtain ⟨cs,ys,rfl,aI,aV⟩:=h
   exact ⟨cs,ys,rfl,T.law b4 aI,Xf b4 aV⟩
theorem ad8 {F:Nat->Prop} {w:World} {d:α} {cs:List Value} (bY:T.rd F w cs d):∀ {l:List α} {xs:List Value},gO T F w xs l->gO T F w (xs++cs) (l++[d])
 | [],xs,h=>by simp only [gO] at h;subst h;exact ⟨cs,[],by simp,bY,rfl⟩
 | e::r,xs,h=>by
   obtain ⟨c,ys,rfl,aI,aV⟩:=h
   exact ⟨c,ys++cs,by simp,aI,ad8 bY aV⟩
theorem ad5 {F:Nat->Prop} {w:World} {l':List α} {gr:List Value} (dU:gO T F w gr l'):∀ {l:List α} {xs:List Value},gO T F w xs l->gO T F w (xs++gr) (l++l')
 | [],xs,h=>by simp only [gO] at h;subst h;simpa using dU
 | e::r,xs,h=>by
   obtain ⟨c,ys,rfl,aI,aV⟩:=h
   exact ⟨c,ys++gr,by simp,aI,ad5 dU aV⟩
theorem Xc {F:Nat->Prop} {w:World}:∀ {l:List α} {xs:List Value} {i:Nat} {d:α},gO T F w xs l->l[i]? =some d ->
 ∃ cs,T.rd F w cs d/\ ∀ j u,cs[j]? =some u->xs[i*T.size+j]? =some u
 | [],_,i,d,_,hi=>by simp at hi
 | e::r,xs,0,d,h,hi=>by
   obtain ⟨cs,ys,rfl,aI,_⟩:=h
   simp only [List.getElem?_cons_zero,Option.some.injEq] at hi
   subst hi
   refine ⟨cs,aI,fun j u bf=>?_⟩
   have aC:j <cs.length:=by
    rcases Nat.lt_or_ge j cs.length with h | h
    · exact h
    · rw [List.getElem?_eq_none h] at bf;cases bf
   simpa [List.getElem?_append,aC] using bf
 | e::r,xs,i+ 1,d,h,hi=>by
   obtain ⟨cs,ys,rfl,aI,aV⟩:=h
   obtain ⟨c,hc,bf⟩:=Xc (i:=i) aV (by simpa using hi)
   refine ⟨c,hc,fun j u Tx=>?_⟩
   have hlen:=T.len aI
   have bS:(i+ 1)*T.size+j=cs.length+(i*T.size+j):=by rw [Nat.add_mul];omega
   rw [bS,List.getElem?_append_right (by omega)]
   simpa using bf j u Tx
def j8 (w:World) (a:Addr) (xs:List Value):Prop:=∀ j u,xs[j]? =some u->w.cell? ⟨a.block,a.off+j,none⟩=some u
theorem j8.law {w aJ:World} {a:Addr} {xs:List Value} (h:j8 w a xs) (a8:aJ.heap[a.block]? =w.heap[a.block]?):j8 aJ a xs:=
 fun j u bf=>(World.cell?_of_block (a:=⟨a.block,a.off+j,none⟩) a8).trans (h j u bf)
def bM (A:Option Addr):Nat:=(A.getD ⟨0,0,none⟩).block
def bP (A:Option Addr):Nat:=(A.getD ⟨0,0,none⟩).off
def aN:fJ (List α) where
 size:=1
 rd F w cs l:=∃ A c,cs= [.slice A l.length c]/\l.length<=c/\c<=maxLen/\(A=none->c= 0) /\
  (l≠ []->A=some ⟨bM A,bP A,none⟩/\F (bM A)/\ ∃ xs,gO T F w xs l/\j8 w ⟨bM A,bP A,none⟩ xs)
 len h:=by obtain ⟨A,c,rfl,_⟩:=h;rfl
 one h v ah:=by obtain ⟨A,c,rfl,_⟩:=h;simp at ah;subst ah;rfl
 law b4 h:=by
  obtain ⟨A,c,aI,bX,eP,mY,ul⟩:=h
  refine ⟨A,c,aI,bX,eP,mY,fun aC=>?_⟩
  obtain ⟨bS,cf,xs,eI,iy⟩:=ul aC
  exact ⟨bS,(b4 _ cf).1,xs,Xf T b4 eI,iy.law (b4 _ cf).2⟩
theorem b3 {F:Nat->Prop} {w:World} {A:Option Addr} {n c:Nat} {l:List α} {i:Int} {d:α} (h:(aN T).rd F w [.slice A n c] l) (hi:idx l i=some d) :
 A=some ⟨bM A,bP A,none⟩/\(0 <=i/\i <n)/\ ∃ cs,T.rd F w cs d/\j8 w ⟨bM A,bP A+i.toNat*T.size,none⟩ cs:=by
 obtain ⟨bH,aI,aV⟩:=uR hi
 obtain ⟨kE,dZ,bS,eI,iy,lm,zG⟩:=h
 simp only [List.cons.injEq,Value.slice.injEq,and_true] at bS
 obtain ⟨rfl,rfl,rfl⟩:=bS
 obtain ⟨ln,mb,xs,zJ,zK⟩:=zG (fun axI=>by rw [axI] at aI;simp at aI)
 obtain ⟨cs,hc,xW⟩:=Xc T zJ aV
 refine ⟨ln,⟨bH,by omega⟩,cs,hc,fun j u bf=>?_⟩
 have:=zK (i.toNat*T.size+j) u (xW j u bf)
 simpa [Nat.add_assoc] using this
end
def au.bs (g:Nat) (t:TypeId) (cs:List Value):au where
 gw:=[g]
 ok w:=w.heap[g]? =some (.cells cs.toArray t (0,0))
 law w aJ h bi:=(h g (by simp)).trans bi
def au.row {α:Type} (e:TypeId) (size:Nat) (v:Value) (l:List α) (xs:List Value):au where
 gw:=v.ownBlock.toList
 ok w:=w.ownsRow 0 e size v l.length xs
 law w aJ h bi:=by
  refine ⟨bi.1,?_⟩
  rcases bi.2 with ai | ⟨g,cap,cur,rfl,a8,RL,rest⟩
  · exact .inl ai
  · exact .inr ⟨g,cap,cur,rfl,a8,(h g (by simp [Value.ownBlock])).trans RL,rest⟩
def ap.rows {α:Type} (T:fJ α) (xs:List Value) (l:List α):ap where
 ok M w:=gO T (jx M w) w xs l
 law M jR w aJ ah hm h:=Xf T (fun k bi=>⟨⟨fun al=>by rcases hm k al with e | e;exact bi.1 e;exact absurd bi.2 (by omega),Nat.lt_of_lt_of_le bi.2 ah.size⟩,ah.block k bi.2 bi.1⟩) h
theorem Xo {α:Type} {w:World} {e:TypeId} {size:Nat} {v:Value} {l:List α} {xs:List Value} (h:(au.row e size v l xs).ok w):∃ A c,v= .slice A l.length c/\l.length<=c/\c<=maxLen/\(A=none->c= 0)/\(A≠none->A=some ⟨bM A,0,none⟩):=by
 have dU:w.ownsRow 0 e size v l.length xs:=h
 rcases dU.2 with ⟨rfl,bH⟩ | ⟨g,cap,cur,rfl,_,_,aI,aV,_⟩
 · exact ⟨none,0,by rw [bH],by omega,Nat.zero_le _,fun _=>rfl,fun h=>absurd rfl h⟩
 · exact ⟨some ⟨g,0,none⟩,cap,rfl,aI,aV,(fun h=>by cases h),fun _=>rfl⟩
theorem aEH {α:Type} {T:fJ α} {M:List Nat} {w:World} {e:TypeId} {A:Option Addr} {n c:Nat} {l:List α} {xs:List Value} (h:(au.row e T.size (.slice A n c) l xs).ok w) (b5:(ap.rows T xs l).ok M w)
 (hs:∀ k ∈ (Value.slice A n c).ownBlock.toList,k ∉ M):(ap.of (aN T) [.slice A n c] l).ok M w:=by
 have dU:w.ownsRow 0 e T.size (.slice A n c) l.length xs:=h
 have G':gO T (jx M w) w xs l:=b5
 show (aN T).rd (jx M w) w _ l
 rcases dU.2 with ⟨aI,bH⟩ | ⟨g,cap,cur,aI,_,dt,hle,hm,bc,al⟩
 · have aC:l= []:=List.eq_nil_of_length_eq_zero bH
   simp only [Value.slice.injEq] at aI
   obtain ⟨rfl,rfl,rfl⟩:=aI
   subst aC
   exact ⟨none,0,rfl,by simp,Nat.zero_le _,fun _=>rfl,fun h=>absurd rfl h⟩
 · simp only [Value.slice.injEq] at aI
   obtain ⟨rfl,rfl,rfl⟩:=aI
   refine ⟨_,_,rfl,hle,hm,(fun h=>by cases h),fun _=>⟨rfl,⟨hs g (by simp [Value.ownBlock]),(Array.getElem?_eq_some_iff.1 dt).1⟩,xs,G',fun j u bf=>?_⟩⟩
   have px:=dU.cells (g:=g) rfl j u bf
   simpa [Addr.add,bM,bP] using (by
    have e:(⟨g,0,none⟩:Addr).add j=⟨g,0 +j,none⟩:=by unfold Addr.add;split <;> simp_all
    rw [e] at px;exact px:w.cell? ⟨g,0 +j,none⟩=some u)
theorem BT {w:World} {g:Nat} {t:TypeId} {cs:List Value} (h:(au.bs g t cs).ok w) {j:Nat} {v:Value} (bf:cs[j]? =some v):w.cell? ⟨g,j,none⟩=some v:=by
 have dU:w.heap[g]? =some (.cells cs.toArray t (0,0)):=h
 simp [World.cell?,dU,bf]
theorem Zg {w:World} {g:Nat} {t:TypeId} {cs:List Value} (h:(au.bs g t cs).ok w) (j:Nat):w.frozen? ⟨g,j,none⟩=false:=by
 have dU:w.heap[g]? =some (.cells cs.toArray t (0,0)):=h
 simp [World.frozen?,dU]
theorem zr {w:World} {g:Nat} {t:TypeId} {cs:List Value} (h:(au.bs g t cs).ok w):g <w.heap.size:=by
 have dU:w.heap[g]? =some (.cells cs.toArray t (0,0)):=h
 exact (Array.getElem?_eq_some_iff.1 dU).1
theorem agf (w:World) (t:TypeId) (cs:List Value):(au.bs w.heap.size t cs).ok (w.alloc (.cells cs.toArray t)):=heap_alloc_new w _
def ap.c3 (g:Nat) (cs:List Value):ap where
 ok M w:=g ∉ M/\g <w.heap.size/\j8 w ⟨g,0,none⟩ cs
 law M jR w aJ ah hm h:=⟨fun al=>by rcases hm g al with e | e;exact h.1 e;exact absurd h.2.1 (by omega),Nat.lt_of_lt_of_le h.2.1 ah.size,h.2.2.law (ah.block g h.2.1 h.1)⟩
theorem nn {α:Type} (T:fJ α) (M:List Nat) (w:World):(ap.of (aN T) [.slice none 0 0] ([]:List α)).ok M w:=
 ⟨none,0,rfl,by simp,Nat.zero_le _,fun _=>rfl,fun h=>absurd rfl h⟩
def Xw (cs:List Value):Nat->List Value->Prop
 | _,[]=>True
 | k,v::r=>cs[k]? =some v/\Xw cs (k+ 1) r
theorem aep {cs:List Value}:∀ {k:Nat} {l:List Value},Xw cs k l-> ∀ j u,l[j]? =some u->cs[k+j]? =some u
 | _,[],_,j,u,bf=>by simp at bf
 | k,v::r,h,0,u,bf=>by
   simp only [List.getElem?_cons_zero,Option.some.injEq] at bf
   subst bf;exact h.1
 | k,v::r,h,j+ 1,u,bf=>by
   have:=aep h.2 j u (by simpa using bf)
   rwa [Nat.add_assoc,Nat.add_comm 1 j] at this
theorem iX {w:World} {g:Nat} {t:TypeId} {cs l:List Value} (h:(au.bs g t cs).ok w) (k:Nat) (bc:Xw cs k l):j8 w ⟨g,k,none⟩ l:=fun j u bf=>BT h (aep bc j u bf)
theorem gS {α:Type} {T:fJ α} {F:Nat->Prop} {w:World} {cs:List Value} {l:List α} (h:(aN T).rd F w cs l):∃ A c,cs= [.slice A l.length c]:=by
 obtain ⟨A,c,aI,_⟩:=h
 exact ⟨A,c,aI⟩
theorem hJ {α:Type} {T:fJ α} {M:List Nat} {w:World} {e:TypeId} {A:Option Addr} {n c:Nat} {l:List α} {xs:List Value} {i:Int} {d:α} (h:(au.row e T.size (.slice A n c) l xs).ok w) (b5:(ap.rows T xs l).ok M w) (hi:idx l i=some d) :
 A=some ⟨bM A,bP A,none⟩/\(0 <=i/\i <n)/\ ∃ cs,T.rd (jx M w) w cs d/\j8 w ⟨bM A,bP A+i.toNat*T.size,none⟩ cs:=by
 obtain ⟨bH,aI,aV⟩:=uR hi
 have dU:w.ownsRow 0 e T.size (.slice A n c) l.length xs:=h
 have G':gO T (jx M w) w xs l:=b5
 rcases dU.2 with ⟨bS,jU⟩ | ⟨g,cap,cur,bS,_,dt,_⟩
 · omega
 · simp only [Value.slice.injEq] at bS
   obtain ⟨rfl,rfl,rfl⟩:=bS
   obtain ⟨cs,hc,xW⟩:=Xc T G' aV
   refine ⟨rfl,⟨bH,by omega⟩,cs,hc,fun j u bf=>?_⟩
   have px:=dU.cells (g:=g) rfl _ u (xW j u bf)
   have cf:(⟨g,0,none⟩:Addr).add (i.toNat*T.size+j)=⟨g,0 +(i.toNat*T.size+j),none⟩:=by unfold Addr.add;split <;> simp_all
   rw [cf] at px
   show w.cell? ⟨g,0 +i.toNat*T.size+j,none⟩=some u
   rw [Nat.add_assoc];exact px
end a5
namespace a5
open Go Go.RowKit J
theorem adB (p q:List UInt8):(p == q)=decide (p=q):=by
 rw [Bool.eq_iff_iff];simp
section
variable {P:Program} {o:Oper} {a:Act} {w:World}
abbrev cv (P:Program) (o:Oper) (a:Act) (w:World) (v:Value) (aJ:World):Prop:=(execOp a.eval o).run P w= .ok (.value v) aJ
abbrev xf (P:Program) (o:Oper) (a:Act) (w:World) (aJ:World):Prop:=(execOp a.eval o).run P w= .ok .skip aJ
theorem aGR {x:Operand} {v:Value} (bu:o.op= .move x) (al:a.eval x=v):cv P o a w v w:=by
 simp only [cv,execOp,bu,al];rfl
theorem aGt {x:Operand} {v:Value} (bu:o.op= .assign x) (al:a.eval x=v):cv P o a w v w:=by
 simp only [cv,execOp,bu,al];rfl
theorem afz {c x y:Operand} {v:Value} (bu:o.op= .pick c x y) (hc:a.eval c= .bool true) (al:a.eval x=v):cv P o a w v w:=by
 simp only [cv,execOp,bu,hc,al];rfl
theorem afy {c x y:Operand} {v:Value} (bu:o.op= .pick c x y) (hc:a.eval c= .bool false) (hy:a.eval y=v):cv P o a w v w:=by
 simp only [cv,execOp,bu,hc,hy];rfl
section
variable {x y:Operand} {t eF:TypeId} {k:IntKind} {m n:Int}
theorem aGp (bu:o.op= .binOp .add t x y eF) (al:a.eval x= .int k m) (hy:a.eval y= .int k n):cv P o a w (.int k (k.wrap (m+n))) w:=by
 simp only [cv,execOp,bu,al,hy]
 simp [go_sem]
theorem aG4 (bu:o.op= .binOp .sub t x y eF) (al:a.eval x= .int k m) (hy:a.eval y= .int k n):cv P o a w (.int k (k.wrap (m - n))) w:=by
 simp only [cv,execOp,bu,al,hy]
 simp [go_sem]
theorem aGS (bu:o.op= .binOp .mul t x y eF) (al:a.eval x= .int k m) (hy:a.eval y= .int k n):cv P o a w (.int k (k.wrap (m*n))) w:=by
 simp only [cv,execOp,bu,al,hy]
 simp [go_sem]
theorem aG0 (bu:o.op= .binOp .quo t x y eF) (al:a.eval x= .int k m) (hy:a.eval y= .int k n) (bH:n≠ 0):cv P o a w (.int k (k.wrap (m.tdiv n))) w:=by
 simp only [cv,execOp,bu,al,hy]
 simp [go_sem,bH]
theorem aGO (bu:o.op= .binOp .lss t x y eF) (al:a.eval x= .int k m) (hy:a.eval y= .int k n):cv P o a w (.bool (decide (m <n))) w:=by
 simp only [cv,execOp,bu,al,hy]
 simp [go_sem]
theorem aGL (bu:o.op= .binOp .leq t x y eF) (al:a.eval x= .int k m) (hy:a.eval y= .int k n):cv P o a w (.bool (decide (m<=n))) w:=by
 simp only [cv,execOp,bu,al,hy]
 simp [go_sem]
theorem aGG (bu:o.op= .binOp .gtr t x y eF) (al:a.eval x= .int k m) (hy:a.eval y= .int k n):cv P o a w (.bool (decide (n <m))) w:=by
 simp only [cv,execOp,bu,al,hy]
 simp [go_sem]
theorem aGF (bu:o.op= .binOp .geq t x y eF) (al:a.eval x= .int k m) (hy:a.eval y= .int k n):cv P o a w (.bool (decide (n<=m))) w:=by
 simp only [cv,execOp,bu,al,hy]
 simp [go_sem]
theorem aGB (bV:P.underlying t=some (.int k)) (bu:o.op= .binOp .eql t x y eF) (al:a.eval x= .int k m) (hy:a.eval y= .int k n):cv P o a w (.bool (decide (m=n))) w:=by
 have:=run_underlying (P:=P) bV
 simp only [cv,execOp,bu,al,hy]
 simp [go_sem,this]
 rfl
theorem aGV (bV:P.underlying t=some (.int k)) (bu:o.op= .binOp .neq t x y eF) (al:a.eval x= .int k m) (hy:a.eval y= .int k n):cv P o a w (.bool (!decide (m=n))) w:=by
 have:=run_underlying (P:=P) bV
 simp only [cv,execOp,bu,al,hy]
 simp [go_sem,this]
 rfl
end
section
variable {x y:Operand} {t eF:TypeId} {p q:Bool}
theorem aER (bV:P.underlying t=some .bool) (p q:Bool) (w:World):(binOp .eql t (.bool p) (.bool q)).run P w= .ok (.bool (p == q)) w:=by
 have h:∀ d:Nat,(Op.equalIn (d+ 1) t (.bool p) (.bool q)).run P w= .ok (p == q) w:=fun d=>by
  simp [Op.equalIn,run_underlying bV]
 simp only [binOp]
 simp [Op.equal,Op.maxDepth,h 9999]
theorem aES (bV:P.underlying t=some .bool) (p q:Bool) (w:World):(binOp .neq t (.bool p) (.bool q)).run P w= .ok (.bool (!(p == q))) w:=by
 have h:∀ d:Nat,(Op.equalIn (d+ 1) t (.bool p) (.bool q)).run P w= .ok (p == q) w:=fun d=>by
  simp [Op.equalIn,run_underlying bV]
 simp only [binOp]
 simp [Op.equal,Op.maxDepth,h 9999]
theorem aGz (bV:P.underlying t=some .bool) (bu:o.op= .binOp .eql t x y eF) (al:a.eval x= .bool p) (hy:a.eval y= .bool q):cv P o a w (.bool (p == q)) w:=by
 simp only [cv,execOp,bu,al,hy]
 simp [go_sem,aER bV]
theorem aGU (bV:P.underlying t=some .bool) (bu:o.op= .binOp .neq t x y eF) (al:a.eval x= .bool p) (hy:a.eval y= .bool q):cv P o a w (.bool (!(p == q))) w:=by
 simp only [cv,execOp,bu,al,hy]
 simp [go_sem,aES bV]
theorem aGY (bu:o.op= .unOp .not t x) (al:a.eval x= .bool p):cv P o a w (.bool (!p)) w:=by
 simp only [cv,execOp,bu,al]
 simp [go_sem]
end
section
variable {x y:Operand} {t eF:TypeId} {p q:List UInt8}
theorem aGC (bV:P.underlying t=some .string) (bu:o.op= .binOp .eql t x y eF) (al:a.eval x=ak p) (hy:a.eval y=ak q):cv P o a w (.bool (decide (p=q))) w:=by
 have:=run_underlying (P:=P) bV
 simp only [cv,execOp,bu,al,hy]
 simp [go_sem,this]
 exact adB p q
theorem aGW (bV:P.underlying t=some .string) (bu:o.op= .binOp .neq t x y eF) (al:a.eval x=ak p) (hy:a.eval y=ak q):cv P o a w (.bool (!decide (p=q))) w:=by
 have:=run_underlying (P:=P) bV
 simp only [cv,execOp,bu,al,hy]
 simp [go_sem,this]
 exact adB p q
theorem aGK {l8:TypeId} (bV:P.underlying l8=some .string) (bu:o.op= .call { callee:=.builtin .len,args:=#[x],argTypes:=#[l8] }) (al:a.eval x=ak p):cv P o a w (.int .i64 p.length) w:=by
 simp only [cv,execOp,bu,resolve,invoke,List.map_toArray,List.map_cons,List.map_nil,al]
 simp [go_sem,Builtin.len_,run_underlying bV,goInt]
theorem aGJ {l8:TypeId} {A:Option Addr} {n c:Nat} {e:TypeId} (bV:P.underlying l8=some (.slice e)) (bu:o.op= .call { callee:=.builtin .len,args:=#[x],argTypes:=#[l8] }) (al:a.eval x= .slice A n c):cv P o a w (.int .i64 n) w:=by
 simp only [cv,execOp,bu,resolve,invoke,List.map_toArray,List.map_cons,List.map_nil,al]
 simp [go_sem,Builtin.len_,run_underlying bV,goInt]
theorem aGH {i:Nat} {b:UInt8} (bV:P.underlying t=some .string) (bu:o.op= .index t x y) (al:a.eval x=ak p) (hy:a.eval y= .int .i64 i) (a8:p[i]? =some b):cv P o a w (.int .u8 b.toNat) w:=by
 simp only [cv,execOp,bu,al,hy]
 obtain ⟨aI,aV⟩:=List.getElem?_eq_some_iff.1 a8
 have e:(⟨⟨p⟩⟩:ByteArray)[i]? =some b:=by
  show (if h:i <_ then some _ else none)=_
  rw [dif_pos (show i <(⟨⟨p⟩⟩:ByteArray).size from aI)]
  exact congrArg some aV
 simp [go_sem,Instr.index,run_underlying bV,e]
theorem OA {k k':IntKind} {n:Int} (bV:P.underlying t=some (.int k)) (pE:P.underlying eF=some (.int k')) (bu:o.op= .convert t eF x) (al:a.eval x= .int k n):cv P o a w (.int k' (k'.wrap n)) w:=by
 simp only [cv,execOp,bu,al]
 simp [go_sem,convert,run_underlying bV,run_underlying pE]
end
end
theorem yX (n:Int):IntKind.i64.wrap n=av n:=by rw [IntKind.wrap_i64];rfl
theorem aFt (n:Int):IntKind.u8.wrap n=((EE n).toNat:Int):=by rw [agd,IntKind.wrap_u8]
section
variable {P:Program} {o:Oper} {a:Act} {w:World} {x y:Operand} {t eF:TypeId} {m n:Int}
theorem aGq (bu:o.op= .binOp .add t x y eF) (al:a.eval x= .int .i64 m) (hy:a.eval y= .int .i64 n):cv P o a w (.int .i64 (av (m+n))) w:=by rw [<-yX];exact aGp bu al hy
theorem aG5 (bu:o.op= .binOp .sub t x y eF) (al:a.eval x= .int .i64 m) (hy:a.eval y= .int .i64 n):cv P o a w (.int .i64 (av (m - n))) w:=by rw [<-yX];exact aG4 bu al hy
theorem aGT (bu:o.op= .binOp .mul t x y eF) (al:a.eval x= .int .i64 m) (hy:a.eval y= .int .i64 n):cv P o a w (.int .i64 (av (m*n))) w:=by rw [<-yX];exact aGS bu al hy
theorem aG2 (bu:o.op= .binOp .rem t x y eF) (al:a.eval x= .int .i64 m) (hy:a.eval y= .int .i64 n) (bH:(!decide (n= 0))=true):cv P o a w (.int .i64 (m.tmod n)) w:=by
 have bH:n≠ 0 :=by simpa using bH
 simp only [cv,execOp,bu,al,hy]
 simp [go_sem,bH]
theorem aG1 (bu:o.op= .binOp .quo t x y eF) (al:a.eval x= .int .i64 m) (hy:a.eval y= .int .i64 n) (bH:(!decide (n= 0))=true):cv P o a w (.int .i64 (av (m.tdiv n))) w:=by rw [<-yX];exact aG0 bu al hy (by simpa using bH)
theorem aGv (bV:P.underlying t=some (.int .i64)) (pE:P.underlying eF=some (.int .i64)) (bu:o.op= .convert t eF x) (al:a.eval x= .int .i64 m):cv P o a w (.int .i64 (av m)) w:=by
 have h:=OA (P:=P) (w:=w) bV pE bu al
 rwa [yX] at h
theorem aGx (bV:P.underlying t=some (.int .i64)) (pE:P.underlying eF=some (.int .u8)) (bu:o.op= .convert t eF x) (al:a.eval x= .int .i64 m):cv P o a w (.int .u8 ((EE m).toNat:Int)) w:=by
 have h:=OA (P:=P) (w:=w) bV pE bu al
 rwa [aFt] at h
theorem c' (a:Act) (v:Value):a.eval (.const v)=v:=rfl
theorem aaW (a:Act) (g:Nat):a.eval (.global g)= .pointer (some ⟨g,0,none⟩):=rfl
theorem aGD {vs:List Value} {i:Nat} {v:Value} (bu:o.op= .extract x i) (al:a.eval x= .tuple vs.toArray) (ah:vs[i]? =some v):cv P o a w v w:=by
 simp only [cv,execOp,bu,al]
 simp [go_sem,Instr.extract,ah]
theorem aGX {p:Addr} (bu:o.op= .nilCheck x) (al:a.eval x= .pointer (some p)):cv P o a w (.pointer (some p)) w:=by
 simp only [cv,execOp,bu,al]
 rfl
end
end a5
namespace a5
open Go Go.RowKit J
theorem q4 (b o n:Nat):(⟨b,o,none⟩:Addr).add n=⟨b,o+n,none⟩:=by
 unfold Addr.add;split <;> simp_all
section
variable {P:Program} {o:Oper} {a:Act} {w:World} {x y:Operand} {t e s:TypeId}
theorem aGI {i:Int} {b:UInt8} {p:List UInt8} (bV:P.underlying t=some .string) (bu:o.op= .index t x y) (al:a.eval x=ak p) (hy:a.eval y= .int .i64 i) (a8:idx p i=some b):cv P o a w (.int .u8 b.toNat) w:=by
 obtain ⟨bH,aI,aV⟩:=uR a8
 obtain ⟨n,rfl⟩:=Int.eq_ofNat_of_zero_le bH
 exact aGH bV bu al hy (by simpa using aV)
theorem bL {A:Option Addr} {n c sz:Nat} {i:Int} (bV:P.underlying t=some (.slice e)) (bc:∀ w,(Go.sizeOf e).run P w= .ok sz w)
 (bu:o.op= .indexAddr t x y) (al:a.eval x= .slice A n c) (hy:a.eval y= .int .i64 i) (hD:A=some ⟨bM A,bP A,none⟩) (hi:0 <=i/\i <n) :
 cv P o a w (.pointer (some ⟨bM A,bP A+i.toNat*sz,none⟩)) w:=by
 obtain ⟨bH,aI⟩:=hi
 obtain ⟨k,rfl⟩:=Int.eq_ofNat_of_zero_le bH
 have ey:k <n:=by omega
 rw [hD] at al
 simp only [cv,execOp,bu,al,hy]
 simp [go_sem,Instr.indexAt,run_underlying bV,ey,bc,q4]
theorem aGE {hC:Array Field} {f:Field} {j b p sz:Nat} (bV:P.underlying s=some (.struct hC)) (I:hC[j]? =some f) (bc:∀ w,(Go.sizeOf f.type).run P w= .ok sz w) (bH:Nat.beq sz 0 =false)
 (bu:o.op= .fieldAddr s x j) (al:a.eval x= .pointer (some ⟨b,p,none⟩)):cv P o a w (.pointer (some ⟨b,p+f.offset,none⟩)) w:=by
 have ajh:sz≠ 0 :=by intro e;subst e;simp at bH
 simp only [cv,execOp,bu,al]
 simp [go_sem,Instr.fieldAt,run_underlying bV,I,fieldPlace,bc,ajh,q4]
theorem aGM {b p:Nat} {v:Value} (dt:∀ w,(isAgg t).run P w= .ok false w) (bu:o.op= .load t x) (al:a.eval x= .pointer (some ⟨b,p,none⟩)) (hc:w.cell? ⟨b,p,none⟩=some v):cv P o a w v w:=by
 simp only [cv,execOp,bu,al]
 simp [go_sem,Instr.loadAt,loadVar,dt,hc]
theorem aGN {b p sz:Nat} {cs:List Value} (dt:∀ w,(isAgg t).run P w= .ok true w) (bc:∀ w,(Go.sizeOf t).run P w= .ok sz w) (aC:cs.length=sz) (bu:o.op= .load t x)
 (al:a.eval x= .pointer (some ⟨b,p,none⟩)) (hc:j8 w ⟨b,p,none⟩ cs):cv P o a w (.agg cs.toArray) w:=by
 have h:=run_loadCells_list (P:=P) w ⟨b,p,none⟩ cs (fun j u bf=>by rw [q4];exact hc j u bf)
 rw [aC] at h
 unfold loadCells at h
 simp only [cv,execOp,bu,al]
 simp [go_sem,Instr.loadAt,loadVar,dt,bc,h]
theorem eV {v:Value} {cs:List Value} (ah:v.cells=cs.toArray) (bu:o.op= .box t x) (al:a.eval x=v):cv P o a w (.pointer (some ⟨w.heap.size,0,none⟩)) (w.alloc (.cells cs.toArray t)):=by
 have ru:=ah
 unfold Value.cells at ru
 simp only [cv,execOp,bu,al]
 simp [go_sem,Instr.box,newVar,newRow,ru]
theorem fc {z:Value} {cs:List Value} (c8:∀ w,(zeroValue t).run P w= .ok z w) (ah:z.cells=cs.toArray) (bu:o.op= .alloc t):cv P o a w (.pointer (some ⟨w.heap.size,0,none⟩)) (w.alloc (.cells cs.toArray t)):=by
 have ru:=ah
 unfold Value.cells at ru
 simp only [cv,execOp,bu]
 simp [go_sem,Instr.alloc,newVar,newRow,c8,ru]
end
def lay:List Value->Nat->List Value->List Value
 | l,0,cs=>cs++l.drop cs.length
 | [],_+ 1,_=>[]
 | u::l,n+ 1,cs=>u::lay l n cs
theorem V3:∀ (l:List Value) (n:Nat) (cs:List Value),n+cs.length<=l.length->lay l n cs=l.take n++cs++l.drop (n+cs.length)
 | l,0,cs,_=>by simp [lay]
 | [],n+ 1,cs,h=>by simp at h
 | u::l,n+ 1,cs,h=>by
   have:=V3 l n cs (by simp at h;omega)
   simp only [lay,this,List.take_succ_cons,List.cons_append]
   have e:n+ 1 +cs.length=(n+cs.length)+ 1 :=by omega
   rw [e,List.drop_succ_cons]
section
variable {P:Program} {o:Oper} {a:Act} {w:World} {x y:Operand} {t e s:TypeId}
theorem afA {g p sz:Nat} {pR:TypeId} {cs vs:List Value} {v:Value} (ah:v.cells=vs.toArray) (bc:∀ w,(Go.sizeOf t).run P w= .ok sz w) (aC:Nat.beq vs.length sz=true) (aI:vs.all (·.oneCell')=true)
 (hle:Nat.ble (p+vs.length) cs.length=true) (a8:(au.bs g pR cs).ok w) (bu:o.op= .store t x y) (al:a.eval x= .pointer (some ⟨g,p,none⟩)) (hy:a.eval y=v) :
 ∃ aJ,xf P o a w aJ/\bg [g] w aJ/\(au.bs g pR (lay cs p vs)).ok aJ:=by
 have jZ:w.heap[g]? =some (.cells cs.toArray pR (0,0)):=a8
 have hlen:vs.length=sz:=Nat.eq_of_beq_eq_true aC
 have Li:p+vs.length<=cs.length:=Nat.le_of_ble_eq_true hle
 have h:=run_storeCells_at P g p pR vs 0 cs.toArray w jZ (by simpa using Li) (fun u hu=>List.all_eq_true.1 aI u hu)
 simp only [Nat.add_zero] at h
 refine ⟨w.setRow g (lay cs p vs).toArray,?_,?_,?_⟩
 · simp only [xf,execOp,bu,al,hy]
   rw [V3 _ _ _ Li]
   simp only [List.append_assoc,hlen] at h
   have ru:=ah
   unfold Value.cells at ru
   simp [go_sem,Instr.storeAt,storeVar,bc,ru,hlen,h]
 · refine ⟨rfl,rfl,rfl,by simp [World.setRow],fun k _ ai=>?_⟩
   simp only [World.setRow,Array.getElem?_modify]
   rw [if_neg (by simpa [eq_comm] using ai)]
 · show (w.setRow g _).heap[g]? =_
   simp [World.setRow,Array.getElem?_modify,jZ]
end
section
variable {P:Program} {o:Oper} {a:Act} {w:World} {x y:Operand} {t e:TypeId}
def KK (a:Act):List (Nat × Operand)->List (Nat × Value)->Prop
 | [],[]=>True
 | (i,x)::xs,(j,v)::vs=>(a.eval x=v/\i=j)/\KK a xs vs
 | _,_=>False
theorem Qo:∀ {xs:List (Nat × Operand)} {vs:List (Nat × Value)},KK a xs vs->xs.map (fun p=>(p.1,a.eval p.2))=vs
 | [],[],_=>rfl
 | (i,x)::xs,(j,v)::vs,h=>by
   obtain ⟨⟨aI,rfl⟩,aV⟩:=h
   rw [List.map_cons,Qo aV,aI]
def placesOf (P:Program) (t:TypeId):Sem (Array (Nat × Nat)):=(match P.underlying t with | some (.struct hC)=>hC | _=>#[]).mapM fun (f:Field)=>do pure (f.offset,<-Go.sizeOf f.type)
theorem hA {z:Value} {hC:Array Field} {pl:Array (Nat × Nat)} {xs:List (Nat × Operand)} {vs:List (Nat × Value)} {cs:List Value} (c8:∀ w,(zeroValue t).run P w= .ok z w) (hu:P.underlying t=some (.struct hC))
 (b9:∀ w,(placesOf P t).run P w= .ok pl w) (bu:o.op= .build t xs.toArray) (al:KK a xs vs) (RA:Instr.fill (fun i=>pl[i]?) z.cells vs=some cs.toArray):cv P o a w (.agg cs.toArray) w:=by
 have x7:=b9 w
 simp only [placesOf,hu] at x7
 have aI:=Qo al
 simp only [cv,execOp,bu,Instr.build,Sem.run_bind,c8,Result.andThen_ok,run_underlying hu,x7,List.map_toArray]
 have e:(xs.map fun (i,x)=>(i,a.eval x))=vs:=aI
 simp only [e,RA]
 rfl
theorem gW {z:Value} {sz n:Nat} {xs:List (Nat × Operand)} {vs:List (Nat × Value)} {cs:List Value} (hu:P.underlying t=some (.slice e)) (bc:∀ w,(Go.sizeOf e).run P w= .ok sz w) (c8:∀ w,(zeroValue e).run P w= .ok z w)
 (hle:Nat.ble (n*sz) 16777216 =true) (fo:Nat.beq (n*sz) 0 =false) (bu:o.op= .buildSlice t n xs.toArray) (al:KK a xs vs)
 (RA:Instr.fill (fun i=>some (i*sz,sz)) ((Array.range (n*sz)).map (z.cells[· % z.cells.size]!)) vs=some cs.toArray) :
 cv P o a w (.slice (some ⟨w.heap.size,0,none⟩) n n) (w.alloc (.cells cs.toArray e)):=by
 have aI:=Qo al
 have bS:(xs.map fun (i,x)=>(i,a.eval x))=vs:=aI
 have aV: ¬ (n*sz > 2 ^ 24):=by have:=Nat.le_of_ble_eq_true hle;omega
 have bX:n*sz≠ 0 :=by intro bH;rw [bH] at fo;simp at fo
 simp only [cv,execOp,bu,Instr.buildSlice,Sem.run_bind,Sem.run_pure,bc,c8,Result.andThen_ok,run_underlying hu,List.map_toArray,bS,if_neg aV,if_neg bX,RA]
 rfl
theorem aGZ {eF:TypeId} {m n:Int} (bu:o.op= .binOp .or t x y eF) (al:a.eval x= .int .i64 m) (hy:a.eval y= .int .i64 n):cv P o a w (.int .i64 (Wg m n)) w:=by
 unfold Wg
 rw [<-yX]
 simp only [cv,execOp,bu,al,hy]
 rfl
theorem aGr {eF:TypeId} {m n:Int} (bu:o.op= .binOp .and t x y eF) (al:a.eval x= .int .i64 m) (hy:a.eval y= .int .i64 n):cv P o a w (.int .i64 (Ps m n)) w:=by
 unfold Ps
 rw [<-yX]
 simp only [cv,execOp,bu,al,hy]
 rfl
end
end a5
namespace a5
open Go Go.RowKit J
section
variable {P:Program} {ops:Array Oper} {Q:Exit->Act->World->Prop} {a:Act} {w aJ:World} {rest:List Oper} {o:Oper} {n:h'} {d:Nat} {l:List (Nat × Value)} {v:Value}
theorem Dl (dt:o.guard=none):Region.wanted o (yielded ops a.tmps)=true:=by simp [Region.wanted,dt]
theorem bR (hw:Region.wanted o (yielded ops a.tmps)=true) (hy:cv P o a w v aJ) (I:Fr n l a) (bY:o.dst=some d) (ai:Nat.blt d n=true) (k:∀ b2,Fr n ((d,v)::l) b2->wpList P ops Q rest b2 aJ):wpList P ops Q (o::rest) a w:=by
 refine wpList_step fun K i_=>?_
 rw [if_pos hw]
 unfold Oper.wp
 rw [show (execOp a.eval o).run P w=_ from hy]
 show K (a.put o.dst v) aJ
 rw [bY]
 exact i_ _ _ (k _ (I.put ai))
theorem MI (hw:Region.wanted o (yielded ops a.tmps)=true) (hy:xf P o a w aJ) (bY:o.dst=none) (k:wpList P ops Q rest a aJ):wpList P ops Q (o::rest) a w:=by
 refine wpList_step fun K i_=>?_
 rw [if_pos hw]
 unfold Oper.wp
 rw [show (execOp a.eval o).run P w=_ from hy]
 show K (a.put o.dst undef) aJ
 rw [bY]
 exact i_ _ _ k
theorem db {j ea:Nat} {b:Bool} (I:Fr n l a) (dt:o.guard=some (j,b)) (bf:(ops[j]?).bind (·.dst)=some ea) (aC:hf l ea=some (.bool b)) (ai:Nat.blt ea n=true):Region.wanted o (yielded ops a.tmps)=true:=by
 have ey:ea <n:=Nat.le_of_ble_eq_true ai
 have h:=I.get ea _ aC
 have bc:=I.size
 have aV:a.tmps[ea]? =some (.bool b):=by
  rw [Array.getElem?_eq_getElem (by omega)]
  simpa [Array.getD_eq_getD_getElem?,bc,ey] using h
 simp [Region.wanted,dt,yielded,bf,aV]
theorem aFz {j ea:Nat} {b tM:Bool} (I:Fr n l a) (dt:o.guard=some (j,b)) (bf:(ops[j]?).bind (·.dst)=some ea) (aC:hf l ea=some (.bool tM)) (fo:(tM == b)=false) (ai:Nat.blt ea n=true):Region.wanted o (yielded ops a.tmps)=false:=by
 have ey:ea <n:=Nat.le_of_ble_eq_true ai
 have h:=I.get ea _ aC
 have bc:=I.size
 have aV:a.tmps[ea]? =some (.bool tM):=by
  rw [Array.getElem?_eq_getElem (by omega)]
  simpa [Array.getD_eq_getD_getElem?,bc,ey] using h
 simpa [Region.wanted,dt,yielded,bf,aV] using fo
theorem aFA {j ea:Nat} {b:Bool} (I:Fr n l a) (dt:o.guard=some (j,b)) (bf:(ops[j]?).bind (·.dst)=some ea) (aC:hf l ea=some undef) (ai:Nat.blt ea n=true):Region.wanted o (yielded ops a.tmps)=false:=by
 have ey:ea <n:=Nat.le_of_ble_eq_true ai
 have h:=I.get ea _ aC
 have bc:=I.size
 have aV:a.tmps[ea]? =some undef:=by
  rw [Array.getElem?_eq_getElem (by omega)]
  simpa [Array.getD_eq_getD_getElem?,bc,ey] using h
 simp [Region.wanted,dt,yielded,bf,aV,undef]
def xM (a:Act):List Operand->List Value->Prop
 | [],[]=>True
 | x::xs,v::vs=>a.eval x=v/\xM a xs vs
 | _,_=>False
theorem KL:∀ {xs:List Operand} {vs:List Value},xM a xs vs->xs.map a.eval=vs
 | [],[],_=>rfl
 | x::xs,v::vs,h=>by rw [List.map_cons,h.1,KL h.2]
theorem aFF {f:FuncId} {xs:List Operand} {l8:Array TypeId} {vs:List Value} {R:Ending->World->Prop} {K:Act->World->Prop}
 (bu:o.op= .call { callee:=.value (.func f),args:=xs.toArray,argTypes:=l8 }) (z5:∀ args w,(callFunc f args).run P w= .ok (.enter f args) w)
 (iE:xM a xs vs) (hc:Calls P f vs.toArray w R) (k:∀ e aJ,R e aJ-> ∃ v,e= .returned v/\K (a.put o.dst v) aJ):o.wp P a w K Q:=by
 unfold Oper.wp
 have e:(execOp a.eval o).run P w= .ok (.enter f vs.toArray) w:=by
  have aI:=KL iE
  simp only [execOp,bu,resolve,List.map_toArray,aI]
  simp [go_sem,Act.eval,Deferred.ofValue,invoke,z5]
 rw [e]
 exact hc.mono fun e aJ b5=>by
  obtain ⟨v,rfl,bi⟩:=k e aJ b5
  exact bi
theorem bU {f:FuncId} {xs:List Operand} {l8:Array TypeId} {vs:List Value} {R:Ending->World->Prop} (hw:Region.wanted o (yielded ops a.tmps)=true)
 (bu:o.op= .call { callee:=.value (.func f),args:=xs.toArray,argTypes:=l8 }) (z5:∀ args w,(callFunc f args).run P w= .ok (.enter f args) w)
 (iE:xM a xs vs) (hc:Calls P f vs.toArray w R) (I:Fr n l a) (bY:o.dst=some d) (ai:Nat.blt d n=true)
 (k:∀ e aJ,R e aJ-> ∃ v,e= .returned v/\ ∀ b2,Fr n ((d,v)::l) b2->wpList P ops Q rest b2 aJ):wpList P ops Q (o::rest) a w:=by
 refine wpList_step fun K i_=>?_
 rw [if_pos hw]
 refine aFF bu z5 iE hc fun e aJ b5=>?_
 obtain ⟨v,he,bi⟩:=k e aJ b5
 rw [bY]
 exact ⟨v,he,i_ _ _ (bi _ (I.put ai))⟩
end
section
variable {P:Program} {Q:Exit->Act->World->Prop} {a:Act} {w:World}
theorem cN {c:Code} (o4:Nat->Act->World->Prop) (k:Nat) (h:o4 k a w) (bH:∀ a w,¬ o4 0 a w)
 (round:∀ k a w,o4 (k+ 1) a w-> ∀ K:Act->World->Prop,(∀ a w,o4 k a w->K a w)->c.wp P (Exit.then K Q) a w):(Code.loop c).wp P Q a w:=
 wp_loop_ghost o4 k h fun m a w Cl=>by
  cases m with
  | zero=>exact absurd Cl (bH a w)
  | succ m=>exact round m a w Cl _ fun b2 aJ dU=>⟨m,Nat.lt_succ_self m,dU⟩
theorem B_ {x y:Code} (mN:Act->World->Prop) (al:∀ K:Act->World->Prop,(∀ a w,mN a w->K a w)->x.wp P (Exit.then K Q) a w) (hy:∀ a w,mN a w->y.wp P Q a w):(Code.seq x y).wp P Q a w:=
 wp_seq (al _ hy)
theorem AW {fn:Func} {R:Ending->World->Prop} {n:Nat} {l:List (Nat × Value)} (b5:fn.results= #[]) (I:Fr ⟨n,[]⟩ l a) (h:R (.returned (.tuple #[])) w):bodyPost P fn R .ret a w:=
 ⟨I.defers,_,results_none b5 _ _ _,h⟩
theorem bq {fn:Func} {R:Ending->World->Prop} {n:Nat} {t:Nat} {l:List (Nat × Value)} {v:Value} (b5:fn.results= #[.tmp t]) (I:Fr ⟨n,[]⟩ l a) (aC:hf l t=some v) (h:R (.returned v) w):bodyPost P fn R .ret a w:=
 ⟨I.defers,_,results_tmp b5 _ _ _,by rw [I.get _ _ aC];exact h⟩
theorem hU {fn:Func} {R:Ending->World->Prop} {n:Nat} {t u:Nat} {l:List (Nat × Value)} {v rY:Value} (b5:fn.results= #[.tmp t,.tmp u]) (I:Fr ⟨n,[]⟩ l a) (aC:hf l t=some v) (qd:hf l u=some rY)
 (h:R (.returned (.tuple #[v,rY])) w):bodyPost P fn R .ret a w:=
 ⟨I.defers,_,results_tmp2 b5 _ _ _,by rw [I.get _ _ aC,I.get _ _ qd];exact h⟩
def aec (P:Program) (a:Act) (w:World):ResultVar->Value->Prop
 | .tmp t,v=>a.tmps.getD t undef=v
 | .cell mO ty,v=>∃ b p,a.tmps.getD mO undef= .pointer (some ⟨b,p,none⟩) /\
  ((∃ cs:List Value,(∀ w,(isAgg ty).run P w= .ok true w)/\(∀ w,(Go.sizeOf ty).run P w= .ok cs.length w)/\j8 w ⟨b,p,none⟩ cs/\v= .agg cs.toArray) \/
   ((∀ w,(isAgg ty).run P w= .ok false w)/\w.cell? ⟨b,p,none⟩=some v))
def Xl (P:Program) (a:Act) (w:World):List ResultVar->List Value->Prop
 | [],[]=>True
 | r::vG,v::vs=>aec P a w r v/\Xl P a w vG vs
 | _,_=>False
def pack:List Value->Value
 | [v]=>v
 | vs=>.tuple vs.toArray
def Mv (a:Act):ResultVar->Sem Value
 | .tmp t=>pure (a.tmps.getD t undef)
 | .cell mO t=>do loadVar t (<-asAddr (a.tmps.getD mO undef))
theorem aET {r:ResultVar} {v:Value} (h:aec P a w r v):(Mv a r).run P w= .ok v w:=by
 cases r with
 | tmp t=>exact congrArg (fun x=>Result.ok x w) h
 | cell mO ty=>
   obtain ⟨b,p,aI,aV⟩:=h
   simp only [Mv,aI]
   rcases aV with ⟨cs,dt,bc,hc,rfl⟩ | ⟨dt,hc⟩
   · have aC:=run_loadCells_list (P:=P) w ⟨b,p,none⟩ cs (fun j u bf=>by rw [q4];exact hc j u bf)
     unfold loadCells at aC
     simp [go_sem,loadVar,asAddr,dt,bc,aC]
   · simp [go_sem,loadVar,asAddr,dt,hc]
theorem aef:∀ {vG:List ResultVar} {vs:List Value},Xl P a w vG vs->(vG.mapM (Mv a)).run P w= .ok vs w
 | [],[],_=>rfl
 | r::vG,v::vs,h=>by
   have aI:=aET h.1
   have aV:=aef h.2
   rw [List.mapM_cons]
   simp only [Sem.run_bind,aI,aV,Result.andThen_ok]
   rfl
theorem iQ {fn:Func} {R:Ending->World->Prop} {n:Nat} {l:List (Nat × Value)} {vG:List ResultVar} {vs:List Value} (b5:fn.results=vG.toArray) (I:Fr ⟨n,[]⟩ l a) (ah:Xl P a w vG vs)
 (h:R (.returned (pack vs)) w):bodyPost P fn R .ret a w:=by
 refine ⟨I.defers,pack vs,?_,h⟩
 have aI:=aef ah
 unfold results
 have e:(fun x=>match x with | .tmp t=>pure (a.tmps.getD t undef) | .cell mO t=>do loadVar t (<-asAddr (a.tmps.getD mO undef)):ResultVar->Sem Value)=Mv a:=by
  funext x;cases x <;> rfl
 rw [b5,List.mapM_toArray]
 simp only [Sem.run_bind]
 show Result.andThen (((List.toArray <$> vG.mapM (fun x=>match x with | .tmp t=>pure (a.tmps.getD t undef) | .cell mO t=>do loadVar t (<-asAddr (a.tmps.getD mO undef)):ResultVar->Sem Value))).run P w) _=_
 rw [e,map_eq_pure_bind,Sem.run_bind,aI]
 match vs with
 | []=>rfl
 | [v]=>rfl
 | v::u::r=>rfl
end
section
variable {P:Program} {ops:Array Oper} {Q:Exit->Act->World->Prop} {a:Act} {w:World} {rest:List Oper} {o:Oper} {n:h'} {d:Nat} {l:List (Nat × Value)}
 {W:World} {M0 X:List Nat} {E:List au} {D:List ap}
theorem aw.new (hm:aw W M0 X w E D) (t:TypeId) (cs:List Value):aw W M0 X (w.alloc (.cells cs.toArray t)) (au.bs w.heap.size t cs::E) D:=
 hm.push _ (bg.alloc _ _ _) (agf w t cs) (fun k bi=>by simp [au.bs] at bi;subst bi;exact ⟨Nat.le_refl _,by simp⟩) (by simp [au.bs])
theorem da {g p sz:Nat} {t pR:TypeId} {x y:Operand} {cs vs:List Value} {v:Value} (i:Nat) (hm:aw W M0 X w E D) (hi:E[i]? =some (au.bs g pR cs)) (hw:Region.wanted o (yielded ops a.tmps)=true)
 (ah:v.cells=vs.toArray) (bc:∀ w,(Go.sizeOf t).run P w= .ok sz w) (aC:Nat.beq vs.length sz=true) (aI:vs.all (·.oneCell')=true) (hle:Nat.ble (p+vs.length) cs.length=true)
 (bu:o.op= .store t x y) (al:a.eval x= .pointer (some ⟨g,p,none⟩)) (hy:a.eval y=v) (bY:o.dst=none)
 (k:∀ aJ,aw W M0 X aJ (E.set i (au.bs g pR (lay cs p vs))) D->wpList P ops Q rest a aJ):wpList P ops Q (o::rest) a w:=by
 obtain ⟨aJ,aI,aV,bX⟩:=afA ah bc aC aI hle (hm.e i hi) bu al hy
 exact MI hw aI bY (k aJ (hm.vM i hi aV bX (by simp [au.bs]) (fun k bi=>.inl bi)))
theorem aw.c5 {α:Type} (hm:aw W M0 X w E D) (e:TypeId) (size:Nat):aw W M0 X w (au.row e size (.slice none 0 0) ([]:List α) []::E) D:=
 hm.push _ (bg.refl _ _) (World.ownsRow_nil w 0 e size) (fun k bi=>by simp [au.row,Value.ownBlock] at bi) (by simp [au.row,Value.ownBlock])
theorem Wf (o:Option Nat):o.toList.Nodup:=by cases o <;> simp
theorem acR {e:TypeId} {z:Value} {sz bytes:Nat} (h:(P.info? e).map (fun i=>(i.zero,i.size,i.bytes))=some (some z,sz,bytes)):∃ i,P.info? e=some i/\i.zero=some z/\i.size=sz/\i.bytes=bytes:=by
 cases hi:P.info? e with
 | none=>rw [hi] at h;cases h
 | some i=>
   rw [hi] at h
   simp only [Option.map_some,Option.some.injEq,Prod.mk.injEq] at h
   exact ⟨i,rfl,h.1,h.2.1,h.2.2⟩
end
end a5
namespace a5
open Go Go.RowKit J
section
variable {P:Program} {ops:Array Oper} {C:World->Prop} {qX:Act->Prop} {a:Act} {w:World} {rest:List Oper} {o:Oper} {n:h'} {d:Nat} {l:List (Nat × Value)} {v:Value}
theorem e4 (hw:Region.wanted o (yielded ops a.tmps)=true) (hy:∀ w,C w->cv P o a w v w) (I:Fr n l a) (bY:o.dst=some d) (ai:Nat.blt d n=true) (k:∀ b2,Fr n ((d,v)::l) b2->wpQuiet P ops C qX rest b2):wpQuiet P ops C qX (o::rest) a:=by
 unfold wpQuiet
 rw [if_pos hw]
 refine ⟨v,fun w hc=>?_,?_⟩
 · unfold Oper.quietAt
   rw [show (execOp a.eval o).run P w=_ from hy w hc]
   exact ⟨rfl,rfl⟩
 · rw [bY];exact k _ (I.put ai)
theorem jE {id:Nat} {Q:Exit->Act->World->Prop} {l:List Oper} (hm:P.follows .mixedOrders=true) (j':Region.lexB .any l.toArray=true)
 (h:wpQuiet P l.toArray (fun aJ=>bg [] w aJ) (fun a=>∀ aJ,bg [] w aJ->Q .normal a aJ) l a):(Code.region id l.toArray true).wp P Q a w:=
 wp_region_quiet (C:=fun aJ=>bg [] w aJ) hm j' (bg.drew [] w) (by
  refine Eq.mp ?_ h
  rw [List.toList_toArray]) |> fun h=>wp_mono h (fun e a w q=>q)
end
theorem aiR {w aJ:World} {p:Addr} {v:Value} (h:bg [] w aJ) (hc:w.cell? p=some v):aJ.cell? p=some v:=
 (World.cell?_of_block (h.block p.block (World.block_lt_of_cell? w p hc) (by simp))).trans hc
theorem ch {w aJ:World} {p:Addr} {cs:List Value} (h:bg [] w aJ) (hc:j8 w p cs):j8 aJ p cs:=fun j u bf=>aiR h (hc j u bf)
section
variable {P:Program} {Q:Exit->Act->World->Prop} {K:Act->World->Prop} {a:Act} {w:World}
theorem bD {i:Nat} (h:Q (.exit i) a w):Exit.then K Q (.exit i) a w:=h
theorem cD {i:Nat} (h:Q .normal a w):Exit.inBlock i Q (.exit i) a w:=by simpa [Exit.inBlock] using h
theorem aFJ {i j:Nat} (a8:Nat.beq j i=false) (h:Q (.exit j) a w):Exit.inBlock i Q (.exit j) a w:=by
 have:j≠i:=by intro e;subst e;simp at a8
 simpa [Exit.inBlock,this] using h
theorem ao (h:Q .ret a w):Exit.then K Q .ret a w:=h
theorem ba {i:Nat} (h:Q .ret a w):Exit.inBlock i Q .ret a w:=h
theorem cp {id:Nat} {c:Code} (mN:Act->World->Prop) (al:∀ K:Act->World->Prop,(∀ a w,mN a w->K a w)->c.wp P (Exit.inBlock id (Exit.then K Q)) a w) (hy:∀ a w,mN a w->Q .normal a w):(Code.block id c).wp P Q a w:=by
 refine wp_block (wp_mono (al _ hy) ?_)
 intro e a w h
 cases e with
 | exit i=>
   by_cases hi:i=id
   · simpa [Exit.inBlock,Exit.then,hi] using h
   · simpa [Exit.inBlock,Exit.then,hi] using h
 | _=>exact h
theorem a7 {id:Nat} {l:List Oper} (h:wpList P l.toArray Q l a w):(Code.region id l.toArray false).wp P Q a w:=wp_region_lit h
theorem eZ {c:Operand} {x y:Code} {b:Bool} (hc:a.eval c= .bool b) (a8:b=true) (h:x.wp P Q a w):(Code.cond c x y).wp P Q a w:=wp_cond_true (by rw [hc,a8]) h
theorem jD {c:Operand} {x y:Code} {b:Bool} (hc:a.eval c= .bool b) (a8:b=false) (h:y.wp P Q a w):(Code.cond c x y).wp P Q a w:=wp_cond_false (by rw [hc,a8]) h
end
section
variable {W w:World} {M0 X:List Nat} {E:List au} {D:List ap}
def L2 (D:List ap):List ap->Prop
 | []=>True
 | y::r=>(∃ i:Nat,D[i]? =some y)/\L2 D r
theorem adT {D:List ap}:∀ {h9:List ap},L2 D h9-> ∀ y ∈ h9,y ∈ D
 | [],_,y,hy=>by simp at hy
 | z::r,h,y,hy=>by
   rcases List.mem_cons.1 hy with rfl | e
   · obtain ⟨i,hi⟩:=h.1;exact List.mem_of_getElem? hi
   · exact adT h.2 y e
theorem aw.pick (h:aw W M0 X w E D) {h9:List ap} (bc:L2 D h9):aw W M0 X w E h9:=h.less (adT bc)
theorem aw.Fu (h:aw W M0 X w E D) (i:Nat):aw W M0 X w (E.eraseIdx i) D:=h.drop (List.eraseIdx_sublist E i)
theorem aw.freeze {α:Type} {T:fJ α} {e:TypeId} {A:Option Addr} {n c:Nat} {l:List α} {xs:List Value} (h:aw W M0 X w E D) (i j:Nat) (hi:E[i]? =some (au.row e T.size (.slice A n c) l xs)) (bf:D[j]? =some (ap.rows T xs l)) :
 aw W M0 X w (E.eraseIdx i) (ap.of (aN T) [.slice A n c] l::D):=by
 have aI:=h.Fu i
 refine aI.more (aEH (h.e i hi) (aI.d j bf) ?_)
 intro k bi lx
 rcases List.mem_append.1 lx with bS | bS
 · have ey:=h.m' k bS
   rcases (h.lt k (List.mem_flatMap.2 ⟨_,List.mem_of_getElem? hi,bi⟩)).2 with cf | cf
   · exact ey.2 cf
   · omega
 · obtain ⟨aC,al⟩:=List.getElem?_eq_some_iff.1 hi
   have hb:E=E.take i++E[i]::E.drop (i+ 1):=by simp
   have bY:=h.ea
   rw [hb,al] at bY
   have cf:cY (E.take i++au.row e T.size (.slice A n c) l xs::E.drop (i+ 1))=cY (E.take i)++((au.row e T.size (.slice A n c) l xs).gw++cY (E.drop (i+ 1))):=by simp [cY]
   rw [cf,List.nodup_append,List.nodup_append] at bY
   rw [List.eraseIdx_eq_take_drop_succ] at bS
   rcases List.mem_append.1 (by simpa [cY] using bS:k ∈ cY (E.take i)++cY (E.drop (i+ 1))) with eI | eI
   · exact bY.2.2 k eI k (List.mem_append.2 (.inl bi)) rfl
   · exact bY.2.1.2.2 k bi k eI rfl
theorem aw.mV {g:Nat} {t:TypeId} {cs:List Value} (h:aw W M0 X w E D) (i:Nat) (hi:E[i]? =some (au.bs g t cs)):aw W M0 X w (E.eraseIdx i) (ap.c3 g cs::D):=by
 have aI:=h.Fu i
 refine aI.more ⟨?_,zr (h.e i hi),fun j u bf=>?_⟩
 · intro lx
   have bi:g ∈ (au.bs g t cs).gw:=by simp [au.bs]
   rcases List.mem_append.1 lx with bS | bS
   · have ey:=h.m' g bS
     rcases (h.lt g (List.mem_flatMap.2 ⟨_,List.mem_of_getElem? hi,bi⟩)).2 with cf | cf
     · exact ey.2 cf
     · omega
   · obtain ⟨aC,al⟩:=List.getElem?_eq_some_iff.1 hi
     have hb:E=E.take i++E[i]::E.drop (i+ 1):=by simp
     have bY:=h.ea
     rw [hb,al] at bY
     have cf:cY (E.take i++au.bs g t cs::E.drop (i+ 1))=cY (E.take i)++((au.bs g t cs).gw++cY (E.drop (i+ 1))):=by simp [cY]
     rw [cf,List.nodup_append,List.nodup_append] at bY
     rw [List.eraseIdx_eq_take_drop_succ] at bS
     rcases List.mem_append.1 (by simpa [cY] using bS:g ∈ cY (E.take i)++cY (E.drop (i+ 1))) with eI | eI
     · exact bY.2.2 g eI g (List.mem_append.2 (.inl bi)) rfl
     · exact bY.2.1.2.2 g bi g eI rfl
 · have:=BT (h.e i hi) bf
   simpa using this
end
end a5
namespace a5
open Go Go.RowKit J
def i' (n:Nat):List Nat->Array Bool
 | []=>Array.replicate n false
 | i::d=>(i' n d).setIfInBounds i true
def BG (K:Act->World->Prop) (Q:Exit->Act->World->Prop):Exit->Act->World->Prop
 | .normal,a,w=>K a w
 | e,a,w=>Q e a w
section
variable {P:Program} {ops:Array Oper} {Q:Exit->Act->World->Prop} {a:Act} {w:World} {o:Oper} {n:h'} {f d i:Nat} {ds:List Nat} {l:List (Nat × Value)} {v:Value}
def MJ (ops:Array Oper) (ds:List Nat) (i:Nat):Bool:=Region.noSelect ops && Region.free .any ops (i' ops.size ds) i && (Region.ready .any ops (i' ops.size ds)).contains i
theorem aFE {K:Act->World->Prop} {Q:Exit->Act->World->Prop} (h:o.wp P a w K (BG K Q)):o.wp P a w K Q:=by
 unfold Oper.wp at *
 generalize (execOp a.eval o).run P w=r at *
 cases r with
 | ok n aJ=>
   cases n <;> simp only [Oper.upon] at h ⊢ <;>
    first
     | exact h
     | exact Calls.mono h (fun e aeB he=>by cases e <;> first | exact he | exact he)
 | halt x aJ=>cases x <;> simp only [Oper.upon] at h ⊢ <;> exact h
theorem XJ {K:Act->World->Prop} (hi:ops[i]? =some o) (h:wpList P ops (BG K (NoPanic Q)) [o] a w):wpOp P ops (NoPanic Q) i K a w:=by
 unfold wpOp
 simp only [hi]
 unfold wpList at h
 split at h
 · rename_i hw
   rw [if_pos hw]
   rcases h with h | ⟨aI,aV⟩
   · exact .inl (aFE h)
   · exact .inr ⟨aI,aV.elim fun a h=>h.elim fun w h=>⟨a,w,h⟩⟩
 · rename_i hw
   rw [if_neg hw]
   exact h
end
section
variable {P:Program} {o:Oper} {a:Act} {w:World} {t eF:TypeId} {x y:Operand} {hC:Array Field} {xs ys:Array Value} {b:Bool}
theorem aGA (bV:P.underlying t=some (.struct hC)) (b9:P.stoodInHeld t=false) (hm:P.eqGuardType P.depth t=false)
 (b5:(Op.eqFields 9999 xs ys hC.toList).run P w= .ok b w) (bu:o.op= .binOp .eql t x y eF) (al:a.eval x= .agg xs) (hy:a.eval y= .agg ys):cv P o a w (.bool b) w:=by
 have I:P.fieldsOf t=hC:=by simp [Program.fieldsOf,bV]
 have h:=run_equalIn_struct (P:=P) w 9999 t xs ys (by rw [I];exact bV) b9
 rw [I,b5] at h
 have h:(Op.equalIn 10000 t (Value.agg xs) (Value.agg ys)).run P w= .ok b w:=h
 simp only [cv,execOp,bu,al,hy]
 simp [go_sem,Op.equal,Op.maxDepth,h,run_eqGuard_agg w _ _ _ _ _ _ hm]
theorem OC (bV:P.underlying t=some (.struct hC)) (b9:P.stoodInHeld t=false) (hm:P.eqGuardType P.depth t=false)
 (b5:(Op.eqFields 9999 xs ys hC.toList).run P w= .ok b w) (bu:o.op= .binOp .neq t x y eF) (al:a.eval x= .agg xs) (hy:a.eval y= .agg ys):cv P o a w (.bool (!b)) w:=by
 have I:P.fieldsOf t=hC:=by simp [Program.fieldsOf,bV]
 have h:=run_equalIn_struct (P:=P) w 9999 t xs ys (by rw [I];exact bV) b9
 rw [I,b5] at h
 have h:(Op.equalIn 10000 t (Value.agg xs) (Value.agg ys)).run P w= .ok b w:=h
 simp only [cv,execOp,bu,al,hy]
 simp [go_sem,Op.equal,Op.maxDepth,h,run_eqGuard_agg w _ _ _ _ _ _ hm]
theorem Cb {d:Nat}:(Op.eqFields d xs ys []).run P w= .ok true w:=rfl
theorem xI {d:Nat} {f:Field} {l:List Field} {k:IntKind} {m n:Int} {e:Prop} [Decidable e] (ai:(f.name != "_")=true) (hu:P.underlying f.type=some (.int k)) (dt:∀ w,(isAgg f.type).run P w= .ok false w)
 (al:xs[f.offset]? =some (.int k m)) (hy:ys[f.offset]? =some (.int k n)) (h:(Op.eqFields (d+ 1) xs ys l).run P w= .ok (decide e) w):(Op.eqFields (d+ 1) xs ys (f::l)).run P w= .ok (decide (m=n/\e)) w:=by
 have Aj:f.name≠ "_" :=by simpa using ai
 simp only [Op.eqFields,Aj,if_true,ne_eq,not_false_iff,part,Sem.run_bind,dt,Result.andThen_ok,al,hy,Bool.false_eq_true,if_false,Sem.run_pure,run_equalIn_int w d f.type k k m n hu]
 by_cases uM:m=n
 · subst uM;simp [h]
 · simp [uM,show (m == n)=false from by simpa using uM]
end
end a5
namespace a5
open Go Go.RowKit Go.ChangeShapes Go.WideShapes Go.Deep J
section
variable {H:Type} {enc:TypeId × Value->H} {P:Program}
theorem aaz (aC:laidOutB P=true) {W lg:World} {jP:Nat->Bool}:∀ {vL:List TypeId} {vs:List Value} {ds:List (DataW H)} {vD:List MemPlace},DataW.TrodAll enc P W 0 (fun _=>true) true vL vs ds vD ->
 (vL.all fun t=>P.readableRec t && Nat.blt t P.types.size)=true->(∀ p ∈ vD,W.sameAt lg p)->(∀ p ∈ vD,jP p.block=true)->DataW.TrodAll enc P lg 0 jP true vL vs ds vD
 | [],vs,ds,vD,h,_,_,_=>by obtain ⟨rfl,rfl,rfl⟩:=trodAll_nil h;exact trodAll_mk0
 | t::vL,vs,ds,vD,h,b5,bc,b9=>by
   obtain ⟨v,aIs,d,aHN,p,q,rfl,rfl,rfl,bH,aI⟩:=trodAll_cons h
   simp only [List.all_cons,Bool.and_eq_true] at b5
   exact trodAll_cons_mk (WideElems.Trod_stays aC b5.1.1 (Nat.le_of_ble_eq_true b5.1.2) bH (fun x al=>bc x (List.mem_append_left _ al)) (fun x al=>b9 x (List.mem_append_left _ al)))
    (aaz aC aI b5.2 (fun x al=>bc x (List.mem_append_right _ al)) (fun x al=>b9 x (List.mem_append_right _ al)))
theorem aD0 {f:Func} {s:ChangeSpec} {W lg:World} {args:Array Value} {ds gs:List (DataW H)} {before:List MemPlace} {pR:TypeId}
 (ks:DataW.Whole enc P f.params.toList s.vars false W args.toList ds gs before) (aC:laidOutB P=true) (b5:(f.params.toList.all fun t=>P.readableRec t && Nat.blt t P.types.size)=true)
 (ah:s.vars= []) (RB:s.fn H ds= { results:=[.lit (.bool true)],args:=ds }) (a8:P.underlying pR=some .bool) (acq:f.resultTypes= #[pR]) (m2:bg [] W lg) :
 s.post enc P f false true false false W args (.bool true) lg:=by
 have uC:=m2.below
 have ey:∀ p ∈ before,p.block <W.heap.size:=fun p b9=>ks.lt p b9
 have amP:=ks
 obtain ⟨p,q,hD,Co,G8,c8,ai⟩:=ks
 rw [ah] at Co
 obtain ⟨rfl,rfl⟩:=trodVars_none Co
 simp only [List.append_nil] at G8
 subst G8
 have hold:∀ x ∈ before,(fun b=>decide (b <W.heap.size)) x.block=true:=fun x al=>by simpa using ey x al
 have QZ:∀ jP:Nat->Bool,(∀ x ∈ before,jP x.block=true)->DataW.TrodAll enc P lg 0 jP true f.params.toList args.toList ds before:=
  fun jP sM=>aaz aC hD b5 (fun x al=>uC.same (ey x al)) sM
 have acr:∀ (b:Nat) (jP:Nat->Bool) (bY:Bool),DataW.TrodAll enc P lg b jP bY f.resultTypes.toList ((Value.bool true).resultList f.resultTypes.size) [.lit (.bool true)] []:=fun b jP bY=>by
  rw [acq];exact trodAll_cons_mk (p:=[]) (shut_bool a8 true) trodAll_mk0
 have yb:∀ jP:Nat->Bool,DataW.TrodVars enc P lg jP s.vars [] []:=fun jP=>by rw [ah];rfl
 refine ⟨ds,[],before,[],before,[],amP,?_,?_,?_,World.keptBut_mono (fun x al=>⟨al,Or.inr (by simpa using al)⟩) (uC.frame (· ∈ before)),fun _=>?_⟩
 · simp only [List.append_nil,RB];exact acr _ _ _
 · simp only [List.append_nil,RB];exact QZ _ hold
 · simp only [List.append_nil,RB];exact yb _
 · refine ⟨ok_one acq rfl (okWide_bool_mk a8 true),_,_,([]++before)++[],⟨[]++before,[],trodAll_append (QZ (fun _=>true) (fun _ _=>rfl)) (acr _ _ _),yb _,rfl,?_,?_⟩,?_⟩
   · intro b off b9
     have qa:MemPlace.cell b off ∈ before:=by simpa using b9
     rw [uC.frozen (ey _ qa)]
     exact c8 b off qa
   · intro bN;simpa using ai bN
   · intro x al _;simpa using al
theorem aee {α:Type} {T:fJ α} {F:Nat->Prop} {W:World} {b o:Nat} {R:α->Prop}:∀ m:Nat,(∀ i,i <m-> ∃ cs d,j8 W ⟨b,o+i*T.size,none⟩ cs/\T.rd F W cs d/\R d) ->
 ∃ (l:List α) (xs:List Value),l.length=m/\gO T F W xs l/\j8 W ⟨b,o,none⟩ xs/\ ∀ d ∈ l,R d
 | 0,_=>⟨[],[],rfl,rfl,fun j u bf=>by simp at bf,fun d bY=>by cases bY⟩
 | m+ 1,h=>by
   obtain ⟨l,xs,aI,aV,bX,eP⟩:=aee m (fun i hi=>h i (by omega))
   obtain ⟨cs,d,eD,eH,gK⟩:=h m (by omega)
   refine ⟨l++[d],xs++cs,by simp [aI],ad8 (T:=T) eH aV,fun j u bf=>?_,fun e he=>?_⟩
   · have aC:=Xg (T:=T) aV
     rcases Nat.lt_or_ge j xs.length with ey | Ab
     · exact bX j u (by simpa [List.getElem?_append,ey] using bf)
     · rw [List.getElem?_append_right Ab] at bf
       have:=eD (j - xs.length) u bf
       rw [aC,aI] at this
       rw [show o+j=o+m*T.size+(j - m*T.size) by rw [aC,aI] at Ab;omega]
       simpa using this
   · rcases List.mem_append.1 he with bS | bS
     · exact eP e bS
     · simp at bS;subst bS;exact gK
end
end a5
namespace a5
open Go Go.RowKit Go.ChangeShapes Go.WideShapes Go.Deep J
def jk {H:Type} (P:Program) (enc:TypeId × Value->H) (N:Nat) (t:TypeId) {α:Type} (T:fJ α) (R:α->Prop):Prop:=
 ∀ (W:World) (n:Nat) (cs:List Value) (x:DataW H × List MemPlace),DataW.trod enc P W 0 (fun _=>true) true n t cs=some x->(∀ p ∈ x.2,p.block <W.heap.size)->(∀ m ∈ x.1.weights P t,m<=N)-> ∃ d,T.rd (jx [] W) W cs d/\R d
def ld (n:Int):Prop:=-9223372036854775808 <=n/\n<= 9223372036854775807
section
variable {H:Type} {enc:TypeId × Value->H} {P:Program} {N:Nat} {t e:TypeId}
theorem yM (bV:P.underlying t=some .string):jk P enc N t bE (fun s=>s.length<=N):=by
 intro W n cs x h _ hw
 obtain ⟨s,rfl,rfl,_⟩:=DataW.trod_string bV h
 exact ⟨s.data.toList,rfl,hw _ (by simp [DataW.weights])⟩
theorem oN (bV:P.underlying t=some (.int .i64)):jk P enc N t (aq .i64) ld:=by
 intro W n cs x h _ _
 obtain ⟨z,rfl,_,c8⟩:=DataW.trod_int bV h
 exact ⟨z,rfl,by simpa [ld,Lit.wf,IntKind.min,IntKind.max,IntKind.signed,IntKind.bits] using c8⟩
theorem aEt (bV:P.underlying t=some .bool):jk P enc N t aFp (fun _=>True):=by
 intro W n cs x h _ _
 obtain ⟨b,rfl,_⟩:=DataW.trod_bool bV h
 exact ⟨b,rfl,trivial⟩
theorem adH {d:DataW H} {m:Nat} (hm:m ∈ d.weights P e):∀ {l:List (DataW H)},d ∈ l->m ∈ DataW.weightsAll P e l
 | [],h=>by cases h
 | x::r,h=>by
   simp only [DataW.weightsAll,List.mem_append]
   rcases List.mem_cons.1 h with rfl | h
   · exact .inl hm
   · exact .inr (adH hm h)
theorem rR {α:Type} {T:fJ α} {R:α->Prop} (bV:P.underlying t=some (.slice e)) (lP:P.cellsOf e=T.size) (Lk:Nat.blt 0 T.size=true) (GD:jk P enc N e T R):jk P enc N t (aN T) (fun l=>l.length*P.bytesOf e<=N/\ ∀ d ∈ l,R d):=by
 have Lk:0 <T.size:=Nat.le_of_ble_eq_true Lk
 intro W n cs x h b9 hw
 rcases open_slice bV h with ⟨rfl,rfl⟩ | ⟨a,vl,cap,m,lC,D,af9,rfl,_,aC,hm,Ai,al,hi⟩
 · exact ⟨[],⟨none,0,rfl,Nat.le_refl _,Nat.zero_le _,fun _=>rfl,fun h=>absurd rfl h⟩,by simp,fun d bY=>by cases bY⟩
 · have hv:m=cap:=by simpa using Ai
   subst hv
   have ab':x.2 =MemPlace.row a (m*P.cellsOf e)++(List.range m).flatMap af9:=congrArg Prod.snd al
   have abX:x.1 = .slice ((List.range vl).map D) ((List.range (m - vl)).map fun j=>D (vl+j)):=congrArg Prod.fst al
   have yc:(vl+(m - vl))*P.bytesOf e<=N:=by
    refine hw _ ?_
    rw [abX]
    simp only [DataW.weights,bV,List.length_map,List.length_range]
    exact List.mem_cons_self
   have hlen:vl*P.bytesOf e<=N:=Nat.le_trans (Nat.mul_le_mul_right _ (Nat.le_add_right _ _)) yc
   by_cases bH:vl= 0
   · subst bH
     exact ⟨[],⟨some a,m,rfl,by simp,hm,fun h=>(by cases h),fun h=>absurd rfl h⟩,by simp,fun d bY=>by cases bY⟩
   · have px:∀ i,i <vl-> ∃ cs d,(∀ j u,cs[j]? =some u->W.cell? (a.add (i*T.size+j))=some u)/\cs.length=T.size/\T.rd (jx [] W) W cs d/\R d:=fun i g2=>by
      have ab5:i <m:=by omega
      obtain ⟨B',hc,pE⟩:=hi i ab5
      obtain ⟨d,bY,jG⟩:=GD W lC B' _ pE (fun p TI=>b9 p (by
       rw [ab',List.mem_append]
       exact .inr (List.mem_flatMap.2 ⟨i,by simpa using ab5,TI⟩))) (fun k bi=>hw k (by
       rw [abX]
       simp only [DataW.weights,bV,List.mem_cons,List.mem_append]
       exact .inr (.inl (adH bi (List.mem_map.2 ⟨i,by simpa using g2,rfl⟩)))))
      rw [lP] at hc
      obtain ⟨_,ow,xW⟩:=World.cells?_some hc
      refine ⟨B',d,fun j u bf=>?_,ow,bY,jG⟩
      have GZ:j <T.size:=by rw [<-ow];exact (List.getElem?_eq_some_iff.1 bf).1
      have:=xW j GZ
      rw [bf,Go.Deep.add_add] at this
      exact this
     have acu:a.spot=none:=by
      obtain ⟨cs,d,aI,aV,_⟩:=px 0 (by omega)
      have:=aI 0 _ (List.getElem?_eq_getElem (by omega))
      unfold World.cell? at this
      split at this
      · split at this
        · cases this
        · rename_i bc;simpa [Addr.add] using bc
      · cases this
     obtain ⟨ab,Y8,aHl⟩:=a
     simp only at acu
     subst acu
     obtain ⟨l,xs,aI,aV,bX,eP⟩:=aee (T:=T) (F:=jx [] W) (W:=W) (b:=ab) (o:=Y8) (R:=R) vl (fun i g2=>by
      obtain ⟨cs,d,eD,_,gK,kN⟩:=px i g2
      exact ⟨cs,d,fun j u bf=>by have:=eD j u bf;rw [q4] at this;simpa [Nat.add_assoc] using this,gK,kN⟩)
     subst aI
     refine ⟨l,⟨_,m,rfl,aC,hm,fun h=>(by cases h),fun _=>⟨rfl,⟨by simp,?_⟩,xs,aV,bX⟩⟩,hlen,eP⟩
     have qa:MemPlace.cell ab Y8 ∈ x.2 :=by
      rw [ab',List.mem_append]
      left
      have:0 <m*P.cellsOf e:=Nat.mul_pos (by omega) (by omega)
      simp only [MemPlace.row,List.mem_map,List.mem_range]
      exact ⟨0,this,by simp⟩
     exact b9 _ qa
theorem adI {m:Nat}:∀ {vL:List TypeId} {l:List (DataW H)} {j:Nat} {u:TypeId} {d:DataW H},vL[j]? =some u->l[j]? =some d->m ∈ d.weights P u->m ∈ DataW.weightsEach P vL l
 | [],_,j,_,_,h,_,_=>by simp at h
 | _::_,[],j,_,_,_,h,_=>by simp at h
 | t::vL,x::l,0,u,d,aI,aV,hm=>by
   simp only [List.getElem?_cons_zero,Option.some.injEq] at aI aV
   subst aI;subst aV
   simp only [DataW.weightsEach,List.mem_append]
   exact .inl hm
 | t::vL,x::l,j+ 1,u,d,aI,aV,hm=>by
   simp only [DataW.weightsEach,List.mem_append]
   exact .inr (adI (j:=j) (by simpa using aI) (by simpa using aV) hm)
theorem ph {hC:Array Field} {W:World} {n:Nat} {cs:List Value} {x:DataW H × List MemPlace} (bV:P.underlying t=some (.struct hC)) (h:DataW.trod enc P W 0 (fun _=>true) true n t cs=some x) (b9:∀ p ∈ x.2,p.block <W.heap.size) (hw:∀ m ∈ x.1.weights P t,m<=N) :
 ∃ lC,cs.length=P.cellsOf t/\ ∀ (j:Nat) (f:Field),hC[j]? =some f-> ∃ y,DataW.trod enc P W 0 (fun _=>true) true lC f.type ((cs.drop f.offset).take (P.cellsOf f.type))=some y/\(∀ p ∈ y.2,p.block <W.heap.size)/\(∀ m ∈ y.1.weights P f.type,m<=N):=by
 obtain ⟨ys,lC,_,al,aC,aIm,dt⟩:=DataW.trod_struct bV h
 refine ⟨lC,aC,fun j f bf=>?_⟩
 have GZ:j <hC.size:=(Array.getElem?_eq_some_iff.1 bf).1
 have hy:ys[j]? =some (ys[j]'(by omega)):=List.getElem?_eq_getElem _
 refine ⟨ys[j]'(by omega),by rw [dt j f bf,hy],fun p TI=>b9 p ?_,fun m hm=>hw m ?_⟩
 · rw [al]
   exact List.mem_flatMap.2 ⟨_,List.getElem_mem _,TI⟩
 · rw [al]
   simp only [DataW.weights,bV]
   refine adI (j:=j) (u:=f.type) (d:=(ys[j]'(by omega)).1) ?_ ?_ hm
   · rw [List.getElem?_map,Array.getElem?_toList,bf];rfl
   · rw [List.getElem?_map,hy];rfl
theorem g' {hC:Array Field} {W:World} {lC:Nat} {cs:List Value} (I:∀ (j:Nat) (f:Field),hC[j]? =some f-> ∃ y,DataW.trod enc P W 0 (fun _=>true) true lC f.type ((cs.drop f.offset).take (P.cellsOf f.type))=some y/\(∀ p ∈ y.2,p.block <W.heap.size)/\(∀ m ∈ y.1.weights P f.type,m<=N))
 (j:Nat) {f:Field} (bf:hC[j]? =some f) {t off k:Nat} (bV:f.type=t) (bu:f.offset=off) (bi:P.cellsOf t=k) {r:List Value} (b5:(cs.drop off).take k=r):∃ y,DataW.trod enc P W 0 (fun _=>true) true lC t r=some y/\(∀ p ∈ y.2,p.block <W.heap.size)/\(∀ m ∈ y.1.weights P t,m<=N):=by
 obtain ⟨y,aI,aV,bX⟩:=I j f bf
 rw [bV,bu] at aI
 rw [bV] at bX
 rw [bi,b5] at aI
 exact ⟨y,aI,aV,bX⟩
theorem Y4 {v:Array Value} {l:List Value} (h:(Value.agg v).cells.toList=l):v=l.toArray:=by
 have h:v.toList=l:=h
 rw [<-h]
theorem Y' {α:Type} {T:fJ α} {R:α->Prop} {W:World} {v:Value} {d:DataW H} {vD:List MemPlace} (b5:jk P enc N t T R) (h:DataW.Trod enc P W 0 (fun _=>true) true t v d vD) (b9:∀ p ∈ vD,p.block <W.heap.size) (hw:∀ m ∈ d.weights P t,m<=N):∃ d',T.rd (jx [] W) W v.cells.toList d'/\R d':=by
 obtain ⟨n,ai⟩:=h
 exact b5 W n _ _ ai b9 hw
end
end a5
namespace a5
open Go Go.RowKit J
inductive qW
 | i (k:IntKind)
 | b
 | s
 | aa
def qW.ok (P:Program) (t:TypeId):qW->Prop
 | .i k=>P.underlying t=some (.int k)
 | .b=>P.underlying t=some .bool
 | .s=>P.underlying t=some .string
 | .aa=>∃ e,P.underlying t=some (.slice e)
structure o3 where
 oR:List (Nat × qW)
 ph:List (Nat × Nat × Nat)
 H_:List (Nat × Option Nat)
def XB (P:Program):List (Nat × qW)->Prop
 | []=>True
 | p::r=>p.2.ok P p.1 /\XB P r
def Pd (P:Program) (s j off:Nat):Prop:=∃ hC f sz,P.underlying s=some (.struct hC)/\hC[j]? =some f/\f.offset=off/\sz≠ 0 /\ ∀ w,(Go.sizeOf f.type).run P w= .ok sz w
def Qs (P:Program):List (Nat × Nat × Nat)->Prop
 | []=>True
 | p::r=>Pd P p.1 p.2.1 p.2.2 /\Qs P r
def Y3 (P:Program) (t:Nat):Option Nat->Prop
 | none=>∀ w,(isAgg t).run P w= .ok false w
 | some n=>(∀ w,(isAgg t).run P w= .ok true w)/\ ∀ w,(Go.sizeOf t).run P w= .ok n w
def Xt (P:Program):List (Nat × Option Nat)->Prop
 | []=>True
 | p::r=>Y3 P p.1 p.2 /\Xt P r
structure sf (P:Program) (G:o3):Prop where
 oR:XB P G.oR
 ph:Qs P G.ph
 H_:Xt P G.H_
theorem f' {P:Program} {s j off sz:Nat} {hC:Array Field} {f:Field} (h:P.underlying s=some (.struct hC)) (I:hC[j]? =some f) (bu:f.offset=off) (bc:∀ w,(Go.sizeOf f.type).run P w= .ok sz w) (bH:Nat.beq sz 0 =false):Pd P s j off:=
 ⟨hC,f,sz,h,I,bu,(fun e=>by subst e;simp at bH),bc⟩
def pN {β:Type}:List (Nat × β)->Nat->Option β
 | [],_=>none
 | p::r,t=>match Nat.beq p.1 t with
   | true=>some p.2
   | false=>pN r t
def HL:List (Nat × Nat × Nat)->Nat->Nat->Option Nat
 | [],_,_=>none
 | p::r,s,j=>match Nat.beq p.1 s && Nat.beq p.2.1 j with
   | true=>some p.2.2
   | false=>HL r s j
theorem A5 {P:Program} {l:List (Nat × qW)} (h:XB P l) {t:Nat} {k:qW} (aC:pN l t=some k):k.ok P t:=by
 induction l with
 | nil=>simp [pN] at aC
 | cons p r cA=>
   simp only [pN] at aC
   cases a8:Nat.beq p.1 t with
   | true=>
     rw [a8] at aC
     simp only [Option.some.injEq] at aC
     rw [<-Nat.eq_of_beq_eq_true a8,<-aC];exact h.1
   | false=>rw [a8] at aC;exact cA h.2 aC
theorem aen {P:Program} {l:List (Nat × Option Nat)} (h:Xt P l) {t:Nat} {k:Option Nat} (aC:pN l t=some k):Y3 P t k:=by
 induction l with
 | nil=>simp [pN] at aC
 | cons p r cA=>
   simp only [pN] at aC
   cases a8:Nat.beq p.1 t with
   | true=>
     rw [a8] at aC
     simp only [Option.some.injEq] at aC
     rw [<-Nat.eq_of_beq_eq_true a8,<-aC];exact h.1
   | false=>rw [a8] at aC;exact cA h.2 aC
theorem aiX {P:Program} {l:List (Nat × Nat × Nat)} (h:Qs P l) {s j off:Nat} (aC:HL l s j=some off):Pd P s j off:=by
 induction l with
 | nil=>simp [HL] at aC
 | cons p r cA=>
   simp only [HL] at aC
   cases a8:Nat.beq p.1 s && Nat.beq p.2.1 j with
   | true=>
     rw [a8] at aC
     simp only [Option.some.injEq] at aC
     simp only [Bool.and_eq_true] at a8
     rw [<-Nat.eq_of_beq_eq_true a8.1,<-Nat.eq_of_beq_eq_true a8.2,<-aC];exact h.1
   | false=>rw [a8] at aC;exact cA h.2 aC
def mr (w:World):List (Nat × Nat × List Value)->Prop
 | []=>True
 | m::r=>j8 w ⟨m.1,m.2.1,none⟩ m.2.2 /\mr w r
theorem aE {w:World}:mr w []:=trivial
theorem aD {w:World} {b p:Nat} {cs:List Value} {M:List (Nat × Nat × List Value)} (h:j8 w ⟨b,p,none⟩ cs) (k:mr w M):mr w ((b,p,cs)::M):=⟨h,k⟩
theorem adF {w:World} {M:List (Nat × Nat × List Value)} (h:mr w M) {i b p:Nat} {cs:List Value} (hi:M[i]? =some (b,p,cs)):j8 w ⟨b,p,none⟩ cs:=by
 induction M generalizing i with
 | nil=>simp at hi
 | cons m r cA=>
   cases i with
   | zero=>
     simp only [List.getElem?_cons_zero,Option.some.injEq] at hi
     subst hi
     exact h.1
   | succ i=>exact cA h.2 (by simpa using hi)
theorem a' {w:World} {g:Nat} {t:TypeId} {cs:List Value} (h:(au.bs g t cs).ok w):j8 w ⟨g,0,none⟩ cs:=fun j u bf=>by
 have:=BT h bf
 simpa using this
structure iu where
 t:Nat
 j:Nat
 want:Bool
 v:Value
def AX:List (Nat × Value)->Nat->List (Nat × Value)
 | [],_=>[]
 | p::r,d=>match Nat.beq p.1 d with
   | true=>AX r d
   | false=>p::AX r d
def rS:List iu->Nat->List iu
 | [],_=>[]
 | p::r,d=>match Nat.beq p.t d || Nat.beq p.j d with
   | true=>rS r d
   | false=>p::rS r d
def Cp:List (Nat × Bool)->Nat->Bool->Bool
 | [],_,_=>false
 | p::r,j,b=>(Nat.beq p.1 j && (p.2 == b)) || Cp r j b
def HM:List iu->List (Nat × Bool)->Nat->Option Value
 | [],_,_=>none
 | p::r,cur,t=>match Nat.beq p.t t && Cp cur p.j p.want with
   | true=>some p.v
   | false=>HM r cur t
def nD (a:Act):List iu->Prop
 | []=>True
 | p::r=>(a.tmps.getD p.j undef= .bool p.want->a.tmps.getD p.t undef=p.v)/\nD a r
def uf (a:Act):List (Nat × Bool)->Prop
 | []=>True
 | p::r=>a.tmps.getD p.1 undef= .bool p.2 /\uf a r
theorem amW {a:Act} {cur:List (Nat × Bool)} (h:uf a cur) {j:Nat} {b:Bool} (ku:Cp cur j b=true):a.tmps.getD j undef= .bool b:=by
 induction cur with
 | nil=>simp [Cp] at ku
 | cons p r cA=>
   simp only [Cp,Bool.or_eq_true,Bool.and_eq_true,beq_iff_eq] at ku
   rcases ku with ⟨aI,aV⟩ | ku
   · rw [<-Nat.eq_of_beq_eq_true aI,<-aV];exact h.1
   · exact cA h.2 ku
theorem aDp {a:Act} {gs:List iu} (h:nD a gs) {cur:List (Nat × Bool)} (hc:uf a cur) {t:Nat} {v:Value} (aC:HM gs cur t=some v):a.tmps.getD t undef=v:=by
 induction gs with
 | nil=>simp [HM] at aC
 | cons p r cA=>
   simp only [HM] at aC
   cases a8:Nat.beq p.t t && Cp cur p.j p.want with
   | true=>
     rw [a8] at aC
     simp only [Option.some.injEq] at aC
     simp only [Bool.and_eq_true] at a8
     rw [<-Nat.eq_of_beq_eq_true a8.1,<-aC]
     exact h.1 (amW hc a8.2)
   | false=>rw [a8] at aC;exact cA h.2 aC
def jO (cz:List (Nat × Value)) (gs:List iu) (cur:List (Nat × Bool)):Operand->Option Value
 | .const v=>some v
 | .global g=>some (.pointer (some ⟨g,0,none⟩))
 | .tmp t=>match hf cz t with
   | some v=>some v
   | none=>HM gs cur t
 | .func _=>none
theorem L1 {n:h'} {cz:List (Nat × Value)} {gs:List iu} {cur:List (Nat × Bool)} {a:Act} (I:Fr n cz a) (dt:nD a gs) (hc:uf a cur) {x:Operand} {v:Value} (h:jO cz gs cur x=some v):a.eval x=v:=by
 cases x with
 | const u=>simp only [jO,Option.some.injEq] at h;rw [<-h];rfl
 | global g=>simp only [jO,Option.some.injEq] at h;rw [<-h];rfl
 | func f=>simp [jO] at h
 | tmp t=>
   simp only [jO] at h
   cases aC:hf cz t with
   | some u=>rw [aC] at h;simp only [Option.some.injEq] at h;rw [<-h];exact I.g aC
   | none=>rw [aC] at h;exact aDp dt hc h
def C8 (cz:List (Nat × Value)) (gs:List iu) (cur:List (Nat × Bool)):List Operand->Option (List Value)
 | []=>some []
 | x::r=>match jO cz gs cur x,C8 cz gs cur r with
   | some v,some vs=>some (v::vs)
   | _,_=>none
theorem Wd {n:h'} {cz:List (Nat × Value)} {gs:List iu} {cur:List (Nat × Bool)} {a:Act} (I:Fr n cz a) (dt:nD a gs) (hc:uf a cur):∀ {xs:List Operand} {vs:List Value},C8 cz gs cur xs=some vs->xs.map a.eval=vs
 | [],vs,h=>by simp only [C8,Option.some.injEq] at h;subst h;rfl
 | x::r,vs,h=>by
   simp only [C8] at h
   split at h
   · rename_i v us aI aV
     simp only [Option.some.injEq] at h
     subst h
     rw [List.map_cons,L1 I dt hc aI,Wd I dt hc aV]
   · cases h
def acS:Operand->Bool
 | .const (.int _ n)=>n != 0
 | _=>false
def qg:IntKind->IntKind->Bool
 | .i64,.i64 | .u8,.u8 | .i32,.i32 | .u64,.u64 | .u32,.u32 | .u16,.u16 | .i16,.i16 | .i8,.i8=>true
 | _,_=>false
theorem sP {j k:IntKind} (h:qg j k=true):j=k:=by cases j <;> cases k <;> simp_all [qg]
def m5 (k:IntKind):Bool:=qg k .i64
theorem m6 {k:IntKind} (h:m5 k=true):k= .i64:=sP h
def Zd (pI:Option qW) (kh:Bool) (op:BinOp) (j k:IntKind) (m n:Int):Option Value:=
 match op with
 | .add=>match m5 j && m5 k with | true=>some (.int .i64 (av (m+n))) | false=>none
 | .sub=>match m5 j && m5 k with | true=>some (.int .i64 (av (m - n))) | false=>none
 | .mul=>match m5 j && m5 k with | true=>some (.int .i64 (av (m*n))) | false=>none
 | .quo=>match m5 j && m5 k && kh with | true=>some (.int .i64 (av (m.tdiv n))) | false=>none
 | .rem=>match m5 j && m5 k && kh with | true=>some (.int .i64 (m.tmod n)) | false=>none
 | .or=>match m5 j && m5 k with | true=>some (.int .i64 (Wg m n)) | false=>none
 | .and=>match m5 j && m5 k with | true=>some (.int .i64 (Ps m n)) | false=>none
 | .lss=>match qg j k with | true=>some (.bool (decide (m <n))) | false=>none
 | .leq=>match qg j k with | true=>some (.bool (decide (m<=n))) | false=>none
 | .gtr=>match qg j k with | true=>some (.bool (decide (n <m))) | false=>none
 | .geq=>match qg j k with | true=>some (.bool (decide (n<=m))) | false=>none
 | .eql=>match pI with
   | some (.i i)=>match qg i j && qg j k with | true=>some (.bool (decide (m=n))) | false=>none
   | _=>none
 | .neq=>match pI with
   | some (.i i)=>match qg i j && qg j k with | true=>some (.bool (!decide (m=n))) | false=>none
   | _=>none
 | _=>none
def Zf (pI:Option qW) (op:BinOp) (p q:List UInt8):Option Value:=
 match op,pI with
 | .eql,some .s=>some (.bool (decide (p=q)))
 | .neq,some .s=>some (.bool (!decide (p=q)))
 | _,_=>none
def Zc (pI:Option qW) (op:BinOp) (p q:Bool):Option Value:=
 match op,pI with
 | .eql,some .b=>some (.bool (p == q))
 | .neq,some .b=>some (.bool (!(p == q)))
 | _,_=>none
def bin (pI:Option qW) (kh:Bool) (op:BinOp):Value->Value->Option Value
 | .int j m,.int k n=>Zd pI kh op j k m n
 | .string ⟨⟨p⟩⟩,.string ⟨⟨q⟩⟩=>Zf pI op p q
 | .bool p,.bool q=>Zc pI op p q
 | _,_=>none
section
variable {P:Program} {o:Oper} {a:Act} {w:World} {x y:Operand} {t eF:TypeId}
theorem age {pI:Option qW} (bi:∀ k,pI=some k->k.ok P t) {kh:Bool} (c8:kh=true-> ∀ k n,a.eval y= .int k n->n≠ 0) {op:BinOp} {u v r:Value} (h:bin pI kh op u v=some r) (bu:o.op= .binOp op t x y eF) (al:a.eval x=u) (hy:a.eval y=v):cv P o a w r w:=by
 unfold bin at h
 split at h
 · rename_i j m k n
   unfold Zd at h
   split at h
   case h_1=>
    split at h
    · rename_i a8
      simp only [Bool.and_eq_true] at a8
      obtain ⟨aI,aV⟩:=a8
      have aI:=m6 aI;have aV:=m6 aV
      subst aI;subst aV
      simp only [Option.some.injEq] at h
      subst h
      exact aGq bu al hy
    · cases h
   case h_2=>
    split at h
    · rename_i a8
      simp only [Bool.and_eq_true] at a8
      obtain ⟨aI,aV⟩:=a8
      have aI:=m6 aI;have aV:=m6 aV
      subst aI;subst aV
      simp only [Option.some.injEq] at h
      subst h
      exact aG5 bu al hy
    · cases h
   case h_3=>
    split at h
    · rename_i a8
      simp only [Bool.and_eq_true] at a8
      obtain ⟨aI,aV⟩:=a8
      have aI:=m6 aI;have aV:=m6 aV
      subst aI;subst aV
      simp only [Option.some.injEq] at h
      subst h
      exact aGT bu al hy
    · cases h
   case h_4=>
    split at h
    · rename_i a8
      simp only [Bool.and_eq_true] at a8
      obtain ⟨⟨aI,aV⟩,bX⟩:=a8
      have aI:=m6 aI;have aV:=m6 aV
      subst aI;subst aV
      simp only [Option.some.injEq] at h
      subst h
      have fo:=c8 bX _ _ hy
      exact aG1 bu al hy (by rw [Bool.not_eq_true',decide_eq_false_iff_not];exact fo)
    · cases h
   case h_5=>
    split at h
    · rename_i a8
      simp only [Bool.and_eq_true] at a8
      obtain ⟨⟨aI,aV⟩,bX⟩:=a8
      have aI:=m6 aI;have aV:=m6 aV
      subst aI;subst aV
      simp only [Option.some.injEq] at h
      subst h
      have fo:=c8 bX _ _ hy
      exact aG2 bu al hy (by rw [Bool.not_eq_true',decide_eq_false_iff_not];exact fo)
    · cases h
   case h_6=>
    split at h
    · rename_i a8
      simp only [Bool.and_eq_true] at a8
      obtain ⟨aI,aV⟩:=a8
      have aI:=m6 aI;have aV:=m6 aV
      subst aI;subst aV
      simp only [Option.some.injEq] at h
      subst h
      exact aGZ bu al hy
    · cases h
   case h_7=>
    split at h
    · rename_i a8
      simp only [Bool.and_eq_true] at a8
      obtain ⟨aI,aV⟩:=a8
      have aI:=m6 aI;have aV:=m6 aV
      subst aI;subst aV
      simp only [Option.some.injEq] at h
      subst h
      exact aGr bu al hy
    · cases h
   case h_8=>
    split at h
    · rename_i a8
      have a8:=sP a8
      subst a8
      simp only [Option.some.injEq] at h
      subst h
      exact aGO bu al hy
    · cases h
   case h_9=>
    split at h
    · rename_i a8
      have a8:=sP a8
      subst a8
      simp only [Option.some.injEq] at h
      subst h
      exact aGL bu al hy
    · cases h
   case h_10=>
    split at h
    · rename_i a8
      have a8:=sP a8
      subst a8
      simp only [Option.some.injEq] at h
      subst h
      exact aGG bu al hy
    · cases h
   case h_11=>
    split at h
    · rename_i a8
      have a8:=sP a8
      subst a8
      simp only [Option.some.injEq] at h
      subst h
      exact aGF bu al hy
    · cases h
   case h_12=>
    split at h
    · rename_i i
      have hi:=bi _ rfl
      split at h
      · rename_i a8
        simp only [Bool.and_eq_true] at a8
        have aI:=sP a8.1;have aV:=sP a8.2
        subst aI;subst aV
        simp only [Option.some.injEq] at h
        subst h
        exact aGB hi bu al hy
      · cases h
    · cases h
   case h_13=>
    split at h
    · rename_i i
      have hi:=bi _ rfl
      split at h
      · rename_i a8
        simp only [Bool.and_eq_true] at a8
        have aI:=sP a8.1;have aV:=sP a8.2
        subst aI;subst aV
        simp only [Option.some.injEq] at h
        subst h
        exact aGV hi bu al hy
      · cases h
    · cases h
   case h_14=>cases h
 · rename_i p q
   unfold Zf at h
   split at h
   · simp only [Option.some.injEq] at h
     subst h
     exact aGC (bi _ rfl) bu al hy
   · simp only [Option.some.injEq] at h
     subst h
     exact aGW (bi _ rfl) bu al hy
   · cases h
 · rename_i p q
   unfold Zc at h
   split at h
   · simp only [Option.some.injEq] at h
     subst h
     exact aGz (bi _ rfl) bu al hy
   · simp only [Option.some.injEq] at h
     subst h
     exact aGU (bi _ rfl) bu al hy
   · cases h
 · cases h
end
end a5
namespace a5
open Go Go.RowKit J
def nth {α:Type}:List α->Nat->Option α
 | [],_=>none
 | x::_,0 =>some x
 | _::r,i+ 1 =>nth r i
theorem s4 {α:Type}:∀ (l:List α) (i:Nat),nth l i=l[i]?
 | [],i=>by simp [nth]
 | x::r,0 =>rfl
 | x::r,i+ 1 =>by simp [nth,s4 r i]
def Uj:Operand->Bool
 | .const (.bool b)=>b
 | _=>false
def Uh:Operand->Bool
 | .const (.bool b)=>!b
 | _=>false
def Wj (x y:Operand) (b:Bool):Value->Value->Option Value
 | .bool p,.bool q=>match Uj x with
   | true=>some (.bool (b || q))
   | false=>match Uh y with
     | true=>some (.bool (b && p))
     | false=>some (.bool (cond b p q))
 | .int j m,.int k n=>match qg j k with
   | true=>some (.int j (cond b m n))
   | false=>none
 | .string ⟨⟨p⟩⟩,.string ⟨⟨q⟩⟩=>some (ak (cond b p q))
 | _,_=>none
theorem aC4 {a:Act} {x:Operand} (h:Uj x=true):a.eval x= .bool true:=by
 unfold Uj at h
 split at h
 · subst h;rfl
 · cases h
theorem aC2 {a:Act} {x:Operand} (h:Uh x=true):a.eval x= .bool false:=by
 unfold Uh at h
 split at h
 · rename_i b
   have:b=false:=by simpa using h
   subst this;rfl
 · cases h
theorem aDS {a:Act} {x y:Operand} {b:Bool} {u v r:Value} (h:Wj x y b u v=some r) (al:b=true->a.eval x=u) (hy:b=false->a.eval y=v):(if b then a.eval x else a.eval y)=r:=by
 unfold Wj at h
 split at h
 · rename_i p q
   split at h
   · rename_i bV
     simp only [Option.some.injEq] at h
     subst h
     cases b with
     | true=>rw [if_pos rfl,aC4 bV];rfl
     | false=>rw [if_neg (by simp),hy rfl];rfl
   · split at h
     · rename_i I
       simp only [Option.some.injEq] at h
       subst h
       cases b with
       | true=>rw [if_pos rfl,al rfl];rfl
       | false=>rw [if_neg (by simp),aC2 I];rfl
     · simp only [Option.some.injEq] at h
       subst h
       cases b with
       | true=>rw [if_pos rfl,al rfl];rfl
       | false=>rw [if_neg (by simp),hy rfl];rfl
 · split at h
   · rename_i bi
     have:=sP bi
     subst this
     simp only [Option.some.injEq] at h
     subst h
     cases b with
     | true=>rw [if_pos rfl,al rfl];rfl
     | false=>rw [if_neg (by simp),hy rfl];rfl
   · cases h
 · simp only [Option.some.injEq] at h
   subst h
   cases b with
   | true=>rw [if_pos rfl,al rfl];rfl
   | false=>rw [if_neg (by simp),hy rfl];rfl
 · cases h
abbrev Out:=Value × List Nat × List (Nat × Nat)
def mm (bc:List Nat) (v:Value):Option Out:=some (v,bc,[])
def aa7 (G:o3) (M:List (Nat × Nat × List Value)) (t m rel:Nat) (bc:List Nat) (HW U:Nat):Option Out:=
 match nth M m,pN G.H_ t with
 | some (b,off,cs),some none=>match nth cs rel with
   | some v=>some (v,bc,[(HW,b),(U,off+rel)])
   | none=>none
 | some (b,off,cs),some (some n)=>match Nat.ble (rel+n) cs.length with
   | true=>some (.agg ((cs.drop rel).take n).toArray,bc,[(HW,b),(U,off+rel)])
   | false=>none
 | _,_=>none
def aa5 (G:o3) (s d:Nat) (bc:List Nat):Value->Option Out
 | .int k m=>match m5 k,pN G.oR s,pN G.oR d with
   | true,some (.i .i64),some (.i .i64)=>mm bc (.int .i64 (av m))
   | true,some (.i .i64),some (.i .u8)=>mm bc (.int .u8 ((EE m).toNat:Int))
   | _,_,_=>none
 | _=>none
def aa6 (G:o3) (t:Nat) (bc:List Nat):Value->Option Out
 | .string ⟨⟨p⟩⟩=>match pN G.oR t with
   | some .s=>mm bc (.int .i64 (p.length:Int))
   | _=>none
 | .slice _ n _=>match pN G.oR t with
   | some .aa=>mm bc (.int .i64 (n:Int))
   | _=>none
 | _=>none
def aa8 (cz:List (Nat × Value)) (gs:List iu) (cur:List (Nat × Bool)) (c x y:Operand):List Nat->Option Out
 | 0 ::bc=>match c with
   | .tmp A0=>match jO cz gs cur (.tmp A0),jO cz gs ((A0,true)::cur) x,jO cz gs ((A0,false)::cur) y with
     | some (.bool b),some u,some v=>match Wj x y b u v with
       | some r=>mm bc r
       | none=>none
     | _,_,_=>none
   | _=>none
 | _::bc=>match jO cz gs cur c with
   | some (.bool b)=>match b with
     | true=>match jO cz gs cur x with | some v=>mm bc v | none=>none
     | false=>match jO cz gs cur y with | some v=>mm bc v | none=>none
   | _=>none
 | []=>none
def oq (G:o3) (M:List (Nat × Nat × List Value)) (bc:List Nat) (cz:List (Nat × Value)) (gs:List iu) (cur:List (Nat × Bool)):Op->Option Out
 | .move x=>match jO cz gs cur x with | some v=>mm bc v | none=>none
 | .assign x=>match jO cz gs cur x with | some v=>mm bc v | none=>none
 | .pick c x y=>aa8 cz gs cur c x y bc
 | .binOp op t x y _=>match jO cz gs cur x,jO cz gs cur y with
   | some u,some v=>match bin (pN G.oR t) (acS y) op u v with
     | some r=>mm bc r
     | none=>none
   | _,_=>none
 | .unOp .not _ x=>match jO cz gs cur x with
   | some (.bool p)=>mm bc (.bool (!p))
   | _=>none
 | .convert s d x=>match jO cz gs cur x with
   | some v=>aa5 G s d bc v
   | none=>none
 | .load t x=>match jO cz gs cur x,bc with
   | some (.pointer (some ⟨HW,U,none⟩)),m::rel::dR=>aa7 G M t m rel dR HW U
   | _,_=>none
 | .fieldAddr s x j=>match jO cz gs cur x,HL G.ph s j with
   | some (.pointer (some ⟨b,p,none⟩)),some off=>mm bc (.pointer (some ⟨b,p+off,none⟩))
   | _,_=>none
 | .nilCheck x=>match jO cz gs cur x with
   | some (.pointer (some p))=>mm bc (.pointer (some p))
   | _=>none
 | .extract x i=>match jO cz gs cur x with
   | some (.tuple ⟨vs⟩)=>match nth vs i with
     | some v=>mm bc v
     | none=>none
   | _=>none
 | .makeFunc fn ⟨xs⟩ ⟨ys⟩=>match C8 cz gs cur xs,C8 cz gs cur ys with
   | some us,some vs=>mm bc (.func fn us.toArray vs.toArray)
   | _,_=>none
 | .call ⟨.builtin .len,⟨[x]⟩,⟨[t]⟩⟩=>match jO cz gs cur x with
   | some v=>aa6 G t bc v
   | none=>none
 | _=>none
theorem nO {bc dR:List Nat} {u v:Value} {l:List (Nat × Nat)} (h:mm bc u=some (v,dR,l)):u=v:=by
 simp only [mm,Option.some.injEq,Prod.mk.injEq] at h
 exact h.1
def oo:List (Nat × Nat)->Prop
 | []=>True
 | p::r=>p.1 =p.2 /\oo r
section
variable {P:Program} {G:o3} {M:List (Nat × Nat × List Value)} {w:World} {a:Act} {o:Oper}
theorem aa3 {n:h'} {cz:List (Nat × Value)} {gs:List iu} {cur:List (Nat × Bool)} {bc dR:List Nat} {v:Value} {l:List (Nat × Nat)} (hE:sf P G) (hs:mr w M) (I:Fr n cz a) (dt:nD a gs) (hc:uf a cur)
 {op:Op} (bu:o.op=op) (h:oq G M bc cz gs cur op=some (v,dR,l)) (aC:oo l):cv P o a w v w:=by
 have opn:∀ {x:Operand} {u:Value},jO cz gs cur x=some u->a.eval x=u:=fun al=>L1 I dt hc al
 unfold oq at h
 split at h
 · split at h
   · rename_i al
     rw [<-nO h];exact aGR bu (opn al)
   · cases h
 · split at h
   · rename_i al
     rw [<-nO h];exact aGt bu (opn al)
   · cases h
 · rename_i c x y
   unfold aa8 at h
   split at h
   · split at h
     · rename_i A0
       split at h
       · rename_i b u rY aI aV bX
         split at h
         · rename_i r b5
           rw [<-nO h]
           have xX:a.eval (.tmp A0)= .bool b:=opn aI
           have al:b=true->a.eval x=u:=fun a8=>L1 I dt (show uf a ((A0,true)::cur) from ⟨by subst a8;exact xX,hc⟩) aV
           have hy:b=false->a.eval y=rY:=fun a8=>L1 I dt (show uf a ((A0,false)::cur) from ⟨by subst a8;exact xX,hc⟩) bX
           have b9:=aDS (a:=a) b5 al hy
           cases b with
           | true=>exact afz bu xX (by simpa using b9)
           | false=>exact afy bu xX (by simpa using b9)
         · cases h
       · cases h
     · cases h
   · split at h
     · rename_i b aI
       split at h
       · split at h
         · rename_i u aV
           rw [<-nO h];exact afz bu (opn aI) (opn aV)
         · cases h
       · split at h
         · rename_i u aV
           rw [<-nO h];exact afy bu (opn aI) (opn aV)
         · cases h
     · cases h
   · cases h
 · rename_i op t x y eF
   split at h
   · rename_i u rY aI aV
     split at h
     · rename_i r b5
       rw [<-nO h]
       refine age (fun k bi=>A5 hE.oR bi) (fun c8 k n ai=>?_) b5 bu (opn aI) (opn aV)
       unfold acS at c8
       split at c8
       · rename_i k' lC
         have:a.eval (.const (.int k' lC))= .int k' lC:=rfl
         rw [this] at ai
         injection ai with _ e
         subst e
         simpa using c8
       · cases c8
     · cases h
   · cases h
 · rename_i x
   split at h
   · rename_i p aI
     rw [<-nO h];exact aGY bu (opn aI)
   · cases h
 · rename_i s d x
   split at h
   · rename_i u aI
     unfold aa5 at h
     split at h
     · rename_i k m
       split at h
       · rename_i aV bX eP
         have:=m6 aV
         subst this
         rw [<-nO h];exact aGv (A5 hE.oR bX) (A5 hE.oR eP) bu (opn aI)
       · rename_i aV bX eP
         have:=m6 aV
         subst this
         rw [<-nO h];exact aGx (A5 hE.oR bX) (A5 hE.oR eP) bu (opn aI)
       · cases h
     · cases h
   · cases h
 · rename_i t x
   split at h
   · rename_i HW U m rel uQ aI
     have al:=opn aI
     unfold aa7 at h
     split at h
     · rename_i b off cs aV bX
       split at h
       · rename_i u eP
         simp only [Option.some.injEq,Prod.mk.injEq] at h
         obtain ⟨rfl,_,rfl⟩:=h
         obtain ⟨bS,cf,_⟩:=aC
         simp only at bS cf
         subst bS;subst cf
         rw [s4] at aV eP
         exact aGM (aen hE.H_ bX) bu al (adF hs aV rel u eP)
       · cases h
     · rename_i b off cs k aV bX
       split at h
       · rename_i a8
         simp only [Option.some.injEq,Prod.mk.injEq] at h
         obtain ⟨rfl,_,rfl⟩:=h
         obtain ⟨bS,cf,_⟩:=aC
         simp only at bS cf
         subst bS;subst cf
         rw [s4] at aV
         have bc:=aen hE.H_ bX
         have hle:=Nat.le_of_ble_eq_true a8
         refine aGN bc.1 bc.2 (by simp;omega) bu al (fun j u bf=>?_)
         have apP:=adF hs aV
         rw [List.getElem?_take] at bf
         split at bf
         · rw [List.getElem?_drop] at bf
           have:=apP (rel+j) u bf
           simpa [Nat.add_assoc] using this
         · cases bf
       · cases h
     · cases h
   · cases h
 · rename_i s x j
   split at h
   · rename_i b p off aI aV
     rw [<-nO h]
     obtain ⟨hC,f,sz,ln,mb,zJ,zK,ai9⟩:=aiX hE.ph aV
     rw [<-zJ]
     exact aGE ln mb ai9 (by cases bH:Nat.beq sz 0 with | false=>rfl | true=>exact absurd (Nat.eq_of_beq_eq_true bH) zK) bu (opn aI)
   · cases h
 · rename_i x
   split at h
   · rename_i p aI
     rw [<-nO h];exact aGX bu (opn aI)
   · cases h
 · rename_i x i
   split at h
   · rename_i vs aI
     split at h
     · rename_i u aV
       rw [<-nO h]
       rw [s4] at aV
       exact aGD (vs:=vs) bu (opn aI) aV
     · cases h
   · cases h
 · rename_i fn xs ys
   split at h
   · rename_i us vs aI aV
     rw [<-nO h]
     have bS:=Wd I dt hc aI
     have cf:=Wd I dt hc aV
     simp only [cv,execOp,bu,Instr.makeFunc]
     rw [show (Array.map a.eval ⟨xs⟩)=us.toArray by rw [<-bS];simp,show (Array.map a.eval ⟨ys⟩)=vs.toArray by rw [<-cf];simp]
     rfl
   · cases h
 · rename_i x t
   split at h
   · rename_i u aI
     unfold aa6 at h
     split at h
     · split at h
       · rename_i aV
         rw [<-nO h];exact aGK (A5 hE.oR aV) bu (opn aI)
       · cases h
     · split at h
       · rename_i aV
         rw [<-nO h]
         obtain ⟨e,he⟩:=A5 hE.oR aV
         exact aGJ he bu (opn aI)
       · cases h
     · cases h
   · cases h
 · cases h
end
end a5
namespace a5
open Go Go.RowKit J
def QB (ops:Array Oper) (j:Nat):Option Nat:=match nth ops.toList j with
 | some o=>o.dst
 | none=>none
theorem ajg {ops:Array Oper} {j ea:Nat} (h:QB ops j=some ea):(ops[j]?).bind (·.dst)=some ea:=by
 unfold QB at h
 rw [s4,Array.getElem?_toList] at h
 split at h
 · rename_i o bu
   rw [bu];exact h
 · cases h
abbrev af8:=List (Nat × Value) × List iu × List (Nat × Nat)
def ev (G:o3) (ops:Array Oper) (n:Nat) (M:List (Nat × Nat × List Value)):List Oper->List Nat->List (Nat × Value)->List iu->List (Nat × Nat)->Option af8
 | [],_,cz,gs,l=>some (cz,gs,l)
 | o::rest,bc,cz,gs,l=>match o.dst with
   | none=>none
   | some d=>match Nat.blt d n with
     | false=>none
     | true=>match o.guard with
       | none=>match oq G M bc cz gs [] o.op with
         | some (v,dR,l')=>ev G ops n M rest dR ((d,v)::cz) (rS gs d) (l'++l)
         | none=>none
       | some (j,want)=>match QB ops j with
         | none=>none
         | some ea=>match Nat.blt ea n with
           | false=>none
           | true=>match bc with
             | 0 ::dR=>match Nat.beq ea d with
               | true=>none
               | false=>match oq G M dR cz gs [(ea,want)] o.op with
                 | some (v,uQ,l')=>ev G ops n M rest uQ (AX cz d) (⟨d,ea,want,v⟩::rS gs d) (l'++l)
                 | none=>none
             | _::dR=>match hf cz ea with
               | some (.bool b)=>match b == want with
                 | true=>match oq G M dR cz gs [] o.op with
                   | some (v,uQ,l')=>ev G ops n M rest uQ ((d,v)::cz) (rS gs d) (l'++l)
                   | none=>none
                 | false=>ev G ops n M rest dR ((d,undef)::cz) (rS gs d) l
               | some (.tuple ⟨[]⟩)=>ev G ops n M rest dR ((d,undef)::cz) (rS gs d) l
               | _=>none
             | []=>none
def Ca (cz:List (Nat × Value)):List Nat->Option (List (Nat × Value))
 | []=>some []
 | t::r=>match hf cz t,Ca cz r with
   | some v,some vs=>some ((t,v)::vs)
   | _,_=>none
def dup (l:List Nat):List (Nat × Nat):=l.map fun x=>(x,x)
def rb (G:o3) (ops:Array Oper) (n:Nat) (M:List (Nat × Nat × List Value)) (os:List Oper) (bc:List Nat) (cz:List (Nat × Value)) (dX:List Nat):Option (List (Nat × Value) × List (Nat × Nat)):=
 match ev G ops n M os bc cz [] [] with
 | some (fr',_,l)=>match Ca fr' dX with
   | some k=>some (k,l)
   | none=>none
 | none=>none
theorem KH:∀ l:List Nat,oo (dup l)
 | []=>trivial
 | x::r=>⟨rfl,KH r⟩
theorem xJ:∀ {l l':List (Nat × Nat)},oo (l++l')->oo l/\oo l'
 | [],_,h=>⟨trivial,h⟩
 | _::_,_,h=>⟨⟨h.1,(xJ h.2).1⟩,(xJ h.2).2⟩
theorem Qg {cz:List (Nat × Value)}:∀ {dX:List Nat} {k:List (Nat × Value)},Ca cz dX=some k->Io cz k
 | [],k,h=>by simp only [Ca,Option.some.injEq] at h;subst h;trivial
 | t::r,k,h=>by
   simp only [Ca] at h
   split at h
   · rename_i v vs aI aV
     simp only [Option.some.injEq] at h
     subst h
     exact ⟨aI,Qg aV⟩
   · cases h
theorem aD1 {a:Act} {n:h'} {d:Nat} {v:Value} (bc:a.tmps.size=n) (bY:Nat.blt d n=true):(a.put (some d) v).tmps.getD d undef=v:=by
 have ey:d <n:=Nat.le_of_ble_eq_true bY
 simp [Act.put,bc,ey]
theorem L3 {a:Act} {d t:Nat} {v:Value} (h:t≠d):(a.put (some d) v).tmps.getD t undef=a.tmps.getD t undef:=by
 simp only [Act.put,Array.getD_eq_getD_getElem?]
 rw [Array.getElem?_setIfInBounds,if_neg (fun e=>h e.symm)]
theorem xS {a:Act} {d:Nat} {v:Value}:∀ {gs:List iu},nD a gs->nD (a.put (some d) v) (rS gs d)
 | [],_=>trivial
 | p::r,h=>by
   simp only [rS]
   cases a8:Nat.beq p.t d || Nat.beq p.j d with
   | true=>exact xS h.2
   | false=>
     simp only [Bool.or_eq_false_iff] at a8
     have aI:p.t≠d:=fun e=>by rw [e] at a8;simp at a8
     have aV:p.j≠d:=fun e=>by rw [e] at a8;simp at a8
     refine ⟨?_,xS h.2⟩
     rw [L3 aI,L3 aV];exact h.1
theorem V6 {d t:Nat} {v:Value}:∀ {cz:List (Nat × Value)},hf (AX cz d) t=some v->t≠d/\hf cz t=some v
 | [],h=>by simp [AX,hf] at h
 | p::r,h=>by
   simp only [AX] at h
   cases a8:Nat.beq p.1 d with
   | true=>
     rw [a8] at h
     obtain ⟨aI,aV⟩:=V6 h
     refine ⟨aI,?_⟩
     have e:=Nat.eq_of_beq_eq_true a8
     simp only [hf]
     cases hc:Nat.beq p.1 t with
     | true=>exact absurd ((Nat.eq_of_beq_eq_true hc).symm.trans e) aI
     | false=>exact aV
   | false=>
     rw [a8] at h
     simp only [hf] at h ⊢
     cases hc:Nat.beq p.1 t with
     | true=>
       rw [hc] at h
       refine ⟨fun e=>?_,h⟩
       rw [Nat.eq_of_beq_eq_true hc,e] at a8
       simp at a8
     | false=>
       rw [hc] at h
       exact V6 h
theorem Fr.aed {n:h'} {d:Nat} {cz:List (Nat × Value)} {a:Act} {v:Value} (I:Fr n cz a):Fr n (AX cz d) (a.put (some d) v):=
 ⟨by simpa [Act.put] using I.size,I.defers,fun t u h=>by obtain ⟨aI,aV⟩:=V6 h;rw [L3 aI];exact I.get t u aV⟩
def CM:Op->Bool
 | .load _ _=>true
 | _=>false
theorem aiP {G:o3} {M:List (Nat × Nat × List Value)} {bc:List Nat} {cz:List (Nat × Value)} {gs:List iu} {cur:List (Nat × Bool)} {op:Op} (h:CM op=false):oq G M bc cz gs cur op=oq G [] bc cz gs cur op:=by
 cases op with
 | load t x=>simp [CM] at h
 | unOp u t x=>cases u <;> rfl
 | call c=>
   unfold oq
   split <;> first | rfl | (rename_i e;cases e;done) | (rename_i e;cases e;rfl)
 | _=>rfl
theorem Ql {P:Program} {G:o3} {M:List (Nat × Nat × List Value)} {C:World->Prop} {a:Act} {o:Oper} {n:h'} {cz:List (Nat × Value)} {gs:List iu} {cur:List (Nat × Bool)} {bc dR:List Nat} {v:Value} {l:List (Nat × Nat)} (hE:sf P G) (hs:∀ w,C w->mr w M) (I:Fr n cz a) (dt:nD a gs) (hc:uf a cur)
 (h:oq G M bc cz gs cur o.op=some (v,dR,l)) (aC:oo l):(∀ w,C w->cv P o a w v w)/\(CM o.op=false-> ∀ w,cv P o a w v w):=
 ⟨fun w p8=>aa3 hE (hs w p8) I dt hc rfl h aC,fun ai w=>aa3 hE (M:=[]) trivial I dt hc rfl (by rw [<-aiP ai];exact h) aC⟩
theorem aeD {ops:Array Oper} {o:Oper} {a:Act} {n:h'} {l:List (Nat × Value)} {j ea:Nat} {want:Bool} (I:Fr n l a) (dt:o.guard=some (j,want)) (bf:(ops[j]?).bind (·.dst)=some ea) (ai:Nat.blt ea n=true) :
 Region.wanted o (yielded ops a.tmps)=true ↔ a.tmps.getD ea undef= .bool want:=by
 have ey:ea <n:=Nat.le_of_ble_eq_true ai
 have bc:=I.size
 have aV:a.tmps[ea]? =some (a.tmps.getD ea undef):=by
  rw [Array.getElem?_eq_getElem (by omega)]
  simp [Array.getD_eq_getD_getElem?,bc,ey]
 simp only [Region.wanted,dt,yielded,bf,Option.bind_some,aV,beq_iff_eq]
 constructor
 · intro h
   split at h
   · rename_i b a8
     simp only [Option.some.injEq] at h a8
     rw [a8,h]
   · cases h
 · intro h
   rw [h]
def aga (P:Program) (ops:Array Oper) (C:World->Prop) (o:Oper) (d:Nat) (a:Act) (u:Value):Prop:=
 o.dst=some d/\((Region.wanted o (yielded ops a.tmps)=true/\(∀ w,C w->cv P o a w u w)/\(CM o.op=false-> ∀ w,cv P o a w u w))\/(Region.wanted o (yielded ops a.tmps)=false/\u=undef))
section
variable {P:Program} {G:o3} {ops:Array Oper} {n:h'} {M:List (Nat × Nat × List Value)} {C:World->Prop}
theorem Qm (hE:sf P G) (hs:∀ w,C w->mr w M) {o:Oper} {rest:List Oper} {bc:List Nat} {cz:List (Nat × Value)} {gs:List iu} {l na:List (Nat × Nat)} {kq:List (Nat × Value)} {mX:List iu} {a:Act}
 (I:Fr n cz a) (dt:nD a gs) (h:ev G ops n M (o::rest) bc cz gs l=some (kq,mX,na)) (c8:oo na)
 (TC:∀ {os:List Oper} {bc:List Nat} {cz:List (Nat × Value)} {gs:List iu} {l:List (Nat × Nat)},ev G ops n M os bc cz gs l=some (kq,mX,na)->oo l) :
 ∃ d u dR fr' zM l',aga P ops C o d a u/\Fr n fr' (a.put (some d) u)/\nD (a.put (some d) u) zM/\ev G ops n M rest dR fr' zM l'=some (kq,mX,na):=by
 rw [ev] at h
 split at h
 · cases h
 · rename_i d bY
   split at h
   · cases h
   · rename_i ai
     split at h
     · rename_i Aa
       split at h
       · rename_i v dR l' aI
         have he:=(xJ (TC h)).1
         exact ⟨d,v,dR,_,_,_,⟨bY,.inl ⟨Dl Aa,Ql (cur:=[]) hE hs I dt trivial aI he⟩⟩,I.put ai,xS dt,h⟩
       · cases h
     · rename_i j want Aa
       split at h
       · cases h
       · rename_i ea z7
         have GA:=ajg z7
         split at h
         · cases h
         · rename_i x6
           split at h
           · rename_i dR
             split at h
             · cases h
             · rename_i fo
               split at h
               · rename_i v uQ l' aI
                 have he:=(xJ (TC h)).1
                 have G4:ea≠d:=fun e=>by rw [e] at fo;simp at fo
                 by_cases KY:a.tmps.getD ea undef= .bool want
                 · refine ⟨d,v,uQ,_,_,_,⟨bY,.inl ⟨(aeD I Aa GA x6).2 KY,Ql (cur:=[(ea,want)]) hE hs I dt ⟨KY,trivial⟩ aI he⟩⟩,I.aed,(show nD (a.put (some d) v) (⟨d,ea,want,v⟩::rS gs d) from ⟨fun _=>aD1 I.size ai,xS dt⟩),h⟩
                 · refine ⟨d,undef,uQ,_,_,_,⟨bY,.inr ⟨by rw [Bool.eq_false_iff];exact fun hw=>KY ((aeD I Aa GA x6).1 hw),rfl⟩⟩,I.aed,(show nD (a.put (some d) undef) (⟨d,ea,want,v⟩::rS gs d) from ⟨fun al=>?_,xS dt⟩),h⟩
                   simp only at al
                   rw [L3 G4] at al
                   exact absurd al KY
               · cases h
           · rename_i q dR eE
             split at h
             · rename_i b a8
               split at h
               · rename_i uC
                 have uC:b=want:=by simpa using uC
                 subst uC
                 split at h
                 · rename_i v uQ l' aI
                   have he:=(xJ (TC h)).1
                   exact ⟨d,v,uQ,_,_,_,⟨bY,.inl ⟨db I Aa GA a8 x6,Ql (cur:=[]) hE hs I dt trivial aI he⟩⟩,I.put ai,xS dt,h⟩
                 · cases h
               · rename_i uC
                 exact ⟨d,undef,dR,_,_,_,⟨bY,.inr ⟨aFz I Aa GA a8 uC x6,rfl⟩⟩,I.put ai,xS dt,h⟩
             · rename_i a8
               exact ⟨d,undef,dR,_,_,_,⟨bY,.inr ⟨aFA I Aa GA a8 x6,rfl⟩⟩,I.put ai,xS dt,h⟩
             · cases h
           · cases h
theorem xL {kq:List (Nat × Value)} {mX:List iu} {na:List (Nat × Nat)} (c8:oo na):∀ {os:List Oper} {bc:List Nat} {cz:List (Nat × Value)} {gs:List iu} {l:List (Nat × Nat)},ev G ops n M os bc cz gs l=some (kq,mX,na)->oo l
 | [],bc,cz,gs,l,h=>by
   simp only [ev,Option.some.injEq,Prod.mk.injEq] at h
   rw [h.2.2];exact c8
 | o::rest,bc,cz,gs,l,h=>by
   rw [ev] at h
   split at h
   · cases h
   · split at h
     · cases h
     · split at h
       · split at h
         · exact (xJ (xL c8 h)).2
         · cases h
       · split at h
         · cases h
         · split at h
           · cases h
           · split at h
             · split at h
               · cases h
               · split at h
                 · exact (xJ (xL c8 h)).2
                 · cases h
             · split at h
               · split at h
                 · split at h
                   · exact (xJ (xL c8 h)).2
                   · cases h
                 · exact xL c8 h
               · exact xL c8 h
               · cases h
             · cases h
theorem aeo {w:World} {Q:Exit->Act->World->Prop} (hE:sf P G) (hs:mr w M) {kq:List (Nat × Value)} {mX:List iu} {na:List (Nat × Nat)} (c8:oo na):∀ (k:Nat) {rest:List Oper} {bc:List Nat} {cz:List (Nat × Value)} {gs:List iu} {l:List (Nat × Nat)} {a:Act},
 Fr n cz a->nD a gs->ev G ops n M (rest.take k) bc cz gs l=some (kq,mX,na)->(∀ b2,Fr n kq b2->wpList P ops Q (rest.drop k) b2 w)->wpList P ops Q rest a w
 | 0,rest,bc,cz,gs,l,a,I,_,h,bi=>by
   simp only [List.take_zero,ev,Option.some.injEq,Prod.mk.injEq] at h
   have:=bi a (by rw [<-h.1];exact I)
   simpa using this
 | k+ 1,[],bc,cz,gs,l,a,I,_,h,bi=>by
   simp only [List.take_nil,ev,Option.some.injEq,Prod.mk.injEq] at h
   have:=bi a (by rw [<-h.1];exact I)
   simpa using this
 | k+ 1,o::rest,bc,cz,gs,l,a,I,dt,h,bi=>by
   rw [List.take_succ_cons] at h
   obtain ⟨d,u,dR,fr',zM,l',⟨bY,x'⟩,fB,z',dU⟩:=Qm (C:=fun aJ=>aJ=w) hE (fun aJ e=>by subst e;exact hs) I dt h c8 (xL c8)
   have next:=aeo hE hs c8 k fB z' dU (by simpa using bi)
   refine wpList_step fun K i_=>?_
   rcases x' with ⟨hw,hy,_⟩ | ⟨hw,rfl⟩
   · rw [if_pos hw]
     unfold Oper.wp
     rw [show (execOp a.eval o).run P w=_ from hy w rfl]
     show K (a.put o.dst u) w
     rw [bY]
     exact i_ _ _ next
   · rw [if_neg (by simp [hw]),bY]
     exact i_ _ _ next
theorem adY {qX:Act->Prop} (hE:sf P G) (hs:∀ w,C w->mr w M) {kq:List (Nat × Value)} {mX:List iu} {na:List (Nat × Nat)} (c8:oo na):∀ (k:Nat) {rest:List Oper} {bc:List Nat} {cz:List (Nat × Value)} {gs:List iu} {l:List (Nat × Nat)} {a:Act},
 Fr n cz a->nD a gs->ev G ops n M (rest.take k) bc cz gs l=some (kq,mX,na)->(∀ b2,Fr n kq b2->wpQuiet P ops C qX (rest.drop k) b2)->wpQuiet P ops C qX rest a
 | 0,rest,bc,cz,gs,l,a,I,_,h,bi=>by
   simp only [List.take_zero,ev,Option.some.injEq,Prod.mk.injEq] at h
   have:=bi a (by rw [<-h.1];exact I)
   simpa using this
 | k+ 1,[],bc,cz,gs,l,a,I,_,h,bi=>by
   simp only [List.take_nil,ev,Option.some.injEq,Prod.mk.injEq] at h
   have:=bi a (by rw [<-h.1];exact I)
   simpa using this
 | k+ 1,o::rest,bc,cz,gs,l,a,I,dt,h,bi=>by
   rw [List.take_succ_cons] at h
   obtain ⟨d,u,dR,fr',zM,l',⟨bY,x'⟩,fB,z',dU⟩:=Qm (C:=C) hE hs I dt h c8 (xL c8)
   have next:=adY hE hs c8 k fB z' dU (by simpa using bi)
   unfold wpQuiet
   rcases x' with ⟨hw,hy,_⟩ | ⟨hw,rfl⟩
   · rw [if_pos hw]
     refine ⟨u,fun w hc=>?_,?_⟩
     · unfold Oper.quietAt
       rw [show (execOp a.eval o).run P w=_ from hy w hc]
       exact ⟨rfl,rfl⟩
     · rw [bY];exact next
   · rw [if_neg (by simp [hw]),bY]
     exact next
theorem Qn {os:List Oper} {bc:List Nat} {cz:List (Nat × Value)} {dX:List Nat} {k:List (Nat × Value)} {L:List (Nat × Nat)} (h:rb G ops n M os bc cz dX=some (k,L)):∃ kq mX,ev G ops n M os bc cz [] []=some (kq,mX,L)/\Io kq k:=by
 unfold rb at h
 split at h
 · rename_i fr' zM l aI
   split at h
   · rename_i k' aV
     simp only [Option.some.injEq,Prod.mk.injEq] at h
     obtain ⟨rfl,rfl⟩:=h
     exact ⟨fr',zM,aI,Qg aV⟩
   · cases h
 · cases h
theorem jP (k:Nat) (dX bc:List Nat) {w:World} {Q:Exit->Act->World->Prop} {rest:List Oper} {cz fr':List (Nat × Value)} {L:List Nat} {a:Act} (hE:sf P G) (hs:mr w M) (I:Fr n cz a) (he:rb G ops n M (rest.take k) bc cz dX=some (fr',dup L))
 (next:∀ b2,Fr n fr' b2->wpList P ops Q (rest.drop k) b2 w):wpList P ops Q rest a w:=by
 obtain ⟨kq,mX,aI,aV⟩:=Qn he
 exact aeo (gs:=[]) hE hs (KH L) k I trivial aI fun b2 fB=>next b2 (fB.sub aV)
theorem aD9 (k:Nat) (dX bc:List Nat) {qX:Act->Prop} {rest:List Oper} {cz fr':List (Nat × Value)} {L:List Nat} {a:Act} (hE:sf P G) (hs:∀ w,C w->mr w M) (I:Fr n cz a) (he:rb G ops n M (rest.take k) bc cz dX=some (fr',dup L))
 (next:∀ b2,Fr n fr' b2->wpQuiet P ops C qX (rest.drop k) b2):wpQuiet P ops C qX rest a:=by
 obtain ⟨kq,mX,aI,aV⟩:=Qn he
 exact adY (gs:=[]) hE hs (KH L) k I trivial aI fun b2 fB=>next b2 (fB.sub aV)
end
def CL:List Nat->Nat->Bool
 | [],_=>false
 | i::r,j=>Nat.beq i j || CL r j
section
variable {P:Program} {ops:Array Oper} {Q:Exit->Act->World->Prop} {md:Region.Mode} {S:World->Prop} {p:Nat}
def vN (P:Program) (md:Region.Mode) (ops:Array Oper) (Q:Exit->Act->World->Prop) (p:Nat) (S:World->Prop):Nat->Array Bool->Act->World->Prop
 | 0,listed,a,w=>Region.ready md ops listed= []/\Q .normal a w
 | jW+ 1,listed,a,w=>
   (Region.ready md ops listed= []->Q .normal a w) /\
   ∀ i ∈ Region.ready md ops listed,wpOp P ops Q i (fun b2 aJ=>((listed.setIfInBounds i true).getD p false=false->S aJ)/\vN P md ops Q p S jW (listed.setIfInBounds i true) b2 aJ) a w
theorem aeK:∀ (jW:Nat) (listed:Array Bool) (a:Act) (w:World),vN P md ops Q p S jW listed a w->wpAny P md ops Q jW listed a w
 | 0,_,_,_,h=>h
 | jW+ 1,_,_,_,h=>⟨h.1,fun i hi=>wpOp_mono (fun b2 aJ dU=>aeK jW _ b2 aJ dU.2) (h.2 i hi)⟩
theorem aek {CS:Array Bool} {i p:Nat} (h:CS.getD p false=true):(CS.setIfInBounds i true).getD p false=true:=by
 simp only [Array.getD_eq_getD_getElem?,Array.getElem?_setIfInBounds] at h ⊢
 split
 · rename_i e
   subst e
   split
   · rfl
   · rename_i ey
     rw [Array.getElem?_eq_none (by omega)] at h
     cases h
 · exact h
theorem aeJ {HU:Nat} {Pk:World->Prop}:∀ (jW:Nat) (listed:Array Bool) (a:Act) (w:World),listed.getD p false=true->vN P md ops Q HU Pk jW listed a w->vN P md ops Q p S jW listed a w
 | 0,_,_,_,_,h=>h
 | jW+ 1,_,_,_,b9,h=>⟨h.1,fun i hi=>wpOp_mono (fun b2 aJ dU=>⟨fun I=>absurd ((aek b9).symm.trans I) (by simp),aeJ jW _ b2 aJ (aek b9) dU.2⟩) (h.2 i hi)⟩
def xF:List Oper->Nat->Nat->List Nat->List Nat
 | [],_,_,acc=>acc
 | o::r,k,i,acc=>xF r (k+ 1) i (match o.after.toList.any fun e=>Region.binds .any e && (Nat.beq e.on i || CL acc e.on) with | true=>k::acc | false=>acc)
theorem acN {l:List Nat} {j:Nat} (h:CL l j=true):j ∈ l:=by
 induction l with
 | nil=>simp [CL] at h
 | cons i r cA=>
   simp only [CL,Bool.or_eq_true] at h
   rcases h with h | h
   · rw [Nat.eq_of_beq_eq_true h];simp
   · exact List.mem_cons_of_mem _ (cA h)
def JP (ops:Array Oper) (i:Nat) (xd:List Nat):Prop:=∀ u ∈ xd,∃ o,ops[u]? =some o/\ ∃ e ∈ o.after,Region.binds .any e=true/\(e.on=i\/e.on ∈ xd)
theorem aaP {ops:Array Oper} {i:Nat}:∀ {l:List Oper} {k:Nat} {acc:List Nat},(∀ m o,l[m]? =some o->ops[k+m]? =some o)->JP ops i acc->JP ops i (xF l k i acc)
 | [],_,_,_,h=>h
 | o::r,k,acc,aC,h=>by
   rw [xF]
   refine aaP (fun m mC hm=>by have:=aC (m+ 1) mC (by simpa using hm);rwa [show k+(m+ 1)=k+ 1 +m by omega] at this) ?_
   split
   · rename_i a8
     intro u hu
     rcases List.mem_cons.1 hu with rfl | hu
     · simp only [List.any_eq_true,Bool.and_eq_true,Bool.or_eq_true] at a8
       obtain ⟨e,he,aI,aV⟩:=a8
       refine ⟨o,by simpa using aC 0 o rfl,e,by simpa using he,aI,?_⟩
       rcases aV with aV | aV
       · exact .inl (Nat.eq_of_beq_eq_true aV)
       · exact .inr (List.mem_cons_of_mem _ (acN aV))
     · obtain ⟨mC,G6,e,he,aI,aV⟩:=h u hu
       exact ⟨mC,G6,e,he,aI,aV.imp id (List.mem_cons_of_mem _)⟩
   · exact h
def XH (ops:Array Oper) (p i:Nat) (ds:List Nat):Bool:=(match nth ops.toList p with
 | none=>true
 | some _=>CL (xF ops.toList 0 i []) p) && (xF ops.toList 0 i []).all fun u=>!(i' ops.size ds).getD u false
theorem XI {ops:Array Oper} {p i:Nat} {ds:List Nat} (h:XH ops p i ds=true):JP ops i (xF ops.toList 0 i [])/\(ops[p]? =none\/p ∈ xF ops.toList 0 i [])/\ ∀ u ∈ xF ops.toList 0 i [],(i' ops.size ds).getD u false=false:=by
 unfold XH at h
 rw [Bool.and_eq_true] at h
 refine ⟨aaP (fun m o hm=>by simpa using hm) (fun u hu=>by simp at hu),?_,fun u hu=>?_⟩
 · have aI:=h.1
   rw [s4,Array.getElem?_toList] at aI
   split at aI
   · rename_i ai;exact .inl ai
   · exact .inr (acN aI)
 · have:=List.all_eq_true.1 h.2 u hu
   simpa using this
theorem aFD {i:Nat} {aH:Oper} {v:Value} (hi:ops[i]? =some aH) (Hh:∀ (j:Nat) (o:Oper) cs b,ops[j]? =some o->o.op≠ .select cs b) (uO:p≠i)
 (hd:∀ c a w,Q (.panic c) (a.put aH.dst v) w->Q (.panic c) a w) {xd:List Nat} (amN:JP ops i xd) (axP:ops[p]? =none\/p ∈ xd) :
 ∀ (jW:Nat) (listed:Array Bool) (a:Act) (w:World),
   (∀ j k6,ops[j]? =some k6->j≠i->listed.getD j true=false->(∀ e ∈ k6.after,Region.binds .any e=true->e.on≠i)->aH.apart ops k6=true) ->
   listed.getD p false=false->(∀ u ∈ xd,listed.getD u false=false)->i ∈ Region.ready .any ops listed->YieldsIf P ops S aH v a->S w ->
   vN P .any ops Q p S jW (listed.setIfInBounds i true) (a.put aH.dst v) w->vN P .any ops Q p S (jW+ 1) listed a w:=by
 intro jW
 induction jW with
 | zero=>
   intro listed a w _ _ _ b5 hy jY H
   refine ⟨fun h=>(by rw [h] at b5;cases b5),fun j bf=>?_⟩
   by_cases ka:j=i
   · subst ka;exact hy.wpOp hi jY ⟨fun _=>jY,H⟩
   · have:=ready_mono bf ka
     rw [H.1] at this
     cases this
 | succ jW cA=>
   intro listed a w GF sJ ya b5 hy jY H
   refine ⟨fun h=>(by rw [h] at b5;cases b5),fun j bf=>?_⟩
   by_cases ka:j=i
   · subst ka;exact hy.wpOp hi jY ⟨fun _=>jY,H⟩
   · have aI:=H.2 j (ready_mono bf ka)
     obtain ⟨G0,k6,uN,ps⟩:=mem_ready.1 bf
     have Al:∀ e ∈ k6.after,Region.binds .any e=true->e.on≠i:=fun e he a8 heq=>by
      have aI:=ps e he a8
      have bH:=(mem_ready.1 b5).1
      rw [heq] at aI
      rcases Nat.lt_or_ge i listed.size with dU | dU
      · simp [dU] at bH aI;rw [bH] at aI;cases aI
      · simp [Array.getElem?_eq_none dU] at aI
     have ab7:j ∉ xd:=fun Tx=>by
      obtain ⟨mC,G6,e,he,a8,aV⟩:=amN j Tx
      rw [uN] at G6
      simp only [Option.some.injEq] at G6
      subst G6
      rcases aV with aV | aV
      · exact Al e he a8 aV
      · have bX:=ps e he a8
        rw [ya _ aV] at bX
        cases bX
     have ab8:j≠p:=fun e=>by
      subst e
      rcases axP with h | h
      · rw [uN] at h;cases h
      · exact ab7 h
     have azR:∀ u ∈ xd,(listed.setIfInBounds j true).getD u false=false:=fun u hu=>by
      have:=ya u hu
      have fo:j≠u:=fun e=>ab7 (e ▸ hu)
      simp only [Array.getD_eq_getD_getElem?,Array.getElem?_setIfInBounds,if_neg fo] at this ⊢
      exact this
     have TJ:(listed.setIfInBounds j true).getD p false=false:=by
      simp only [Array.getD_eq_getD_getElem?,Array.getElem?_setIfInBounds,if_neg ab8] at sJ ⊢
      exact sJ
     have aca:((listed.setIfInBounds i true).setIfInBounds j true).getD p false=false:=by
      simp only [Array.getD_eq_getD_getElem?,Array.getElem?_setIfInBounds,if_neg ab8,if_neg (Ne.symm uO)] at sJ ⊢
      exact sJ
     have aV:=wpOp_putIf uN (GF j k6 uN ka G0 Al) (fun cs b=>Hh i aH cs b hi) (fun cs b=>Hh j k6 cs b uN) hd hy aI
     have RC:∀ k ok,ops[k]? =some ok->k≠i->(listed.setIfInBounds j true).getD k true=false ->
      (∀ e ∈ ok.after,Region.binds .any e=true->e.on≠i)->aH.apart ops ok=true:=fun k ok bi Ty ya pB=>by
      refine GF k ok bi Ty ?_ pB
      by_cases Ah:j=k
      · subst Ah;exact G0
      · rw [getD_set_ne true Ah] at ya;exact ya
     refine wpOp_mono (fun b2 aJ bX=>⟨fun _=>bX.2.1 aca,cA (listed.setIfInBounds j true) b2 aJ RC TJ azR (ready_mono b5 (Ne.symm ka)) bX.1 (bX.2.1 aca) ?_⟩) aV
     rw [Array.setIfInBounds_comm _ _ ka]
     exact bX.2.2
theorem aeI {i:Nat} {aH:Oper} {v:Value} (hi:ops[i]? =some aH) (Hh:∀ (j:Nat) (o:Oper) cs b,ops[j]? =some o->o.op≠ .select cs b) (uO:p≠i)
 (hd:∀ c a w,Q (.panic c) (a.put aH.dst v) w->Q (.panic c) a w) :
 ∀ (jW:Nat) (listed:Array Bool) (a:Act) (w:World),
   (∀ j k6,ops[j]? =some k6->j≠i->listed.getD j true=false->(∀ e ∈ k6.after,Region.binds .any e=true->e.on≠i)->aH.apart ops k6=true) ->
   (listed.getD p false=false->S w)->i ∈ Region.ready .any ops listed->YieldsIf P ops (fun _=>True) aH v a ->
   vN P .any ops Q p S jW (listed.setIfInBounds i true) (a.put aH.dst v) w->vN P .any ops Q p S (jW+ 1) listed a w:=by
 have Hj:∀ (CS:Array Bool) (b:Bool),(CS.setIfInBounds i true).getD p b=CS.getD p b:=fun CS b=>by
  simp only [Array.getD_eq_getD_getElem?,Array.getElem?_setIfInBounds,if_neg (Ne.symm uO)]
 intro jW
 induction jW with
 | zero=>
   intro listed a w _ jY b5 hy H
   refine ⟨fun h=>(by rw [h] at b5;cases b5),fun j bf=>?_⟩
   by_cases ka:j=i
   · subst ka;exact hy.wpOp hi trivial ⟨fun h=>jY (by rwa [Hj] at h),H⟩
   · have:=ready_mono bf ka
     rw [H.1] at this
     cases this
 | succ jW cA=>
   intro listed a w GF jY b5 hy H
   refine ⟨fun h=>(by rw [h] at b5;cases b5),fun j bf=>?_⟩
   by_cases ka:j=i
   · subst ka;exact hy.wpOp hi trivial ⟨fun h=>jY (by rwa [Hj] at h),H⟩
   · have aI:=H.2 j (ready_mono bf ka)
     obtain ⟨G0,k6,uN,ps⟩:=mem_ready.1 bf
     have Al:∀ e ∈ k6.after,Region.binds .any e=true->e.on≠i:=fun e he a8 heq=>by
      have aI:=ps e he a8
      have bH:=(mem_ready.1 b5).1
      rw [heq] at aI
      rcases Nat.lt_or_ge i listed.size with dU | dU
      · simp [dU] at bH aI;rw [bH] at aI;cases aI
      · simp [Array.getElem?_eq_none dU] at aI
     have aV:=wpOp_putIf uN (GF j k6 uN ka G0 Al) (fun cs b=>Hh i aH cs b hi) (fun cs b=>Hh j k6 cs b uN) hd hy aI
     have RC:∀ k ok,ops[k]? =some ok->k≠i->(listed.setIfInBounds j true).getD k true=false ->
      (∀ e ∈ ok.after,Region.binds .any e=true->e.on≠i)->aH.apart ops ok=true:=fun k ok bi Ty ya pB=>by
      refine GF k ok bi Ty ?_ pB
      by_cases Ah:j=k
      · subst Ah;exact G0
      · rw [getD_set_ne true Ah] at ya;exact ya
     have abu:∀ aJ,(((listed.setIfInBounds i true).setIfInBounds j true).getD p false=false->S aJ)->(listed.setIfInBounds j true).getD p false=false->S aJ:=fun aJ al x7=>
      al (by rw [Array.setIfInBounds_comm _ _ (Ne.symm ka),Hj];exact x7)
     refine wpOp_mono (fun b2 aJ bX=>⟨abu aJ bX.2.1,cA (listed.setIfInBounds j true) b2 aJ RC (abu aJ bX.2.1) (ready_mono b5 (Ne.symm ka)) bX.1 ?_⟩) aV
     rw [Array.setIfInBounds_comm _ _ ka]
     exact bX.2.2
end
def e2 (P:Program) (ops:Array Oper) (Q:Exit->Act->World->Prop) (p:Nat) (S:World->Prop) (f:Nat) (ds:List Nat) (a:Act) (w:World):Prop:=((i' ops.size ds).getD p false=false->S w)/\vN P .any ops (NoPanic Q) p S f (i' ops.size ds) a w
def HX (ops:List Oper):List Nat->Option (List Oper)
 | []=>some []
 | i::r=>match nth ops i,HX ops r with
   | some o,some os=>some (o::os)
   | _,_=>none
def adO (ops:Array Oper) (i:Nat):Bool:=match nth ops.toList i with
 | some o=>!CM o.op
 | none=>false
def MK (ops:Array Oper) (p:Nat):List Nat->List Nat->Bool
 | _,[]=>true
 | ds,i::r=>MJ ops ds i && (XH ops p i ds || adO ops i) && !Nat.beq p i && MK ops p (i::ds) r
def Xm:List Nat->List Nat->List Nat
 | [],ds=>ds
 | i::r,ds=>Xm r (i::ds)
section
variable {P:Program} {G:o3} {ops:Array Oper} {n:h'} {M:List (Nat × Nat × List Value)} {S:World->Prop} {Q:Exit->Act->World->Prop} {a:Act} {w:World} {f p:Nat} {ds:List Nat}
theorem aDz (i:Nat):i' ops.size (i::ds)=(i' ops.size ds).setIfInBounds i true:=rfl
theorem e2.wpAny (h:e2 P ops Q p S f ds a w):Go.wpAny P .any ops (NoPanic Q) f (i' ops.size ds) a w:=aeK f _ a w h.2
theorem ix {id m:Nat} {lo:List Oper} (p:Nat) (S:World->World->Prop) (hm:P.follows .mixedOrders=true) (aC:Nat.beq lo.length m=true) (h:∀ aJ,bg [] w aJ->e2 P lo.toArray Q p (S aJ) m [] a aJ):(Code.region id lo.toArray true).wp P Q a w:=by
 have aC:=Nat.eq_of_beq_eq_true aC
 subst aC
 exact wp_region_noPanic (wp_region_any hm (h _ (bg.drew [] w)).wpAny)
theorem fS (hc:(Region.ready .any ops (i' ops.size ds)).isEmpty=true) (h:Q .normal a w) (jY:(i' ops.size ds).getD p false=false->S w):e2 P ops Q p S f ds a w:=by
 refine ⟨jY,?_⟩
 have b5:=List.isEmpty_iff.1 hc
 cases f with
 | zero=>exact ⟨b5,NoPanic.normal h⟩
 | succ f=>exact ⟨fun _=>NoPanic.normal h,by rw [b5];simp⟩
theorem e2.next (HU:Nat) (Pk:World->Prop) (b9:(i' ops.size ds).getD p false=true) (h:e2 P ops Q HU Pk f ds a w):e2 P ops Q p S f ds a w:=
 ⟨fun I=>absurd (b9.symm.trans I) (by simp),aeJ f _ a w b9 h.2⟩
theorem Y9 (hE:sf P G) (hs:∀ w,S w->mr w M) (uw:S w) {kq:List (Nat × Value)} {mX:List iu} {na:List (Nat × Nat)} (c8:oo na):∀ (is:List Nat) {os:List Oper} {bc ds:List Nat} {cz:List (Nat × Value)} {gs:List iu} {l:List (Nat × Nat)} {a:Act},
 (i' ops.size ds).getD p false=false->HX ops.toList is=some os->MK ops p ds is=true->Fr n cz a->nD a gs->ev G ops n M os bc cz gs l=some (kq,mX,na)->(∀ b2,Fr n kq b2->e2 P ops Q p S f (Xm is ds) b2 w)->e2 P ops Q p S (f+is.length) ds a w
 | [],os,bc,ds,cz,gs,l,a,_,bu,_,I,_,h,bi=>by
   simp only [HX,Option.some.injEq] at bu
   subst bu
   simp only [ev,Option.some.injEq,Prod.mk.injEq] at h
   exact bi a (by rw [<-h.1];exact I)
 | i::is,os,bc,ds,cz,gs,l,a,sJ,bu,bV,I,dt,h,bi=>by
   simp only [HX] at bu
   split at bu
   · rename_i o aIp aI aV
     simp only [Option.some.injEq] at bu
     subst bu
     rw [s4,Array.getElem?_toList] at aI
     simp only [MK,Bool.and_eq_true,Bool.not_eq_true'] at bV
     obtain ⟨⟨⟨qf,yc⟩,uO⟩,azQ⟩:=bV
     have G7:p≠i:=fun e=>by rw [e] at uO;simp at uO
     obtain ⟨d,u,dR,fr',zM,l',⟨bY,x'⟩,fB,z',dU⟩:=Qm (C:=S) hE hs I dt h c8 (xL c8)
     have TJ:(i' ops.size (i::ds)).getD p false=false:=by
      rw [aDz]
      simp only [Array.getD_eq_getD_getElem?,Array.getElem?_setIfInBounds,if_neg (Ne.symm G7)] at sJ ⊢
      exact sJ
     have next:=Y9 hE hs uw c8 is TJ aV azQ fB z' dU bi
     simp only [MJ,Bool.and_eq_true] at qf
     refine ⟨fun _=>uw,?_⟩
     have:=next.2
     rw [show f+(i::is).length=f+is.length+ 1 by simp [Nat.add_assoc]]
     rw [Bool.or_eq_true] at yc
     rcases yc with yc | TE
     · refine aFD (v:=u) aI (Region.noSelect_spec qf.1.1) G7 (fun c a w h=>h) (XI yc).1 (XI yc).2.1 (f+is.length) _ a w (Region.free_spec aI qf.1.2) sJ (XI yc).2.2 (by simpa using qf.2) (x'.imp (fun ⟨x,y,_⟩=>⟨x,y⟩) id) uw ?_
       rw [bY]
       exact this
     · have axJ:CM o.op=false:=by
        unfold adO at TE
        rw [s4,Array.getElem?_toList,aI] at TE
        simpa using TE
       refine aeI (v:=u) aI (Region.noSelect_spec qf.1.1) G7 (fun c a w h=>h) (f+is.length) _ a w (Region.free_spec aI qf.1.2) (fun _=>uw) (by simpa using qf.2) (x'.imp (fun ⟨x,_,y⟩=>⟨x,fun w _=>y axJ w⟩) id) ?_
       rw [bY]
       exact this
   · cases bu
theorem cx (is:List Nat) (k:Nat) (dX bc:List Nat) {os:List Oper} {cz fr':List (Nat × Value)} {L:List Nat} (hE:sf P G) (hs:∀ w,S w->mr w M) (I:Fr n cz a) (bi:Nat.beq is.length k=true) (sJ:(i' ops.size ds).getD p false=false) (hi:HX ops.toList is=some os) (bV:MK ops p ds is=true)
 (he:rb G ops n M os bc cz dX=some (fr',dup L)) (uw:S w) (next:∀ b2,Fr n fr' b2->e2 P ops Q p S f (Xm is ds) b2 w):e2 P ops Q p S (f+k) ds a w:=by
 have bi:=Nat.eq_of_beq_eq_true bi
 subst bi
 obtain ⟨kq,mX,aI,aV⟩:=Qn he
 exact Y9 (gs:=[]) hE hs uw (KH L) is sJ hi bV I trivial aI fun b2 fB=>next b2 (fB.sub aV)
theorem dk (i:Nat) {o:Oper} (hi:ops[i]? =some o) (hc:(Region.ready .any ops (i' ops.size ds) == [i])=true) (jY:(i' ops.size ds).getD p false=false->S w) (h:wpList P ops (BG (e2 P ops Q p S f (i::ds)) (NoPanic Q)) [o] a w):e2 P ops Q p S (f+ 1) ds a w:=by
 have b5:=eq_of_beq hc
 refine ⟨jY,⟨fun bH=>(by rw [b5] at bH;cases bH),fun j bf=>?_⟩⟩
 rw [b5] at bf
 have:j=i:=by simpa using bf
 subst this
 exact XJ hi h
theorem Y6 (i j:Nat) {o mC:Oper} (hi:ops[i]? =some o) (bf:ops[j]? =some mC) (hc:(Region.ready .any ops (i' ops.size ds) == [i,j])=true) (jY:(i' ops.size ds).getD p false=false->S w) (h:wpList P ops (BG (e2 P ops Q p S f (i::ds)) (NoPanic Q)) [o] a w)
 (dU:wpList P ops (BG (e2 P ops Q p S f (j::ds)) (NoPanic Q)) [mC] a w):e2 P ops Q p S (f+ 1) ds a w:=by
 have b5:=eq_of_beq hc
 refine ⟨jY,⟨fun bH=>(by rw [b5] at bH;cases bH),fun q eE=>?_⟩⟩
 rw [b5] at eE
 have:q=i\/q=j:=by simpa using eE
 rcases this with rfl | rfl
 · exact XJ hi h
 · exact XJ bf dU
theorem c9 (h:e2 P ops Q p S f ds a w):wpList P ops (BG (e2 P ops Q p S f ds) (NoPanic Q)) [] a w:=h
end
end a5
namespace a5
open Go Go.RowKit J
theorem Pu (p q:List UInt8):((⟨⟨p⟩⟩:ByteArray) == ⟨⟨q⟩⟩)=decide (p=q):=by
 show ((⟨p⟩:Array UInt8) == ⟨q⟩)=_
 rw [Bool.eq_iff_iff];simp
structure tw (κ:Type) [DecidableEq κ] where
 enc:κ->Value
 desc:TypeDesc
 same:∀ a b,Instr.sameNow desc (enc a) (enc b)=some (decide (b=a))
 bits:∀ a,Instr.sameBits 10000 (enc a) (enc a)=true
 check:∀ (P:Program) (w:World) (e:Bool) (t:TypeId) (a:κ),P.underlying t=some desc->(Instr.checkKey e 10000 t (enc a)).run P w= .ok () w
def fC:tw Int where
 enc n:=.int .i64 n
 desc:=.int .i64
 same a b:=by
  simp only [Instr.sameNow,if_true,Option.some.injEq]
  rw [Bool.eq_iff_iff]
  simp only [beq_iff_eq,decide_eq_true_iff]
  exact eq_comm
 bits a:=by
  have h:∀ n,Instr.sameBits n (.int .i64 a) (.int .i64 a)=true:=fun n=>by cases n <;> simp [Instr.sameBits]
  exact h 10000
 check P w e t a h:=by
  have dU:∀ n:Nat,(Instr.checkKey e (n+ 1) t (.int .i64 a)).run P w= .ok () w:=fun n=>by simp [Instr.checkKey,run_underlying h]
  exact dU 9999
def dA:tw (List UInt8) where
 enc s:=ak s
 desc:=.string
 same a b:=by
  simp only [Instr.sameNow,Option.some.injEq]
  have e:decide (a=b)=decide (b=a):=by rw [decide_eq_decide];exact eq_comm
  exact (Pu a b).trans e
 bits a:=by
  have h:∀ n,Instr.sameBits n (ak a) (ak a)=true:=fun n=>by
   have e:((⟨⟨a⟩⟩:ByteArray) == ⟨⟨a⟩⟩)=true:=(Pu a a).trans (by simp)
   cases n <;> (simp only [Instr.sameBits];exact e)
  exact h 10000
 check P w e t a h:=by
  have dU:∀ n:Nat,(Instr.checkKey e (n+ 1) t (ak a)).run P w= .ok () w:=fun n=>by simp [Instr.checkKey,run_underlying h]
  exact dU 9999
section
variable {κ β:Type} [DecidableEq κ] (K:tw κ) (ev:β->Value)
def jQ (es:List MapEntry) (d:List (κ × β)):Prop:=es.map (fun e=>(e.key,e.val))=d.map (fun p=>(K.enc p.1,ev p.2))
def sg (w:World) (r:Nat) (d:List (κ × β)):Prop:=∃ es clock,w.heap[r]? =some (.map es clock)/\jQ K ev es.toList d/\(es.toList.map (·.born)).Pairwise (· < ·)/\ ∀ e ∈ es.toList,e.born <clock
def au.map (r:Nat) (d:List (κ × β)):au where
 gw:=[r]
 ok w:=sg K ev w r d
 law w aJ h bi:=by
  obtain ⟨es,c,aI,aV⟩:=bi
  exact ⟨es,c,(h r (by simp)).trans aI,aV⟩
def ap.map (r:Nat) (d:List (κ × β)):ap where
 ok M w:=r ∉ M/\r <w.heap.size/\sg K ev w r d
 law M jR w aJ ah hm h:=by
  obtain ⟨aI,aV,es,c,bX,eP⟩:=h
  exact ⟨fun al=>by rcases hm r al with e | e;exact aI e;omega,Nat.lt_of_lt_of_le aV ah.size,es,c,(ah.block r aV aI).trans bX,eP⟩
end
section
variable {κ β:Type} [DecidableEq κ] {K:tw κ} {ev:β->Value}
theorem aa' {k:κ}:∀ {es:List MapEntry} {d:List (κ × β)} (i:Nat),jQ K ev es d->Instr.findNow K.desc (K.enc k) es i=some ((lS d k).bind fun p=>(dr d k).map fun v=>(i+p,ev v))
 | [],[],i,_=>rfl
 | [],_::_,_,h=>by simp [jQ] at h
 | _::_,[],_,h=>by simp [jQ] at h
 | e::es,p::d,i,h=>by
   simp only [jQ,List.map_cons,List.cons.injEq,Prod.mk.injEq] at h
   obtain ⟨⟨aI,aV⟩,bX⟩:=h
   simp only [Instr.findNow,aI,K.same,lS,dr]
   by_cases b9:p.1 =k
   · simp [b9,aV]
   · simp only [b9,decide_false,if_false]
     rw [aa' (i+ 1) bX]
     cases hm:lS d k with
     | none=>rfl
     | some q=>simp only [Option.bind_some,Option.map_some];rw [show i+ 1 +q=i+(q+ 1) by omega]
theorem LU {k:κ}:∀ {d:List (κ × β)},(lS d k).isSome=(dr d k).isSome
 | []=>rfl
 | p::d=>by
   simp only [lS,dr]
   by_cases b9:p.1 =k
   · simp [b9]
   · simp [b9,LU]
variable {P:Program} {o:Oper} {a:Act} {w:World} {x y z:Operand} {t m8 xK:TypeId} {r:Nat} {d:List (κ × β)} {k:κ} {v:β}
theorem run_findKey {es:Array MapEntry} (bi:P.underlying m8=some K.desc) (he:jQ K ev es.toList d):(Instr.findKey m8 (K.enc k) es.toList).run P w= .ok ((lS d k).bind fun p=>(dr d k).map fun v=>(p,ev v)) w:=by
 have h:=aa' (k:=k) 0 he
 simp only [Nat.zero_add] at h
 simp only [Instr.findKey,Sem.run_bind,run_underlying bi,Result.andThen_ok,h]
 rfl
theorem aGP (bu:o.op= .makeMap t none):cv P o a w (.map (some w.heap.size)) (w.alloc (.map #[] 0)):=by
 simp only [cv,execOp,bu,Sem.run_bind]
 rfl
theorem aDt (w:World):(au.map K ev w.heap.size ([]:List (κ × β))).ok (w.alloc (.map #[] 0)):=⟨#[],0,heap_alloc_new w _,rfl,by simp,by simp⟩
theorem I' {Jb:β} (bV:P.underlying t=some (.map m8 xK)) (bi:P.underlying m8=some K.desc) (c8:∀ w,(zeroValue xK).run P w= .ok (ev Jb) w) (hm:sg K ev w r d) (bu:o.op= .lookup t x y true) (al:a.eval x= .map (some r)) (hy:a.eval y=K.enc k) :
 cv P o a w (.tuple #[ev ((dr d k).getD Jb),.bool (dr d k).isSome]) w:=by
 obtain ⟨es,clock,aI,aV,_⟩:=hm
 have I:=run_findKey (P:=P) (w:=w) (k:=k) bi aV
 simp only [cv,execOp,bu,al,hy,Instr.lookup,Sem.run_bind,Sem.run_pure,run_underlying bV,Result.andThen_ok,MapKept.run_getObj_map aI,K.check P w es.isEmpty m8 k bi,I]
 have bc:=LU (k:=k) (d:=d)
 cases b9:lS d k with
 | none=>
   rw [b9] at bc
   cases dt:dr d k with
   | none=>
     simp only [Option.bind_none,Sem.run_bind,Sem.run_pure,c8,Result.andThen_ok]
     rfl
   | some u=>rw [dt] at bc;cases bc
 | some p=>
   rw [b9] at bc
   cases dt:dr d k with
   | none=>rw [dt] at bc;cases bc
   | some u=>rfl
theorem I_ {Jb:β} (bV:P.underlying t=some (.map m8 xK)) (bi:P.underlying m8=some K.desc) (c8:∀ w,(zeroValue xK).run P w= .ok (ev Jb) w) (hm:sg K ev w r d) (bu:o.op= .lookup t x y false) (al:a.eval x= .map (some r)) (hy:a.eval y=K.enc k) :
 cv P o a w (ev ((dr d k).getD Jb)) w:=by
 obtain ⟨es,clock,aI,aV,_⟩:=hm
 have I:=run_findKey (P:=P) (w:=w) (k:=k) bi aV
 simp only [cv,execOp,bu,al,hy,Instr.lookup,Sem.run_bind,Sem.run_pure,run_underlying bV,Result.andThen_ok,MapKept.run_getObj_map aI,K.check P w es.isEmpty m8 k bi,I]
 have bc:=LU (k:=k) (d:=d)
 cases b9:lS d k with
 | none=>
   rw [b9] at bc
   cases dt:dr d k with
   | none=>
     simp only [Option.bind_none,Sem.run_bind,Sem.run_pure,c8,Result.andThen_ok]
     rfl
   | some u=>rw [dt] at bc;cases bc
 | some p=>
   rw [b9] at bc
   cases dt:dr d k with
   | none=>rw [dt] at bc;cases bc
   | some u=>rfl
theorem X6 (bV:P.underlying t=some (.map m8 xK)) (hm:sg K ev w r d) (bu:o.op= .call { callee:=.builtin .len,args:=#[x],argTypes:=#[t] }) (al:a.eval x= .map (some r)):cv P o a w (.int .i64 (d.length:Int)) w:=by
 obtain ⟨es,clock,aI,aV,_⟩:=hm
 have aC:es.size=d.length:=by
  have:=congrArg List.length aV
  simpa using this
 simp only [cv,execOp,bu,resolve,invoke,List.map_toArray,List.map_cons,List.map_nil,al]
 simp [go_sem,Builtin.len_,run_underlying bV,goInt,MapKept.run_getObj_map aI,aC]
theorem aa0 {k:κ} {v:β}:∀ {es:List MapEntry} {d:List (κ × β)} {p:Nat},jQ K ev es d->lS d k=some p->jQ K ev (es.modify p fun e=>{ e with key:=K.enc k,val:=ev v }) (iM d k v)
 | [],[],_,_,b9=>by simp [lS] at b9
 | [],_::_,_,h,_=>by simp [jQ] at h
 | _::_,[],_,h,_=>by simp [jQ] at h
 | e::es,q::d,p,h,b9=>by
   simp only [jQ,List.map_cons,List.cons.injEq,Prod.mk.injEq] at h
   obtain ⟨⟨aI,aV⟩,bX⟩:=h
   simp only [lS] at b9
   by_cases eE:q.1 =k
   · simp only [eE,if_true,Option.some.injEq] at b9
     subst b9
     simp only [iM,eE,if_true,jQ,List.modify_zero_cons,List.map_cons,List.cons.injEq,true_and]
     exact bX
   · simp only [eE,if_false,Option.map_eq_some_iff] at b9
     obtain ⟨HU,x7,rfl⟩:=b9
     have:=aa0 (v:=v) bX x7
     simp only [iM,eE,if_false,jQ,List.modify_succ_cons,List.map_cons,List.cons.injEq,Prod.mk.injEq,aI,aV,and_self,true_and]
     exact this
theorem aaZ {k:κ} {v:β} {c:Nat}:∀ {es:List MapEntry} {d:List (κ × β)},jQ K ev es d->lS d k=none->jQ K ev (es++[{ key:=K.enc k,val:=ev v,born:=c }]) (iM d k v)
 | [],[],_,_=>rfl
 | [],_::_,h,_=>by simp [jQ] at h
 | _::_,[],h,_=>by simp [jQ] at h
 | e::es,q::d,h,b9=>by
   simp only [jQ,List.map_cons,List.cons.injEq,Prod.mk.injEq] at h
   obtain ⟨⟨aI,aV⟩,bX⟩:=h
   simp only [lS] at b9
   by_cases eE:q.1 =k
   · simp [eE] at b9
   · simp only [eE,if_false,Option.map_eq_none_iff] at b9
     have:=aaZ (v:=v) (c:=c) bX b9
     simp only [iM,eE,if_false,jQ,List.cons_append,List.map_cons,List.cons.injEq,Prod.mk.injEq,aI,aV,and_self,true_and]
     exact this
theorem aaY {k:κ}:∀ {es:List MapEntry} {d:List (κ × β)} {p:Nat},jQ K ev es d->lS d k=some p-> ∃ e,es[p]? =some e/\e.key=K.enc k
 | [],[],_,_,b9=>by simp [lS] at b9
 | [],_::_,_,h,_=>by simp [jQ] at h
 | _::_,[],_,h,_=>by simp [jQ] at h
 | e::es,q::d,p,h,b9=>by
   simp only [jQ,List.map_cons,List.cons.injEq,Prod.mk.injEq] at h
   obtain ⟨⟨aI,aV⟩,bX⟩:=h
   simp only [lS] at b9
   by_cases eE:q.1 =k
   · simp only [eE,if_true,Option.some.injEq] at b9
     subst b9
     exact ⟨e,rfl,by rw [aI,eE]⟩
   · simp only [eE,if_false,Option.map_eq_some_iff] at b9
     obtain ⟨HU,x7,rfl⟩:=b9
     simpa using aaY bX x7
theorem aGQ (bV:P.underlying t=some (.map m8 xK)) (bi:P.underlying m8=some K.desc) (hm:sg K ev w r d) (bu:o.op= .mapUpdate t x y z\/o.op= .insert t x y z) (al:a.eval x= .map (some r)) (hy:a.eval y=K.enc k) (c8:a.eval z=ev v) :
 ∃ aJ,xf P o a w aJ/\bg [r] w aJ/\sg K ev aJ r (iM d k v):=by
 obtain ⟨es,clock,aI,aV,bX,eP⟩:=hm
 have I:=run_findKey (P:=P) (w:=w) (k:=k) bi aV
 have bc:=LU (k:=k) (d:=d)
 have ey:r <w.heap.size:=(Array.getElem?_eq_some_iff.1 aI).1
 have m2:∀ mC:Obj,bg [r] w { w with heap:=w.heap.setIfInBounds r mC }:=fun mC=>⟨rfl,rfl,rfl,by simp,fun q _ ai=>by
  rw [Array.getElem?_setIfInBounds,if_neg (fun e=>ai (by simp [e]))]⟩
 cases b9:lS d k with
 | none=>
   rw [b9] at I
   refine ⟨{ w with heap:=w.heap.setIfInBounds r (.map (es.push { key:=K.enc k,val:=ev v,born:=clock }) (clock+ 1)) },?_,m2 _,es.push { key:=K.enc k,val:=ev v,born:=clock },clock+ 1,?_,?_,?_,?_⟩
   · rcases bu with bu | bu <;>
     · simp only [xf,execOp,bu,al,hy,c8,Instr.mapUpdate,Sem.run_bind,run_underlying bV,Result.andThen_ok,MapKept.run_getObj_map aI,K.check P w false m8 k bi,I,Option.bind_none,MapKept.run_setObj_map _ aI]
       rfl
   · simp [ey]
   · simpa using aaZ aV b9
   · simp only [Array.toList_push,List.map_append,List.map_cons,List.map_nil,List.pairwise_append]
     refine ⟨bX,by simp,fun b a8 c hc=>?_⟩
     obtain ⟨e,he,rfl⟩:=List.mem_map.1 a8
     simp only [List.mem_singleton] at hc
     subst hc
     exact eP e he
   · intro e he
     simp only [Array.toList_push,List.mem_append,List.mem_singleton] at he
     rcases he with he | rfl
     · exact Nat.lt_succ_of_lt (eP e he)
     · exact Nat.lt_succ_self _
 | some p=>
   rw [b9] at I bc
   obtain ⟨e,he,at2⟩:=aaY (k:=k) aV b9
   cases dt:dr d k with
   | none=>rw [dt] at bc;cases bc
   | some u=>
     rw [dt] at I
     have atY:es[p]? =some e:=by simpa using he
     have aby:((es.modify p fun e=>{ e with key:=K.enc k,val:=ev v }).toList.map (·.born))=es.toList.map (·.born):=by
      rw [Array.toList_modify]
      apply List.ext_getElem?
      intro i
      simp only [List.getElem?_map,List.getElem?_modify]
      cases hi:es.toList[i]? with
      | none=>simp
      | some e'=>by_cases awM:p=i <;> simp [awM]
     refine ⟨{ w with heap:=w.heap.setIfInBounds r (.map (es.modify p fun e=>{ e with key:=K.enc k,val:=ev v }) clock) },?_,m2 _,es.modify p fun e=>{ e with key:=K.enc k,val:=ev v },clock,?_,?_,?_,?_⟩
     · have awQ:(Instr.keyThatStays e.key (K.enc k)).run P w= .ok (K.enc k) w:=by
        rw [at2];simp only [Instr.keyThatStays,K.bits,if_true];rfl
       rcases bu with bu | bu <;>
       · simp only [xf,execOp,bu,al,hy,c8,Instr.mapUpdate,Sem.run_bind,run_underlying bV,Result.andThen_ok,MapKept.run_getObj_map aI,K.check P w false m8 k bi,I,Option.bind_some,Option.map_some,atY,Option.getD_some,awQ,MapKept.run_setObj_map _ aI]
         rfl
     · simp [ey]
     · rw [Array.toList_modify];exact aa0 aV b9
     · rw [aby];exact bX
     · intro bS atZ
       have:bS.born ∈ es.toList.map (·.born):=by rw [<-aby];exact List.mem_map.2 ⟨bS,atZ,rfl⟩
       obtain ⟨cf,at0,heq⟩:=List.mem_map.1 this
       rw [<-heq];exact eP cf at0
end
end a5
namespace a5
open Go Go.RowKit J
def YZ (E:List au):Prop:=∀ (i:Nat) (x:au),E[i]? =some x->x.gw.Nodup/\ ∀ (j:Nat) (y:au),E[j]? =some y->i≠j-> ∀ k ∈ x.gw,k ∉ y.gw
theorem KM:∀ {E:List au},(cY E).Nodup->YZ E
 | [],_=>fun i x h=>by simp at h
 | e::E,h=>by
   have dU:(e.gw++cY E).Nodup:=by simpa [cY] using h
   rw [List.nodup_append] at dU
   obtain ⟨aI,aV,bX⟩:=dU
   have cA:=KM aV
   intro i x al
   cases i with
   | zero=>
     simp only [List.getElem?_cons_zero,Option.some.injEq] at al
     subst al
     refine ⟨aI,fun j y hy fo k bi lx=>?_⟩
     cases j with
     | zero=>exact fo rfl
     | succ j=>exact bX k bi k (List.mem_flatMap.2 ⟨y,List.mem_of_getElem? (by simpa using hy),lx⟩) rfl
   | succ i=>
     have al:E[i]? =some x:=by simpa using al
     refine ⟨(cA i x al).1,fun j y hy fo k bi lx=>?_⟩
     cases j with
     | zero=>
       simp only [List.getElem?_cons_zero,Option.some.injEq] at hy
       subst hy
       exact bX k lx k (List.mem_flatMap.2 ⟨x,List.mem_of_getElem? al,bi⟩) rfl
     | succ j=>exact (cA i x al).2 j y (by simpa using hy) (by omega) k bi lx
theorem adP:∀ {E:List au},YZ E->(cY E).Nodup
 | [],_=>by simp [cY]
 | e::E,h=>by
   have bS:cY (e::E)=e.gw++cY E:=by simp [cY]
   rw [bS,List.nodup_append]
   refine ⟨(h 0 e rfl).1,adP fun i x al=>⟨(h (i+ 1) x (by simpa using al)).1,fun j y hy fo k bi=>(h (i+ 1) x (by simpa using al)).2 (j+ 1) y (by simpa using hy) (by omega) k bi⟩,fun a bN b a8 KX=>?_⟩
   subst KX
   obtain ⟨x,al,bi⟩:=List.mem_flatMap.1 a8
   obtain ⟨i,hi,rfl⟩:=List.mem_iff_getElem.1 al
   exact (h 0 e rfl).2 (i+ 1) E[i] (by simp [hi]) (by omega) a bN bi
def Dg (E:List au):List Nat->Option (List au)
 | []=>some []
 | i::r=>match nth E i,Dg E r with
   | some x,some xs=>some (x::xs)
   | _,_=>none
def Ls:List Nat->Nat->Bool
 | [],_=>false
 | i::r,j=>Nat.beq i j || Ls r j
def HQ:List Nat->Bool
 | []=>true
 | i::r=>!Ls r i && HQ r
theorem aCS {l:List Nat} {j:Nat} (h:Ls l j=false):j ∉ l:=by
 induction l with
 | nil=>simp
 | cons i r cA=>
   simp only [Ls,Bool.or_eq_false_iff] at h
   intro hm
   rcases List.mem_cons.1 hm with rfl | e
   · simp at h
   · exact cA h.2 e
theorem adM:∀ {l:List Nat},HQ l=true->l.Nodup
 | [],_=>by simp
 | i::r,h=>by
   simp only [HQ,Bool.and_eq_true,Bool.not_eq_true'] at h
   exact List.nodup_cons.2 ⟨aCS h.1,adM h.2⟩
theorem Mx {E:List au}:∀ {is:List Nat} {mM:List au},Dg E is=some mM-> ∀ (m:Nat) (x:au),mM[m]? =some x-> ∃ i:Nat,is[m]? =some i/\E[i]? =some x
 | [],mM,h,m,x,al=>by simp only [Dg,Option.some.injEq] at h;subst h;simp at al
 | i::r,mM,h,m,x,al=>by
   simp only [Dg] at h
   split at h
   · rename_i y ys aI aV
     simp only [Option.some.injEq] at h
     subst h
     cases m with
     | zero=>
       simp only [List.getElem?_cons_zero,Option.some.injEq] at al
       subst al
       exact ⟨i,rfl,by rw [<-s4];exact aI⟩
     | succ m=>obtain ⟨q,mD,n1⟩:=Mx aV m x (by simpa using al);exact ⟨q,by simpa using mD,n1⟩
   · cases h
section
variable {W w aJ:World} {M0 X:List Nat} {E:List au} {D:List ap}
theorem aw.l2 (h:aw W M0 X w E D) (is:List Nat) {mM:List au} (ai:HQ is=true) (bc:Dg E is=some mM):aw W M0 X w mM D:=by
 have uL:∀ x ∈ mM,x ∈ E:=fun x al=>by
  obtain ⟨m,hm,rfl⟩:=List.mem_iff_getElem.1 al
  obtain ⟨i,_,hi⟩:=Mx bc m _ (List.getElem?_eq_getElem hm)
  exact List.mem_of_getElem? hi
 have I:∀ k ∈ cY mM,k ∈ cY E:=fun k bi=>by
  obtain ⟨x,al,Lg⟩:=List.mem_flatMap.1 bi
  exact List.mem_flatMap.2 ⟨x,uL x al,Lg⟩
 have bY:=KM h.ea
 have TD:=adM ai
 refine ⟨h.ev,h.m',fun k bi=>h.lt k (I k bi),fun x al=>h.ok x (uL x al),adP fun m x al=>?_,fun y hy=>y.law _ _ w w (bg.refl _ _) (fun k bi=>.inl ?_) (h.rd y hy)⟩
 · obtain ⟨i,hi,acx⟩:=Mx bc m x al
   refine ⟨(bY i x acx).1,fun jq y hy fo k bi=>?_⟩
   obtain ⟨j,bf,aCF⟩:=Mx bc jq y hy
   refine (bY i x acx).2 j y aCF (fun e=>?_) k bi
   subst e
   obtain ⟨l1,bS⟩:=List.getElem?_eq_some_iff.1 hi
   obtain ⟨g3,cf⟩:=List.getElem?_eq_some_iff.1 bf
   rcases Nat.lt_or_gt_of_ne fo with ey | ey
   · exact (List.pairwise_iff_getElem.1 TD m jq l1 g3 ey) (bS.trans cf.symm)
   · exact (List.pairwise_iff_getElem.1 TD jq m g3 l1 ey) (cf.trans bS.symm)
 · rcases List.mem_append.1 bi with e | e
   · exact List.mem_append.2 (.inl e)
   · exact List.mem_append.2 (.inr (I k e))
theorem Cf (A B:List au):cY (A++B)=cY A++cY B:=by simp [cY]
theorem aw.into (h:aw W M0 X w E D) (m:Nat):aw w (cY (E.take m)) (X++cY (E.drop m)) w (E.take m) D:=by
 have hb:cY E=cY (E.take m)++cY (E.drop m):=by rw [<-Cf,List.take_append_drop]
 have bY:=h.ea
 rw [hb,List.nodup_append] at bY
 refine ⟨bg.refl _ _,fun k bi=>?_,fun k bi=>⟨(h.lt k (by rw [hb];simp [bi])).1,.inl bi⟩,fun x al=>h.ok x (List.mem_of_mem_take al),bY.1,fun y hy=>y.law _ _ w w (bg.refl _ _) (fun k bi=>.inl ?_) (h.rd y hy)⟩
 · rcases List.mem_append.1 bi with e | e
   · refine ⟨Nat.lt_of_lt_of_le (h.m' k e).1 h.ev.size,fun lx=>?_⟩
     have:=(h.lt k (by rw [hb];simp [lx])).2
     rcases this with cf | cf
     · exact (h.m' k e).2 cf
     · have:=(h.m' k e).1;omega
   · exact ⟨(h.lt k (by rw [hb];simp [e])).1,fun lx=>bY.2.2 k lx k e rfl⟩
 · rw [hb]
   simp only [List.mem_append] at bi ⊢
   rcases bi with (e | e) | e <;> simp [e]
def Pf:List ap->Prop
 | []=>True
 | y::r=>(∀ M jR w aJ,y.ok M w->y.ok jR aJ)/\Pf r
theorem Y0:∀ {D:List ap},Pf D-> ∀ y ∈ D,∀ M jR w aJ,y.ok M w->y.ok jR aJ
 | [],_,y,hy=>by simp at hy
 | z::r,h,y,hy=>by
   rcases List.mem_cons.1 hy with rfl | e
   · exact h.1
   · exact Y0 h.2 y e
theorem oO {α:Type} {T:fJ α} (lu:∀ F zh w aJ cs d,T.rd F w cs d->T.rd zh aJ cs d) {xs:List Value} {l:List α} (M jR:List Nat) (w aJ:World) (h:(ap.rows T xs l).ok M w):(ap.rows T xs l).ok jR aJ:=by
 have key:∀ {l:List α} {xs:List Value},gO T (jx M w) w xs l->gO T (jx jR aJ) aJ xs l:=by
  intro l
  induction l with
  | nil=>intro xs h;exact h
  | cons d r cA=>intro xs h;obtain ⟨cs,ys,rfl,aI,aV⟩:=h;exact ⟨cs,ys,rfl,lu _ _ _ _ _ _ aI,cA aV⟩
 exact key h
theorem aw.Za (h:aw W M0 X w E D) (m:Nat) {Pm:List Nat} {sh:List au} {h9:List ap} (k:aw w (cY (E.take m)) Pm aJ sh h9) (alY:∀ y ∈ h9,y.ok (X++cY (sh++E.drop m)) aJ):aw W M0 X aJ (sh++E.drop m) (h9++D):=by
 have hb:cY E=cY (E.take m)++cY (E.drop m):=by rw [<-Cf,List.take_append_drop]
 have bY:=h.ea
 rw [hb,List.nodup_append] at bY
 have abt:∀ b ∈ cY (E.take m),b <w.heap.size/\(b ∈ M0\/W.heap.size<=b):=fun b a8=>h.lt b (by rw [hb];simp [a8])
 have jG:∀ b ∈ cY (E.drop m),b <w.heap.size/\(b ∈ M0\/W.heap.size<=b):=fun b a8=>h.lt b (by rw [hb];simp [a8])
 have ah:=k.ev
 have QX:∀ b ∈ cY sh,b ∉ cY (E.drop m):=fun b a8 jZ=>by
  rcases (k.lt b a8).2 with e | e
  · exact bY.2.2 b e b jZ rfl
  · have:=(jG b jZ).1;omega
 refine ⟨h.ev.trans ah (fun b a8=>(abt b a8).2),h.m',fun b a8=>?_,fun x al=>?_,?_,fun y hy=>?_⟩
 · rw [Cf] at a8
   rcases List.mem_append.1 a8 with e | e
   · refine ⟨(k.lt b e).1,?_⟩
     rcases (k.lt b e).2 with cf | cf
     · exact (abt b cf).2
     · exact .inr (Nat.le_trans h.ev.size cf)
   · exact ⟨Nat.lt_of_lt_of_le (jG b e).1 ah.size,(jG b e).2⟩
 · rcases List.mem_append.1 al with e | e
   · exact k.ok x e
   · refine x.law w aJ (fun b a8=>?_) (h.ok x (List.mem_of_mem_drop e))
     have jZ:b ∈ cY (E.drop m):=List.mem_flatMap.2 ⟨x,e,a8⟩
     exact ah.block b (jG b jZ).1 (fun bi=>bY.2.2 b bi b jZ rfl)
 · rw [Cf,List.nodup_append]
   exact ⟨k.ea,bY.2.1,fun a bN b a8 e=>by subst e;exact QX a bN a8⟩
 · rcases List.mem_append.1 hy with e | e
   · exact alY y e
   · refine y.law _ _ w aJ (ah.mono fun b a8=>?_) (fun b a8=>?_) (h.rd y e)
     · rw [hb];simp [a8]
     · rw [Cf] at a8
       rw [hb]
       simp only [List.mem_append] at a8 ⊢
       rcases a8 with bS | bS | bS
       · simp [bS]
       · rcases (k.lt b bS).2 with cf | cf
         · simp [cf]
         · exact .inr cf
       · simp [bS]
theorem aw.back (h:aw W M0 X w E D) (m:Nat) {sh:List au} {h9:List ap} (k:aw w (cY (E.take m)) (X++cY (E.drop m)) aJ sh h9):aw W M0 X aJ (sh++E.drop m) (h9++D):=
 h.Za m k fun y hy=>y.law _ _ aJ aJ (bg.refl _ _) (fun b a8=>.inl (by
   rw [Cf] at a8
   simp only [List.mem_append] at a8 ⊢
   rcases a8 with e | e | e <;> simp [e])) (k.rd y hy)
theorem aw.hp (h:aw W M0 X w E D) (m:Nat) {Pm:List Nat} {sh:List au} {h9:List ap} (b4:Pf h9) (k:aw w (cY (E.take m)) Pm aJ sh h9):aw W M0 X aJ (sh++E.drop m) (h9++D):=
 h.Za m k fun y hy=>Y0 b4 y hy _ _ _ _ (k.rd y hy)
theorem aw.rD {κ β:Type} [DecidableEq κ] {K:tw κ} {ev:β->Value} {r:Nat} {d:List (κ × β)} (h:aw W M0 X w E D) (i:Nat) (hi:E[i]? =some (au.map K ev r d)):aw W M0 X w (E.eraseIdx i) (ap.map K ev r d::D):=by
 have aI:=h.Fu i
 have hm:sg K ev w r d:=h.e i hi
 obtain ⟨es,c,a8,Ar⟩:=hm
 refine aI.more ⟨?_,(Array.getElem?_eq_some_iff.1 a8).1,es,c,a8,Ar⟩
 intro lx
 have bi:r ∈ (au.map K ev r d).gw:=by simp [au.map]
 rcases List.mem_append.1 lx with bS | bS
 · have ey:=h.m' r bS
   rcases (h.lt r (List.mem_flatMap.2 ⟨_,List.mem_of_getElem? hi,bi⟩)).2 with cf | cf
   · exact ey.2 cf
   · omega
 · obtain ⟨aC,al⟩:=List.getElem?_eq_some_iff.1 hi
   have hb:E=E.take i++E[i]::E.drop (i+ 1):=by simp
   have bY:=h.ea
   rw [hb,al] at bY
   have cf:cY (E.take i++au.map K ev r d::E.drop (i+ 1))=cY (E.take i)++((au.map K ev r d).gw++cY (E.drop (i+ 1))):=by simp [cY]
   rw [cf,List.nodup_append,List.nodup_append] at bY
   rw [List.eraseIdx_eq_take_drop_succ] at bS
   rcases List.mem_append.1 (by simpa [cY] using bS:r ∈ cY (E.take i)++cY (E.drop (i+ 1))) with eI | eI
   · exact bY.2.2 r eI r (List.mem_append.2 (.inl bi)) rfl
   · exact bY.2.1.2.2 r bi r eI rfl
end
section
variable {P:Program} {ops:Array Oper} {Q:Exit->Act->World->Prop} {a:Act} {w:World} {rest:List Oper} {o:Oper} {n:h'} {d:Nat} {l:List (Nat × Value)}
 {W:World} {M0 X:List Nat} {E:List au} {D:List ap}
theorem aw.aDD {κ β:Type} [DecidableEq κ] (K:tw κ) (ev:β->Value) (hm:aw W M0 X w E D):aw W M0 X (w.alloc (.map #[] 0)) (au.map K ev w.heap.size ([]:List (κ × β))::E) D:=
 hm.push _ (bg.alloc _ _ _) (aDt w) (fun k bi=>by simp [au.map] at bi;subst bi;exact ⟨Nat.le_refl _,by simp⟩) (by simp [au.map])
theorem MH {κ β:Type} [DecidableEq κ] {K:tw κ} {ev:β->Value} {t m8 xK:TypeId} {x y z:Operand} {r:Nat} {m:List (κ × β)} {q:κ} {v:β} (i:Nat) (hm:aw W M0 X w E D) (hi:E[i]? =some (au.map K ev r m)) (hw:Region.wanted o (yielded ops a.tmps)=true)
 (bV:P.underlying t=some (.map m8 xK)) (bi:P.underlying m8=some K.desc) (bu:o.op= .mapUpdate t x y z\/o.op= .insert t x y z) (al:a.eval x= .map (some r)) (hy:a.eval y=K.enc q) (c8:a.eval z=ev v) (bY:o.dst=none)
 (k:∀ aJ,aw W M0 X aJ (E.set i (au.map K ev r (iM m q v))) D->wpList P ops Q rest a aJ):wpList P ops Q (o::rest) a w:=by
 obtain ⟨aJ,aI,aV,bX⟩:=aGQ bV bi (hm.e i hi) bu al hy c8
 exact MI hw aI bY (k aJ (hm.vM i hi aV bX (by simp [au.map]) (fun k bi=>.inl bi)))
end
end a5
namespace a5
open Go Go.RowKit J
section
variable {P:Program} {ops:Array Oper} {Q:Exit->Act->World->Prop} {a:Act} {w:World} {rest:List Oper} {o:Oper} {n:h'} {d:Nat} {l:List (Nat × Value)}
 {W:World} {M0 X:List Nat} {E:List au} {D:List ap}
theorem aw.oI {α:Type} {e sz g m:Nat} {cs:List Value} (h:aw W M0 X w E D) (i:Nat) (li:List α) (hi:E[i]? =some (au.bs g e cs)) (aC:li.length=m) (hc:Nat.beq cs.length (m*sz)=true) (hm:Nat.ble m 1000000 =true):aw W M0 X w (E.set i (au.row e sz (.slice (some ⟨g,0,none⟩) m m) li cs)) D:=by
 have a8:w.heap[g]? =some (.cells cs.toArray e (0,0)):=h.e i hi
 have hc:=Nat.eq_of_beq_eq_true hc
 have hm:=Nat.le_of_ble_eq_true hm
 refine h.vM i hi (bg.refl _ _) ?_ (by simp [au.row,Value.ownBlock]) (fun k bi=>.inl (by simpa [au.row,Value.ownBlock,au.bs] using bi))
 show w.ownsRow 0 e sz (.slice (some ⟨g,0,none⟩) m m) li.length cs
 refine ⟨by rw [aC];exact hc,.inr ⟨g,m,cs.toArray,by rw [aC],Nat.zero_le _,a8,by omega,by simp only [maxLen];omega,by simpa using hc,?_⟩⟩
 rw [aC,<-hc,List.take_length]
theorem aw.H9 (h:aw W M0 X w E D) {α:Type} {T:fJ α} {xs:List Value} {li:List α} (b5:gO T (jx (X++cY E) w) w xs li):aw W M0 X w E (ap.rows T xs li::D):=h.more b5
theorem Mw {α:Type} {T:fJ α} {t e:TypeId} {x y:Operand} {z:Value} {bytes m c:Nat} {v:Value} {li ml l':List α} {xs cs:List Value} {mO:Addr} (i:Nat) (hm:aw W M0 X w E D) (hi:E[i]? =some (au.row e T.size v li xs))
 (lu:P.underlying t=some (.slice e)) (mj:(P.info? e).map (fun i=>(i.zero,i.size,i.bytes))=some (some z,T.size,bytes)) (c8:z.cells.size=T.size) (lP:0 <T.size)
 (b5:eO bytes li ml=some l') (x5:ml.length=m) (lO:0 <bytes)
 (iE:gO T (jx (X++cY E) w) w xs li) (hcs:gO T (jx (X++cY E) w) w cs ml) (px:∀ j u,cs[j]? =some u->w.cell? (mO.add j)=some u)
 (hw:Region.wanted o (yielded ops a.tmps)=true)
 (bu:o.op= .call { callee:=.builtin .append,args:=#[x,y],argTypes:=#[t,t] }) (al:a.eval x=v) (hy:a.eval y= .slice (some mO) m c) (I:Fr n l a) (bY:o.dst=some d) (ai:Nat.blt d n=true)
 (k:∀ b2 A dZ aJ,bg v.ownBlock.toList w aJ->Fr n ((d,.slice A l'.length dZ)::l) b2->aw W M0 X aJ (E.set i (au.row e T.size (.slice A l'.length dZ) l' (xs++cs))) (ap.rows T (xs++cs) l'::D)->wpList P ops Q rest b2 aJ):wpList P ops Q (o::rest) a w:=by
 obtain ⟨i0,RN,Lq,acs,abw⟩:=acR mj
 obtain ⟨QY,rfl⟩:=Y_ b5
 have rs:w.ownsRow 0 e T.size v li.length xs:=hm.e i hi
 subst x5
 have apl:li.length+ml.length<=maxLen:=by
  have aV:=Nat.le_mul_of_pos_right (li.length+ml.length) lO
  simp only [maxLen]
  omega
 obtain ⟨rY,aJ,sL,aV,bX,_,mY⟩:=run_append_own_at (P:=P) w 0 t o.type e i0 z T.size bytes lu RN Lq acs abw c8 lP v li.length xs rs mO ml.length c cs (Xg T hcs)
  px (ad6 T hcs) apl QY (Nat.zero_le _)
 have m3:(au.row e T.size rY (li++ml) (xs++cs)).ok aJ:=by
  show aJ.ownsRow 0 e T.size rY (li++ml).length (xs++cs)
  rw [List.length_append];exact aV
 obtain ⟨A,dZ,rfl,_⟩:=Xo m3
 have Hn:cv P o a w (.slice A (li++ml).length dZ) aJ:=by
  simp only [cv,execOp,bu,resolve,invoke,builtin,Sem.run_bind,Sem.run_pure,Result.andThen_ok,List.map_toArray,List.map_cons,List.map_nil,al,hy,sL]
 have pA:=hm.H9 (ad5 T hcs iE)
 refine bR hw Hn I bY ai fun b2 fB=>k b2 A dZ aJ (bg.grown bX) fB (pA.vM i hi (bg.grown bX) m3 (Wf _) fun q eE=>?_)
 have G_:(Value.slice A (li++ml).length dZ).ownBlock=some q:=by simpa [au.row] using eE
 rcases mY with lm | lm
 · left;simpa [au.row,<-lm] using G_
 · right
   rw [lm] at G_
   injection G_ with G_
   subst G_
   refine ⟨Nat.le_refl _,?_⟩
   rcases aV.2 with ⟨ah,_⟩ | ⟨ai0,cap,cur,ah,_,z',_⟩
   · rw [ah] at lm;simp [Value.ownBlock] at lm
   · rw [ah] at lm
     have:ai0=w.heap.size:=by simpa [Value.ownBlock] using lm
     subst this
     exact (Array.getElem?_eq_some_iff.1 z').1
theorem j5 {α:Type} {T:fJ α} {t e:TypeId} {x y:Operand} {z:Value} {bytes g m c:Nat} {v:Value} {li ml l':List α} {xs cs:List Value} (i j q:Nat) (hm:aw W M0 X w E D) (hi:E[i]? =some (au.row e T.size v li xs)) (bf:E[j]? =some (au.bs g e cs)) (eE:D[q]? =some (ap.rows T xs li))
 (lu:P.underlying t=some (.slice e)) (mj:(P.info? e).map (fun i=>(i.zero,i.size,i.bytes))=some (some z,T.size,bytes)) (c8:z.cells.size=T.size) (lP:Nat.blt 0 T.size=true)
 (b5:eO bytes li ml=some l') (x5:ml.length=m) (lO:Nat.blt 0 bytes=true) (hcs:gO T (jx (X++cY E) w) w cs ml)
 (hw:Region.wanted o (yielded ops a.tmps)=true)
 (bu:o.op= .call { callee:=.builtin .append,args:=#[x,y],argTypes:=#[t,t] }) (al:a.eval x=v) (hy:a.eval y= .slice (some ⟨g,0,none⟩) m c) (I:Fr n l a) (bY:o.dst=some d) (ai:Nat.blt d n=true)
 (k:∀ b2 A dZ gr aJ,Fr n ((d,.slice A l'.length dZ)::l) b2->aw W M0 X aJ ((E.set i (au.row e T.size (.slice A l'.length dZ) l' gr)).eraseIdx j) (ap.rows T gr l'::D)->wpList P ops Q rest b2 aJ):wpList P ops Q (o::rest) a w:=by
 have a8:=hm.e j bf
 exact Mw i hm hi lu mj c8 (Nat.le_of_ble_eq_true lP) b5 x5 (Nat.le_of_ble_eq_true lO) (hm.d q eE) hcs (fun j u hu=>by rw [q4];simpa using BT a8 hu) hw bu al hy I bY ai
  fun b2 A dZ aJ _ fB hv=>k b2 A dZ _ aJ fB (hv.Fu j)
theorem Xr {α:Type} {T:fJ α} {t e:TypeId} {x y:Operand} {z:Value} {bytes g m c:Nat} {v:Value} {li ml l':List α} {xs cs:List Value} (i j q:Nat) (hm:aw W M0 X w E D) (hi:E[i]? =some (au.row e T.size v li xs)) (bf:E[j]? =some (au.bs g e cs)) (eE:D[q]? =some (ap.rows T xs li))
 (lu:P.underlying t=some (.slice e)) (mj:(P.info? e).map (fun i=>(i.zero,i.size,i.bytes))=some (some z,T.size,bytes)) (c8:z.cells.size=T.size) (lP:Nat.blt 0 T.size=true)
 (b5:eO bytes li ml=some l') (x5:ml.length=m) (lO:Nat.blt 0 bytes=true) (hcs:gO T (jx (X++cY E) w) w cs ml)
 (hw:Region.wanted o (yielded ops a.tmps)=true)
 (bu:o.op= .call { callee:=.builtin .append,args:=#[x,y],argTypes:=#[t,t] }) (al:a.eval x=v) (hy:a.eval y= .slice (some ⟨g,0,none⟩) m c) (I:Fr n l a) (bY:o.dst=some d) (ai:Nat.blt d n=true)
 (k:∀ b2 A dZ gr aJ,bg v.ownBlock.toList w aJ->Fr n ((d,.slice A l'.length dZ)::l) b2->aw W M0 X aJ ((E.set i (au.row e T.size (.slice A l'.length dZ) l' gr)).eraseIdx j) (ap.rows T gr l'::D)->wpList P ops Q rest b2 aJ):wpList P ops Q (o::rest) a w:=by
 have a8:=hm.e j bf
 exact Mw i hm hi lu mj c8 (Nat.le_of_ble_eq_true lP) b5 x5 (Nat.le_of_ble_eq_true lO) (hm.d q eE) hcs (fun j u hu=>by rw [q4];simpa using BT a8 hu) hw bu al hy I bY ai
  fun b2 A dZ aJ ah fB hv=>k b2 A dZ _ aJ ah fB (hv.Fu j)
theorem aGs {t e:TypeId} {x y:Operand} {v:Value} {sz k:Nat} {xs:List Value} {z:Value} {bytes:Nat} (lu:P.underlying t=some (.slice e)) (mj:(P.info? e).map (fun i=>(i.zero,i.size,i.bytes))=some (some z,sz,bytes)) (rs:w.ownsRow 0 e sz v k xs)
 (bu:o.op= .call { callee:=.builtin .append,args:=#[x,y],argTypes:=#[t,t] }) (al:a.eval x=v) (hy:a.eval y= .slice none 0 0):cv P o a w v w:=by
 obtain ⟨i0,RN,Lq,acs,abw⟩:=acR mj
 have sL:=run_append_owned_none (P:=P) (w:=w) 0 t o.type e i0 sz lu RN v k xs rs
 simp only [cv,execOp,bu,resolve,invoke,builtin,Sem.run_bind,Sem.run_pure,Result.andThen_ok,List.map_toArray,List.map_cons,List.map_nil,al,hy,sL]
theorem aEZ {α:Type} {T:fJ α} {t e:TypeId} {x y:Operand} {z:Value} {bytes c:Nat} {v:Value} {li ml l':List α} {xs:List Value} {qP:Option Addr} (i q p:Nat) (hm:aw W M0 X w E D) (hi:E[i]? =some (au.row e T.size v li xs)) (eE:D[q]? =some (ap.rows T xs li)) (b9:D[p]? =some (ap.of (aN T) [.slice qP ml.length c] ml))
 (lu:P.underlying t=some (.slice e)) (mj:(P.info? e).map (fun i=>(i.zero,i.size,i.bytes))=some (some z,T.size,bytes)) (c8:z.cells.size=T.size) (lP:Nat.blt 0 T.size=true)
 (b5:eO bytes li ml=some l') (lO:Nat.blt 0 bytes=true)
 (hw:Region.wanted o (yielded ops a.tmps)=true)
 (bu:o.op= .call { callee:=.builtin .append,args:=#[x,y],argTypes:=#[t,t] }) (al:a.eval x=v) (hy:a.eval y= .slice qP ml.length c) (I:Fr n l a) (bY:o.dst=some d) (ai:Nat.blt d n=true)
 (k:∀ b2 A dZ gr aJ,bg v.ownBlock.toList w aJ->Fr n ((d,.slice A l'.length dZ)::l) b2->aw W M0 X aJ (E.set i (au.row e T.size (.slice A l'.length dZ) l' gr)) (ap.rows T gr l'::D)->wpList P ops Q rest b2 aJ):wpList P ops Q (o::rest) a w:=by
 have iE:=hm.d q eE
 have at5:(aN T).rd (jx (X++cY E) w) w [.slice qP ml.length c] ml:=hm.d p b9
 obtain ⟨hn,eD,bS,cf,eI,iy,lm⟩:=at5
 simp only [List.cons.injEq,Value.slice.injEq,and_true,true_and] at bS
 obtain ⟨rfl,rfl⟩:=bS
 by_cases x5:ml= []
 · subst x5
   cases qP with
   | none=>
     have Cq:=iy rfl
     subst Cq
     have rs:w.ownsRow 0 e T.size v li.length xs:=hm.e i hi
     have m3:(au.row e T.size v li xs).ok w:=hm.e i hi
     obtain ⟨A,dZ,rfl,_⟩:=Xo m3
     obtain ⟨_,rfl⟩:=Y_ b5
     refine bR hw (aGs lu mj rs bu al hy) I bY ai fun b2 fB=>?_
     have aC:li++[]=li:=List.append_nil li
     refine k b2 A dZ xs w (bg.refl _ w) (by rw [aC];exact fB) ?_
     rw [aC]
     have hb:E.set i (au.row e T.size (.slice A li.length dZ) li xs)=E:=by
      obtain ⟨ey,he⟩:=List.getElem?_eq_some_iff.1 hi
      rw [<-he,List.set_getElem_self]
     rw [hb]
     exact hm.more iE
   | some mO=>
     exact Mw (cs:=[]) i hm hi lu mj c8 (Nat.le_of_ble_eq_true lP) b5 rfl (Nat.le_of_ble_eq_true lO) iE rfl (fun j u hu=>by simp at hu) hw bu al hy I bY ai fun b2 A dZ aJ ah fB hv=>k b2 A dZ _ aJ ah fB hv
 · obtain ⟨ln,mb,cs,zJ,zK⟩:=lm x5
   rw [ln] at hy
   exact Mw (cs:=cs) i hm hi lu mj c8 (Nat.le_of_ble_eq_true lP) b5 rfl (Nat.le_of_ble_eq_true lO) iE zJ (fun j u hu=>by rw [q4];exact zK j u hu) hw bu al hy I bY ai fun b2 A dZ aJ ah fB hv=>k b2 A dZ _ aJ ah fB hv
theorem rT {α:Type} {T:fJ α} {t e:TypeId} {x y:Operand} {z:Value} {bytes c:Nat} {v:Value} {li ml l':List α} {xs:List Value} {qP:Option Addr} (i q p:Nat) (hm:aw W M0 X w E D) (hi:E[i]? =some (au.row e T.size v li xs)) (eE:D[q]? =some (ap.rows T xs li)) (b9:D[p]? =some (ap.of (aN T) [.slice qP ml.length c] ml))
 (lu:P.underlying t=some (.slice e)) (mj:(P.info? e).map (fun i=>(i.zero,i.size,i.bytes))=some (some z,T.size,bytes)) (c8:z.cells.size=T.size) (lP:Nat.blt 0 T.size=true)
 (b5:eO bytes li ml=some l') (lO:Nat.blt 0 bytes=true)
 (hw:Region.wanted o (yielded ops a.tmps)=true)
 (bu:o.op= .call { callee:=.builtin .append,args:=#[x,y],argTypes:=#[t,t] }) (al:a.eval x=v) (hy:a.eval y= .slice qP ml.length c) (I:Fr n l a) (bY:o.dst=some d) (ai:Nat.blt d n=true)
 (k:∀ b2 A dZ gr aJ,Fr n ((d,.slice A l'.length dZ)::l) b2->aw W M0 X aJ (E.set i (au.row e T.size (.slice A l'.length dZ) l' gr)) (ap.rows T gr l'::D)->wpList P ops Q rest b2 aJ):wpList P ops Q (o::rest) a w:=
 aEZ i q p hm hi eE b9 lu mj c8 lP b5 lO hw bu al hy I bY ai fun b2 A dZ gr aJ _=>k b2 A dZ gr aJ
theorem Xp {x:Value} {y:Nat} {code:BoundsCode} {k:IntKind} {i:Int} (al:x= .int k i) (h:0 <=i/\i<=y):(Instr.sliceBound x y code).run P w= .ok i.toNat w:=by
 subst al
 simp [Instr.sliceBound,asIntOf,h]
end
end a5
namespace a5
open Go Go.RowKit J
section
variable {α:Type} {T:fJ α}
theorem ad7 {F:Nat->Prop} {w:World} {d':α} {B':List Value} (dU:T.rd F w B' d'):∀ {li:List α} {xs:List Value} {i:Nat},gO T F w xs li->i <li.length->gO T F w (xs.take (i*T.size)++B'++xs.drop (i*T.size+T.size)) (li.set i d')
 | [],_,i,_,hi=>by simp at hi
 | d::r,xs,0,h,_=>by
   obtain ⟨cs,ys,rfl,aI,aV⟩:=h
   have aC:=T.len aI
   refine ⟨B',ys,?_,dU,aV⟩
   simp [<-aC]
 | d::r,xs,i+ 1,h,hi=>by
   obtain ⟨cs,ys,rfl,aI,aV⟩:=h
   have aC:=T.len aI
   have cA:=ad7 dU aV (i:=i) (by simpa using hi)
   refine ⟨cs,_,?_,aI,cA⟩
   have bS:(i+ 1)*T.size=cs.length+i*T.size:=by rw [Nat.add_mul];omega
   rw [bS,List.take_append,List.take_of_length_le (by omega),show cs.length+i*T.size - cs.length=i*T.size by omega,List.drop_append,List.drop_of_length_le (l:=cs) (by omega),
    show cs.length+i*T.size+T.size - cs.length=i*T.size+T.size by omega]
   simp
end
theorem aE' {β:Type} {L vs:List β} {p N:Nat} (aI:p+vs.length<=N) (aV:N<=L.length):(L.take p++vs++L.drop (p+vs.length)).take N=(L.take N).take p++vs++(L.take N).drop (p+vs.length):=by
 have aC:(L.take p++vs).length=p+vs.length:=by rw [List.length_append,List.length_take];omega
 rw [List.take_append,List.take_of_length_le (by omega),aC,List.take_take,Nat.min_eq_left (by omega),List.drop_take]
section
variable {P:Program} {ops:Array Oper} {Q:Exit->Act->World->Prop} {a:Act} {w:World} {rest:List Oper} {o:Oper} {n:h'} {d:Nat} {l:List (Nat × Value)}
 {W:World} {M0 X:List Nat} {E:List au} {D:List ap}
theorem aiT {xs cs:List Value} {p:Nat} (h:∀ j u,cs[j]? =some u->xs[p+j]? =some u):(xs.drop p).take cs.length=cs:=by
 apply List.ext_getElem?
 intro j
 rw [List.getElem?_take]
 by_cases bf:j <cs.length
 · rw [if_pos bf,List.getElem?_drop,List.getElem?_eq_getElem bf]
   exact h j _ (List.getElem?_eq_getElem bf)
 · rw [if_neg bf,List.getElem?_eq_none (by omega)]
theorem aFa {α:Type} {T:fJ α} {t e:TypeId} {x y:Operand} {A:Option Addr} {c kk sz:Nat} {li:List α} {xs cs0 vs:List Value} {z:Int} {d0 d':α} {v:Value} (i q:Nat) (hm:aw W M0 X w E D) (hi:E[i]? =some (au.row e T.size (.slice A li.length c) li xs)) (eE:D[q]? =some (ap.rows T xs li))
 (c8:idx li z=some d0) (hcs:T.rd (jx (X++cY E) w) w cs0 d0) (ow:j8 w ⟨bM A,bP A+z.toNat*T.size,none⟩ cs0) (hw:Region.wanted o (yielded ops a.tmps)=true)
 (ah:v.cells=vs.toArray) (bc:∀ w,(Go.sizeOf t).run P w= .ok sz w) (aC:Nat.beq vs.length sz=true) (aI:vs.all (·.oneCell')=true) (hle:Nat.ble (kk+vs.length) cs0.length=true)
 (Ak:T.rd (jx (X++cY E) w) w (lay cs0 kk vs) d')
 (bu:o.op= .store t x y) (al:a.eval x= .pointer (some ⟨bM A,bP A+z.toNat*T.size+kk,none⟩)) (hy:a.eval y=v) (bY:o.dst=none)
 (k:∀ gr aJ,bg (Value.slice A li.length c).ownBlock.toList w aJ->aw W M0 X aJ (E.set i (au.row e T.size (.slice A li.length c) (li.set z.toNat d') gr)) (ap.rows T gr (li.set z.toNat d')::D)->wpList P ops Q rest a aJ):wpList P ops Q (o::rest) a w:=by
 obtain ⟨z0,DI,OD⟩:=uR c8
 have hlen:vs.length=sz:=Nat.eq_of_beq_eq_true aC
 have Li:kk+vs.length<=cs0.length:=Nat.le_of_ble_eq_true hle
 have Cq:=T.len hcs
 have rs:w.ownsRow 0 e T.size (.slice A li.length c) li.length xs:=hm.e i hi
 have azK:gO T (jx (X++cY E) w) w xs li:=hm.d q eE
 rcases rs.2 with ⟨_,jU⟩ | ⟨g,cap,cur,bS,_,dt,Lj,nK,asv,T1⟩
 · omega
 simp only [Value.slice.injEq,true_and] at bS
 obtain ⟨rfl,rfl⟩:=bS
 have apN:bM (some ⟨g,0,none⟩)=g:=rfl
 have axL:bP (some ⟨g,0,none⟩)= 0 :=rfl
 simp only [apN,axL,Nat.zero_add] at al ow
 have hmul:(z.toNat+ 1)*T.size<=li.length*T.size:=Nat.mul_le_mul_right _ DI
 have aIg:li.length*T.size<=c*T.size:=Nat.mul_le_mul_right _ Lj
 have aIj:(z.toNat+ 1)*T.size=z.toNat*T.size+T.size:=by rw [Nat.add_mul,Nat.one_mul]
 have oy:xs.length=li.length*T.size:=rs.1
 have hold:(xs.drop (z.toNat*T.size)).take cs0.length=cs0:=aiT fun j u bf=>by
  have:=ow j u bf
  have GZ:j <cs0.length:=(List.getElem?_eq_some_iff.1 bf).1
  rw [World.ownsRow.cellAt rs (z.toNat*T.size+j) (by omega)] at this
  exact this
 have Lm:=run_storeCells_at P g (z.toNat*T.size+kk) e vs 0 cur w dt (by omega) (fun u hu=>List.all_eq_true.1 aI u hu)
 simp only [Nat.add_zero] at Lm
 obtain ⟨p,b9⟩:∃ p,p=z.toNat*T.size+kk:=⟨_,rfl⟩
 rw [<-b9] at Lm al
 have aId:cur.toList.length=c*T.size:=by simpa using asv
 obtain ⟨gr,Uc⟩:∃ gr,gr=xs.take p++vs++xs.drop (p+vs.length):=⟨_,rfl⟩
 have axH:gr=xs.take (z.toNat*T.size)++lay cs0 kk vs++xs.drop (z.toNat*T.size+T.size):=by
  rw [Uc,V3 _ _ _ Li]
  have azM:xs=xs.take (z.toNat*T.size)++(cs0++xs.drop (z.toNat*T.size+T.size)):=by
   conv=>lhs;rw [<-List.take_append_drop (z.toNat*T.size) xs]
   congr 1
   rw [<-List.take_append_drop cs0.length (xs.drop (z.toNat*T.size)),hold,List.drop_drop,Cq]
  have Lh:(xs.take (z.toNat*T.size)).length=z.toNat*T.size:=by rw [List.length_take];omega
  conv=>lhs;rw [azM]
  rw [List.take_append,List.take_of_length_le (by rw [Lh];omega),Lh,List.drop_append,List.drop_of_length_le (l:=xs.take (z.toNat*T.size)) (by rw [Lh];omega),Lh,
   show p - z.toNat*T.size=kk by omega,show p+vs.length - z.toNat*T.size=kk+vs.length by omega,List.take_append_of_le_length (by omega),List.drop_append_of_le_length (by omega)]
  simp
 have aCD:gr.length=li.length*T.size:=by
  rw [Uc];simp only [List.length_append,List.length_take,List.length_drop];omega
 have m3:(au.row e T.size (.slice (some ⟨g,0,none⟩) li.length c) (li.set z.toNat d') gr).ok (w.setRow g (cur.toList.take p++vs++cur.toList.drop (p+vs.length)).toArray):=by
  show World.ownsRow _ 0 e T.size _ (li.set z.toNat d').length gr
  rw [List.length_set]
  refine ⟨aCD,.inr ⟨g,c,(cur.toList.take p++vs++cur.toList.drop (p+vs.length)).toArray,rfl,Nat.zero_le _,?_,Lj,nK,?_,?_⟩⟩
  · simp only [World.setRow,Array.getElem?_modify,if_true,dt]
    rfl
  · simp only [List.size_toArray,List.length_append,List.length_take,List.length_drop];omega
  · rw [List.toList_toArray,Uc,<-T1]
    exact aE' (by omega) (by omega)
 have aCJ:xf P o a w (w.setRow g (cur.toList.take p++vs++cur.toList.drop (p+vs.length)).toArray):=by
  simp only [xf,execOp,bu,al,hy]
  simp only [List.append_assoc,hlen] at Lm ⊢
  have ru:=ah
  unfold Value.cells at ru
  simp [go_sem,Instr.storeAt,storeVar,bc,ru,hlen,Lm]
 have pA:=hm.H9 (T:=T) (xs:=gr) (li:=li.set z.toNat d') (by rw [axH];exact ad7 Ak azK DI)
 have m2:bg (Value.slice (some ⟨g,0,none⟩) li.length c).ownBlock.toList w (w.setRow g (cur.toList.take p++vs++cur.toList.drop (p+vs.length)).toArray):=⟨rfl,rfl,rfl,by simp [World.setRow],fun b _ ai=>by
  simp only [World.setRow,Array.getElem?_modify]
  rw [if_neg (by simpa [Value.ownBlock,eq_comm] using ai)]⟩
 exact MI hw aCJ bY (k gr _ m2 (pA.vM i hi m2 m3 (by simp [au.row,Value.ownBlock]) (fun b a8=>.inl (by simpa [au.row] using a8))))
theorem rU {α:Type} {T:fJ α} {t e:TypeId} {x y:Operand} {A:Option Addr} {c kk sz:Nat} {li g3:List α} {xs cs0 vs:List Value} {z:Int} {d0 d':α} {v:Value} (i q:Nat) (aw7:some (li.set z.toNat d')=some g3) (hm:aw W M0 X w E D) (hi:E[i]? =some (au.row e T.size (.slice A li.length c) li xs)) (eE:D[q]? =some (ap.rows T xs li))
 (c8:idx li z=some d0) (hcs:T.rd (jx (X++cY E) w) w cs0 d0) (ow:j8 w ⟨bM A,bP A+z.toNat*T.size,none⟩ cs0) (hw:Region.wanted o (yielded ops a.tmps)=true)
 (ah:v.cells=vs.toArray) (bc:∀ w,(Go.sizeOf t).run P w= .ok sz w) (aC:Nat.beq vs.length sz=true) (aI:vs.all (·.oneCell')=true) (hle:Nat.ble (kk+vs.length) cs0.length=true)
 (Ak:T.rd (jx (X++cY E) w) w (lay cs0 kk vs) d')
 (bu:o.op= .store t x y) (al:a.eval x= .pointer (some ⟨bM A,bP A+z.toNat*T.size+kk,none⟩)) (hy:a.eval y=v) (bY:o.dst=none)
 (k:∀ gr aJ,li.length=g3.length->bg (Value.slice A li.length c).ownBlock.toList w aJ->aw W M0 X aJ (E.set i (au.row e T.size (.slice A li.length c) g3 gr)) (ap.rows T gr g3::D)->wpList P ops Q rest a aJ):wpList P ops Q (o::rest) a w:=by
 obtain rfl:=Option.some.inj aw7
 exact aFa i q hm hi eE c8 hcs ow hw ah bc aC aI hle Ak bu al hy bY fun gr aJ=>k gr aJ (by rw [List.length_set])
theorem aEQ {A:Option Addr} {m c sz:Nat} {t e:TypeId} {lo hi:Option Value} {i j:Int} (bV:P.underlying t=some (.slice e)) (bc:∀ w,(Go.sizeOf e).run P w= .ok sz w)
 (rr:(lo=none/\i= 0)\/lo=some (.int .i64 i)) (rn:(hi=none/\j=m)\/hi=some (.int .i64 j)) (h:0 <=i/\i<=j/\j<=m) (CH:m<=c) :
 (Instr.slice t (.slice A m c) lo hi none).run P w= .ok (.slice (if c=i.toNat then A else A.map (·.add (i.toNat*sz))) (j.toNat - i.toNat) (c - i.toNat)) w:=by
 have a8:(Instr.sliceBounds true m c lo hi none).run P w= .ok (i.toNat,j.toNat,c) w:=by
  have JX:∀ code,(Instr.sliceBound (.int .i64 j) c code).run P w= .ok j.toNat w:=fun code=>Xp rfl (by omega)
  have EC:∀ code,(Instr.sliceBound (.int .i64 i) j.toNat code).run P w= .ok i.toNat w:=fun code=>Xp rfl (by omega)
  have ED:j=m-> ∀ code,(Instr.sliceBound (.int .i64 i) m code).run P w= .ok i.toNat w:=fun e code=>Xp rfl (by omega)
  rcases rr with ⟨rfl,rfl⟩ | rfl <;> rcases rn with ⟨rfl,bf⟩ | rfl
  · simp [Instr.sliceBounds,bf]
  · simp [Instr.sliceBounds,JX]
  · simp [Instr.sliceBounds,ED bf,bf]
  · simp [Instr.sliceBounds,JX,EC]
 simp [Instr.slice,run_underlying bV,a8,bc]
theorem OB {A:Option Addr} {m c sz:Nat} {t e:TypeId} {x:Operand} {lo hi:Option Operand} {i j:Int} (bV:P.underlying t=some (.slice e)) (bc:∀ w,(Go.sizeOf e).run P w= .ok sz w) (bu:o.op= .slice t x lo hi none) (al:a.eval x= .slice A m c)
 (rr:(lo=none/\i= 0)\/ ∃ z,lo=some z/\a.eval z= .int .i64 i) (rn:(hi=none/\j=m)\/ ∃ z,hi=some z/\a.eval z= .int .i64 j) (h:0 <=i/\i<=j/\j<=m) (CH:m<=c) :
 cv P o a w (.slice (if c=i.toNat then A else A.map (·.add (i.toNat*sz))) (j.toNat - i.toNat) (c - i.toNat)) w:=by
 have b5:=aEQ (P:=P) (w:=w) (A:=A) (m:=m) (c:=c) (lo:=lo.map a.eval) (hi:=hi.map a.eval) bV bc (i:=i) (j:=j)
  (rr.imp (fun h=>⟨by rw [h.1];rfl,h.2⟩) (fun ⟨z,aI,aV⟩=>by rw [aI,Option.map_some,aV])) (rn.imp (fun h=>⟨by rw [h.1];rfl,h.2⟩) (fun ⟨z,aI,aV⟩=>by rw [aI,Option.map_some,aV])) h CH
 simp only [cv,execOp,bu,al,Instr.sliceAt,Sem.run_bind,run_underlying bV,Result.andThen_ok,Option.map_none,b5]
 rfl
theorem Qh {α:Type} {l r:List α} {i j:Int} (h:cut l i j=some r):(0 <=i/\i<=j/\j<=l.length)/\r=(l.take j.toNat).drop i.toNat:=by
 unfold cut at h
 split at h
 · rename_i bH;exact ⟨bH,by simpa using h.symm⟩
 · cases h
theorem Xd {α:Type} {T:fJ α} {F:Nat->Prop} {w:World}:∀ {l:List α} {xs:List Value} (i j:Nat),gO T F w xs l->gO T F w ((xs.take (j*T.size)).drop (i*T.size)) ((l.take j).drop i)
 | [],xs,i,j,h=>by
   have h:xs= []:=h
   subst h
   have e:(([]:List α).take j).drop i= []:=by simp
   rw [e]
   show List.drop _ (List.take _ _)= []
   simp
 | d::r,xs,i,0,h=>by
   have e:((d::r).take 0).drop i= []:=by simp
   rw [e]
   show List.drop _ (List.take _ _)= []
   simp
 | d::r,xs,0,j+ 1,h=>by
   obtain ⟨cs,ys,rfl,aI,aV⟩:=h
   have aC:=T.len aI
   have cA:=Xd 0 j aV
   simp only [Nat.zero_mul,List.drop_zero] at cA ⊢
   rw [List.take_succ_cons,show (j+ 1)*T.size=cs.length+j*T.size by rw [Nat.add_mul];omega,List.take_append,List.take_of_length_le (by omega),show cs.length+j*T.size - cs.length=j*T.size by omega]
   exact ⟨cs,_,rfl,aI,cA⟩
 | d::r,xs,i+ 1,j+ 1,h=>by
   obtain ⟨cs,ys,rfl,aI,aV⟩:=h
   have aC:=T.len aI
   have cA:=Xd i j aV
   rw [List.take_succ_cons,List.drop_succ_cons,show (j+ 1)*T.size=cs.length+j*T.size by rw [Nat.add_mul];omega,List.take_append,List.take_of_length_le (by omega),show cs.length+j*T.size - cs.length=j*T.size by omega,
    show (i+ 1)*T.size=cs.length+i*T.size by rw [Nat.add_mul];omega,List.drop_append,List.drop_of_length_le (l:=cs) (by omega),show cs.length+i*T.size - cs.length=i*T.size by omega,List.nil_append]
   exact cA
theorem aaM {α:Type} {T:fJ α} {M:List Nat} {A:Option Addr} {c:Nat} {li r:List α} {i j:Int} (h:(ap.of (aN T) [.slice A li.length c] li).ok M w) (b5:cut li i j=some r) :
 (ap.of (aN T) [.slice (if c=i.toNat then A else A.map (·.add (i.toNat*T.size))) (j.toNat - i.toNat) (c - i.toNat)] r).ok M w/\j.toNat - i.toNat=r.length:=by
 obtain ⟨⟨bH,aI,aV⟩,rfl⟩:=Qh b5
 obtain ⟨hn,eD,bS,cf,eI,iy,lm⟩:=h
 simp only [List.cons.injEq,Value.slice.injEq,and_true,true_and] at bS
 obtain ⟨rfl,rfl⟩:=bS
 have hlen:((li.take j.toNat).drop i.toNat).length=j.toNat - i.toNat:=by rw [List.length_drop,List.length_take];omega
 refine ⟨?_,hlen.symm⟩
 show (aN T).rd (jx M w) w _ _
 refine ⟨_,c - i.toNat,by rw [hlen],by rw [hlen];omega,by omega,fun hD=>?_,fun fo=>?_⟩
 · split at hD
   · have:=iy hD;omega
   · cases A with
     | none=>have:=iy rfl;omega
     | some mO=>cases hD
 · have Lk:0 <((li.take j.toNat).drop i.toNat).length:=List.length_pos_iff.2 fo
   have CG:li≠ []:=by intro e;subst e;simp at Lk
   obtain ⟨ln,mb,xs,zJ,zK⟩:=lm CG
   have p_:c≠i.toNat:=by omega
   rw [if_neg p_,ln]
   refine ⟨?_,?_⟩
   · simp only [Option.map_some,q4]
     rfl
   simp only [Option.map_some,q4]
   refine ⟨mb,_,Xd i.toNat j.toNat zJ,fun q u hu=>?_⟩
   have eE:(xs.take (j.toNat*T.size))[i.toNat*T.size+q]? =some u:=by rwa [List.getElem?_drop] at hu
   rw [List.getElem?_take] at eE
   split at eE
   · have:=zK (i.toNat*T.size+q) u eE
     simpa [bM,bP,Nat.add_assoc] using this
   · cases eE
theorem Qi {α:Type} {T:fJ α} {c:Nat} {A:Option Addr} {li r:List α} {i j:Int} {M:List Nat} {w:World} (b9:(ap.of (aN T) [.slice A li.length c] li).ok M w) (b5:cut li i j=some r) :
 ∃ kE dZ,(ap.of (aN T) [.slice kE r.length dZ] r).ok M w/\ ∀ {P:Program} {o:Oper} {a:Act} {t e:TypeId} {x:Operand} {lo hi:Option Operand},P.underlying t=some (.slice e)->(∀ w,(Go.sizeOf e).run P w= .ok T.size w)->o.op= .slice t x lo hi none->a.eval x= .slice A li.length c ->
   ((lo=none/\i= 0)\/ ∃ z,lo=some z/\a.eval z= .int .i64 i)->((hi=none/\j=(li.length:Int))\/ ∃ z,hi=some z/\a.eval z= .int .i64 j)-> ∀ w,cv P o a w (.slice kE r.length dZ) w:=by
 obtain ⟨aI,aV⟩:=aaM b9 b5
 have bH:=(Qh b5).1
 have CH:li.length<=c:=by
  obtain ⟨hn,eD,bS,cf,_⟩:=(b9:(aN T).rd _ w [.slice A li.length c] li)
  simp only [List.cons.injEq,Value.slice.injEq,and_true,true_and] at bS
  omega
 rw [aV] at aI
 refine ⟨_,_,aI,fun bV bc bu al rr rn w=>?_⟩
 have hy:=OB (w:=w) (i:=i) (j:=j) bV bc bu al rr rn bH CH
 rw [aV] at hy
 exact hy
theorem aE1 {α:Type} {T:fJ α} {t e c:Nat} {A:Option Addr} {li r:List α} {x:Operand} {lo hi:Option Operand} {i j:Int} (p:Nat) (hm:aw W M0 X w E D) (b9:D[p]? =some (ap.of (aN T) [.slice A li.length c] li)) (bV:P.underlying t=some (.slice e)) (bc:∀ w,(Go.sizeOf e).run P w= .ok T.size w) (b5:cut li i j=some r)
 (hw:Region.wanted o (yielded ops a.tmps)=true) (bu:o.op= .slice t x lo hi none) (al:a.eval x= .slice A li.length c) (rr:(lo=none/\i= 0)\/ ∃ z,lo=some z/\a.eval z= .int .i64 i) (rn:(hi=none/\j=(li.length:Int))\/ ∃ z,hi=some z/\a.eval z= .int .i64 j)
 (I:Fr n l a) (bY:o.dst=some d) (ai:Nat.blt d n=true)
 (k:∀ b2 kE dZ,Fr n ((d,.slice kE r.length dZ)::l) b2->aw W M0 X w E (ap.of (aN T) [.slice kE r.length dZ] r::D)->wpList P ops Q rest b2 w):wpList P ops Q (o::rest) a w:=by
 obtain ⟨aI,aV⟩:=aaM (hm.d p b9) b5
 have bH:=(Qh b5).1
 have CH:li.length<=c:=by
  obtain ⟨hn,eD,bS,cf,_⟩:=(hm.d p b9:(aN T).rd _ w [.slice A li.length c] li)
  simp only [List.cons.injEq,Value.slice.injEq,and_true,true_and] at bS
  omega
 have hy:=OB (P:=P) (w:=w) (i:=i) (j:=j) bV bc bu al rr rn bH CH
 rw [aV] at hy aI
 exact bR hw hy I bY ai fun b2 fB=>k b2 _ _ fB (hm.more aI)
end
end a5
namespace a5
open Go Go.RowKit J
section
variable {P:Program} {ops:Array Oper} {Q:Exit->Act->World->Prop} {a:Act} {w:World} {rest:List Oper} {o:Oper} {n:h'} {d:Nat} {l:List (Nat × Value)}
 {W:World} {M0 X:List Nat} {E:List au} {D:List ap}
theorem Fr.cd (I:Fr n l a) (t:Nat) {b c:Bool} (aC:hf l t=some (.bool b)) (a8:b=c):Fr n ((t,.bool c)::l) a:=
 ⟨I.size,I.defers,fun u v h=>by
  simp only [hf] at h
  cases Rg:Nat.beq t u with
  | true=>
    rw [Rg] at h
    simp only [Option.some.injEq] at h
    rw [<-Nat.eq_of_beq_eq_true Rg,<-h,<-a8]
    exact I.get t _ aC
  | false=>rw [Rg] at h;exact I.get u v h⟩
theorem KJ {κ β:Type} [DecidableEq κ] {K:tw κ} {ev:β->Value} {w aJ:World} {r:Nat} {m:List (κ × β)} (h:bg [] w aJ) (hm:sg K ev w r m):sg K ev aJ r m:=by
 obtain ⟨es,c,aI,aV⟩:=hm
 exact ⟨es,c,(h.block r (Array.getElem?_eq_some_iff.1 aI).1 (by simp)).trans aI,aV⟩
theorem fT {w bb qI:World} (h:bg [] w bb) (dU:bg [] bb qI):bg [] w qI:=h.trans dU (by simp)
theorem cZ {t:TypeId} {cs:List Value} (hw:Region.wanted o (yielded ops a.tmps)=true) (hy:cv P o a w (.pointer (some ⟨w.heap.size,0,none⟩)) (w.alloc (.cells cs.toArray t))) (I:Fr n l a) (hm:aw W M0 X w E D)
 (bY:o.dst=some d) (ai:Nat.blt d n=true) (k:∀ b2 g aJ,bg [] w aJ->Fr n ((d,.pointer (some ⟨g,0,none⟩))::l) b2->aw W M0 X aJ (au.bs g t cs::E) D->wpList P ops Q rest b2 aJ):wpList P ops Q (o::rest) a w:=
 bR hw hy I bY ai fun b2 fB=>k b2 _ _ (bg.alloc _ _ _) fB (hm.new t cs)
theorem hk {t:TypeId} {cs:List Value} {m:Nat} (hw:Region.wanted o (yielded ops a.tmps)=true) (hy:cv P o a w (.slice (some ⟨w.heap.size,0,none⟩) m m) (w.alloc (.cells cs.toArray t))) (I:Fr n l a) (hm:aw W M0 X w E D)
 (bY:o.dst=some d) (ai:Nat.blt d n=true) (k:∀ b2 g aJ,bg [] w aJ->Fr n ((d,.slice (some ⟨g,0,none⟩) m m)::l) b2->aw W M0 X aJ (au.bs g t cs::E) D->wpList P ops Q rest b2 aJ):wpList P ops Q (o::rest) a w:=
 bR hw hy I bY ai fun b2 fB=>k b2 _ _ (bg.alloc _ _ _) fB (hm.new t cs)
theorem LY {κ β:Type} [DecidableEq κ] {t:TypeId} (K:tw κ) (ev:β->Value) (hw:Region.wanted o (yielded ops a.tmps)=true) (bu:o.op= .makeMap t none) (I:Fr n l a) (hm:aw W M0 X w E D)
 (bY:o.dst=some d) (ai:Nat.blt d n=true) (k:∀ b2 r aJ,bg [] w aJ->Fr n ((d,.map (some r))::l) b2->aw W M0 X aJ (au.map K ev r ([]:List (κ × β))::E) D->wpList P ops Q rest b2 aJ):wpList P ops Q (o::rest) a w:=
 bR hw (aGP bu) I bY ai fun b2 fB=>k b2 _ _ (bg.alloc _ _ _) fB (hm.aDD K ev)
theorem DH {t e:TypeId} {sz:Nat} (hu:P.underlying t=some (.slice e)) (bc:∀ w,(Go.sizeOf e).run P w= .ok sz w) (bu:o.op= .buildSlice t 0 (List.toArray [])) :
 cv P o a w (.slice (some ⟨w.heap.size,0,none⟩) 0 0) (w.alloc (.cells (List.toArray []) e)):=by
 simp only [cv,execOp,bu,Instr.buildSlice,Sem.run_bind,Sem.run_pure,bc,Result.andThen_ok,run_underlying hu]
 simp [Instr.fill,newRow,go_sem]
theorem ff {S:World->Prop} {f p:Nat} {ds:List Nat} {v:Value} (i:Nat) (hi:ops[i]? =some o) (bV:(MJ ops ds i && !Nat.beq p i)=true) (hw:Region.wanted o (yielded ops a.tmps)=true) (hy:∀ aJ,cv P o a aJ v aJ) (uw:S w)
 (I:Fr n l a) (bY:o.dst=some d) (ai:Nat.blt d n=true) (k:∀ b2,Fr n ((d,v)::l) b2->e2 P ops Q p S f (i::ds) b2 w):e2 P ops Q p S (f+ 1) ds a w:=by
 simp only [Bool.and_eq_true,Bool.not_eq_true'] at bV
 obtain ⟨qf,uO⟩:=bV
 have G7:p≠i:=fun e=>by rw [e] at uO;simp at uO
 simp only [MJ,Bool.and_eq_true] at qf
 refine ⟨fun _=>uw,?_⟩
 refine aeI (v:=v) hi (Region.noSelect_spec qf.1.1) G7 (fun c a w h=>h) f _ a w (Region.free_spec hi qf.1.2) (fun _=>uw) (by simpa using qf.2) (.inl ⟨hw,fun w _=>hy w⟩) ?_
 rw [bY]
 exact (k _ (I.put ai)).2
theorem aw.swap {x y:au} (h:aw W M0 X w (x::y::E) D):aw W M0 X w (y::x::E) D:=by
 have I:∀ k,k ∈ cY (y::x::E) ↔ k ∈ cY (x::y::E):=fun k=>by
  simp only [cY,List.flatMap_cons,List.mem_append]
  exact ⟨fun h=>by rcases h with h | h | h <;> simp [h],fun h=>by rcases h with h | h | h <;> simp [h]⟩
 refine ⟨h.ev,h.m',fun k bi=>h.lt k ((I k).1 bi),fun z c8=>h.ok z (by simp only [List.mem_cons] at c8 ⊢;rcases c8 with h | h | h <;> simp [h]),?_,fun z c8=>z.law _ _ w w (bg.refl _ _) (fun k bi=>.inl (by
  rcases List.mem_append.1 bi with e | e
  · exact List.mem_append.2 (.inl e)
  · exact List.mem_append.2 (.inr ((I k).1 e)))) (h.rd z c8)⟩
 have bY:=h.ea
 have bS:cY (x::y::E)=x.gw++(y.gw++cY E):=by simp [cY]
 have cf:cY (y::x::E)=y.gw++(x.gw++cY E):=by simp [cY]
 rw [bS,List.nodup_append,List.nodup_append] at bY
 rw [cf,List.nodup_append,List.nodup_append]
 obtain ⟨aaS,⟨aix,aiu,aiy⟩,aaU⟩:=bY
 exact ⟨aix,⟨aaS,aiu,fun a bN b a8=>aaU a bN b (by simp [a8])⟩,fun a bN b a8=>by
  rcases List.mem_append.1 a8 with e | e
  · exact fun eI=>aaU b e a (by simp [bN]) eI.symm
  · exact aiy a bN b e⟩
theorem LX {K:Act->World->Prop} {i d t:Nat} {c:List Value} (hi:ops[i]? =some o) (hw:Region.wanted o (yielded ops a.tmps)=true) (hy:cv P o a w (.pointer (some ⟨w.heap.size,0,none⟩)) (w.alloc (.cells c.toArray t))) (bY:o.dst=some d)
 (h:K (a.put (some d) (.pointer (some ⟨w.heap.size,0,none⟩))) (w.alloc (.cells c.toArray t))):wpOp P ops Q i K a w:=by
 unfold wpOp
 simp only [hi]
 rw [if_pos hw]
 refine .inl ?_
 unfold Oper.wp
 rw [show (execOp a.eval o).run P w=_ from hy]
 show K (a.put o.dst _) _
 rw [bY]
 exact h
theorem Y5 {S:World->Prop} {f p i:Nat} {ds:List Nat} (b5:Region.ready .any ops (i' ops.size ds)= [i]) (jY:S w) (h:wpOp P ops (NoPanic Q) i (e2 P ops Q p S f (i::ds)) a w):e2 P ops Q p S (f+ 1) ds a w:=
 ⟨fun _=>jY,⟨fun bH=>(by rw [b5] at bH;cases bH),fun j bf=>by
  rw [b5] at bf
  have:j=i:=by simpa using bf
  subst this
  exact h⟩⟩
theorem Pr {S:World->Prop} {f p:Nat} {ds:List Nat} {aH k6:Oper} {xG ea A2 A3:Nat} {ci cj:List Value} (i j:Nat) (hi:ops[i]? =some aH) (bf:ops[j]? =some k6) (hc:(Region.ready .any ops (i' ops.size ds) == [i,j])=true) (p_:(Region.ready .any ops (i' ops.size (i::ds)) == [j])=true) (asu:(Region.ready .any ops (i' ops.size (j::ds)) == [i])=true)
 (pA:(i' ops.size (i::j::ds) == i' ops.size (j::i::ds))=true)
 (K2:aH.guard=none) (ab4:k6.guard=none)
 (acJ:∀ (b:Act) w,cv P aH b w (.pointer (some ⟨w.heap.size,0,none⟩)) (w.alloc (.cells ci.toArray A2))) (acK:∀ (b:Act) w,cv P k6 b w (.pointer (some ⟨w.heap.size,0,none⟩)) (w.alloc (.cells cj.toArray A3)))
 (I:Fr n l a) (hm:aw W M0 X w E D) (abW:aH.dst=some xG) (z7:k6.dst=some ea) (ab_:Nat.blt xG n=true) (x6:Nat.blt ea n=true) (fo:Nat.beq xG ea=false) (jY:∀ aJ,bg [] w aJ->S aJ)
 (k:∀ b2 Cj Ck aJ,bg [] w aJ->w.heap.size<=Cj->w.heap.size<=Ck->Fr n ((xG,.pointer (some ⟨Cj,0,none⟩))::(ea,.pointer (some ⟨Ck,0,none⟩))::l) b2->aw W M0 X aJ (au.bs Cj A2 ci::au.bs Ck A3 cj::E) D->e2 P ops Q p S f (i::j::ds) b2 aJ):e2 P ops Q p S (f+ 2) ds a w:=by
 have b5:=eq_of_beq hc
 have azI:=eq_of_beq p_
 have azJ:=eq_of_beq asu
 have Ai:=eq_of_beq pA
 have G4:xG≠ea:=fun e=>by rw [e] at fo;simp at fo
 have azO:∀ {Cj Ck:Nat} {b2:Act},Fr n ((ea,.pointer (some ⟨Ck,0,none⟩))::(xG,.pointer (some ⟨Cj,0,none⟩))::l) b2->Fr n ((xG,.pointer (some ⟨Cj,0,none⟩))::(ea,.pointer (some ⟨Ck,0,none⟩))::l) b2:=fun h=>⟨h.size,h.defers,fun t v bV=>h.get t v (by
  simp only [hf] at bV ⊢
  cases bS:Nat.beq xG t <;> cases cf:Nat.beq ea t <;> simp only [bS,cf] at bV ⊢ <;> first | exact bV | exact absurd ((Nat.eq_of_beq_eq_true bS).trans (Nat.eq_of_beq_eq_true cf).symm) G4)⟩
 refine ⟨fun _=>jY w (bg.refl _ _),⟨fun bH=>(by rw [b5] at bH;cases bH),fun m uL=>?_⟩⟩
 rw [b5] at uL
 have K4:m=i\/m=j:=by simpa using uL
 rcases K4 with rfl | rfl
 · have bS:bg [] w (w.alloc (.cells ci.toArray A2)):=bg.alloc _ _ _
   refine LX hi (Dl K2) (acJ a w) abW ?_
   have eI:=fT bS (bg.alloc [] (w.alloc (.cells ci.toArray A2)) (.cells cj.toArray A3))
   exact ⟨fun _=>jY _ bS,(Y5 (f:=f) azI (jY _ bS) (LX bf (Dl ab4) (acK _ _) z7 (by
    have:=k _ _ _ _ eI (Nat.le_refl _) (by simp) (azO ((I.put ab_).put x6)) ((hm.new A2 ci).new A3 cj).swap
    unfold e2 at this ⊢
    rw [<-Ai]
    exact this))).2⟩
 · have bS:bg [] w (w.alloc (.cells cj.toArray A3)):=bg.alloc _ _ _
   refine LX bf (Dl ab4) (acK a w) z7 ?_
   have eI:=fT bS (bg.alloc [] (w.alloc (.cells cj.toArray A3)) (.cells ci.toArray A2))
   exact ⟨fun _=>jY _ bS,(Y5 (f:=f) azJ (jY _ bS) (LX hi (Dl K2) (acJ _ _) abW (k _ _ _ _ eI (by simp) (Nat.le_refl _) ((I.put x6).put ab_) ((hm.new A3 cj).new A2 ci)))).2⟩
theorem aEP {f:FuncId} {rc:Operand} {xs:List Operand} {l8:Array TypeId} {vs cs us:List Value}
 (bu:o.op= .call { callee:=.value rc,args:=xs.toArray,argTypes:=l8 }) (z5:∀ args w,(callFunc f args).run P w= .ok (.enter f args) w) (z_:a.eval rc= .func (.func f) us.toArray cs.toArray)
 (iE:xM a xs vs):(execOp a.eval o).run P w= .ok (.enter f (us++vs++cs).toArray) w:=by
 have aI:=KL iE
 simp only [execOp,bu,resolve,List.map_toArray,aI,z_]
 simp [Deferred.ofValue,invoke,z5]
theorem mE {f:FuncId} {rc:Operand} {xs:List Operand} {l8:Array TypeId} {vs cs us:List Value} {R:Ending->World->Prop} (hw:Region.wanted o (yielded ops a.tmps)=true)
 (bu:o.op= .call { callee:=.value rc,args:=xs.toArray,argTypes:=l8 }) (z5:∀ args w,(callFunc f args).run P w= .ok (.enter f args) w) (z_:a.eval rc= .func (.func f) us.toArray cs.toArray)
 (iE:xM a xs vs) (hc:Calls P f (us++vs++cs).toArray w R) (I:Fr n l a) (bY:o.dst=some d) (ai:Nat.blt d n=true)
 (k:∀ e aJ,R e aJ-> ∃ v,e= .returned v/\ ∀ b2,Fr n ((d,v)::l) b2->wpList P ops Q rest b2 aJ):wpList P ops Q (o::rest) a w:=by
 refine wpList_step fun K i_=>?_
 rw [if_pos hw]
 unfold Oper.wp
 rw [aEP bu z5 z_ iE]
 refine hc.mono fun e aJ b5=>?_
 obtain ⟨v,rfl,bi⟩:=k e aJ b5
 rw [bY]
 exact i_ _ _ (bi _ (I.put ai))
end
section
variable {P:Program} {o:Oper} {a:Act} {w:World} {xs ys:Array Value}
theorem aiD {d sz:Nat} {f:Field} {l:List Field} {us vs:List Value} {e q:Prop} [Decidable e] [Decidable q] (ai:(f.name != "_")=true) (dt:∀ w,(isAgg f.type).run P w= .ok true w) (bc:∀ w,(Go.sizeOf f.type).run P w= .ok sz w)
 (al:xs.extract f.offset (f.offset+sz)=us.toArray) (hy:ys.extract f.offset (f.offset+sz)=vs.toArray) (eE:(Op.equalIn (d+ 1) f.type (.agg us.toArray) (.agg vs.toArray)).run P w= .ok (decide q) w)
 (h:(Op.eqFields (d+ 1) xs ys l).run P w= .ok (decide e) w):(Op.eqFields (d+ 1) xs ys (f::l)).run P w= .ok (decide (q/\e)) w:=by
 have Aj:f.name≠ "_" :=by simpa using ai
 simp only [Op.eqFields,Aj,if_true,ne_eq,not_false_iff,part,Sem.run_bind,dt,bc,Result.andThen_ok,al,hy,Sem.run_pure,eE]
 by_cases uM:q
 · simp [uM,h]
 · simp [uM]
theorem aiN {d:Nat} {t:TypeId} {hC:Array Field} {q:Prop} [Decidable q] (bV:P.underlying t=some (.struct hC)) (b9:P.stoodInHeld t=false) (h:(Op.eqFields d xs ys hC.toList).run P w= .ok (decide q) w):(Op.equalIn (d+ 1) t (.agg xs) (.agg ys)).run P w= .ok (decide q) w:=by
 have I:P.fieldsOf t=hC:=by simp [Program.fieldsOf,bV]
 have dU:=run_equalIn_struct (P:=P) w d t xs ys (by rw [I];exact bV) b9
 rw [I,h] at dU
 exact dU
theorem Fs {d:Nat} {f:Field} {l:List Field} {m n:List UInt8} {e:Prop} [Decidable e] (ai:(f.name != "_")=true) (hu:P.underlying f.type=some .string) (dt:∀ w,(isAgg f.type).run P w= .ok false w)
 (al:xs[f.offset]? =some (ak m)) (hy:ys[f.offset]? =some (ak n)) (h:(Op.eqFields (d+ 1) xs ys l).run P w= .ok (decide e) w):(Op.eqFields (d+ 1) xs ys (f::l)).run P w= .ok (decide (m=n/\e)) w:=by
 have Aj:f.name≠ "_" :=by simpa using ai
 have heq:(Op.equalIn (d+ 1) f.type (ak m) (ak n)).run P w= .ok (decide (m=n)) w:=by
  simp only [Op.equalIn,Sem.run_bind,run_underlying hu,Result.andThen_ok]
  rw [<-Pu m n]
  rfl
 simp only [Op.eqFields,Aj,if_true,ne_eq,not_false_iff,part,Sem.run_bind,dt,Result.andThen_ok,al,hy,Bool.false_eq_true,if_false,Sem.run_pure,heq]
 by_cases uM:m=n
 · subst uM;simp [h]
 · simp [uM]
end
section
variable {P:Program} {ops:Array Oper} {Q:Exit->Act->World->Prop} {a:Act} {w:World} {rest:List Oper} {o:Oper} {n:h'} {d:Nat} {l:List (Nat × Value)}
 {W:World} {M0 X:List Nat} {E:List au} {D:List ap}
theorem ad9 {F:Nat->Prop} {w:World}:∀ s:List UInt8,gO MN F w (s.map fun b=>Value.int .u8 (b.toNat:Int)) s
 | []=>rfl
 | b::r=>⟨[.int .u8 (b.toNat:Int)],_,rfl,rfl,ad9 r⟩
theorem aDC {t eF e:TypeId} {x:Operand} {s r:List UInt8} (b5:bytesOf s=some r) (bV:P.underlying t=some .string) (pE:P.underlying eF=some (.slice e)) (he:P.underlying e=some (.int .u8)) (hw:Region.wanted o (yielded ops a.tmps)=true)
 (bu:o.op= .convert t eF x) (al:a.eval x=ak s) (I:Fr n l a) (hm:aw W M0 X w E D) (bY:o.dst=some d) (ai:Nat.blt d n=true)
 (k:∀ b2 A c aJ,bg [] w aJ->Fr n ((d,.slice A r.length c)::l) b2->aw W M0 X aJ E (ap.of (aN MN) [.slice A r.length c] r::D)->wpList P ops Q rest b2 aJ):wpList P ops Q (o::rest) a w:=by
 unfold bytesOf at b5
 split at b5
 · rename_i hle
   simp only [Option.some.injEq] at b5
   subst b5
   have sL:=run_bytes_of_string (P:=P) w t eF e ⟨⟨s⟩⟩ bV pE he
   have lP:(⟨⟨s⟩⟩:ByteArray).size=s.length:=rfl
   have hc:=grownCap_ge w s.length 0 e
   have nK:=grownCap_le_maxLen w s.length 0 e (by simp only [maxLen];omega)
   obtain ⟨B,j'⟩:∃ B,B=bytesRow ⟨⟨s⟩⟩ (grownCap w s.length 0 e):=⟨_,rfl⟩
   obtain ⟨zs,Cq⟩:∃ zs,zs=grownCap w s.length 0 e:=⟨_,rfl⟩
   rw [lP,<-j',<-Cq] at sL
   rw [<-Cq] at hc nK
   have hy:cv P o a w (.slice (some ⟨w.heap.size,0,none⟩) s.length zs) (w.drew.alloc (.cells B e (B.size,B.size+ 1))):=by
    simp only [cv,execOp,bu,al,Sem.run_bind,sL,Result.andThen_ok]
    rfl
   have m2:bg [] w (w.drew.alloc (.cells B e (B.size,B.size+ 1))):=(bg.drew [] w).trans (bg.alloc [] _ _) (by simp)
   have pA:=hm.dX m2
   refine bR hw hy I bY ai fun b2 fB=>k b2 _ _ _ m2 fB (pA.more ⟨_,_,rfl,hc,nK,(fun h=>by cases h),fun _=>⟨rfl,⟨?_,by show w.heap.size <_;simp⟩,_,ad9 s,fun j u bf=>?_⟩⟩)
   · intro bi
     have:w.heap.size <w.heap.size:=by
      rcases List.mem_append.1 bi with bS | bS
      · exact Nat.lt_of_lt_of_le (hm.m' _ bS).1 hm.ev.size
      · exact (hm.lt _ bS).1
     omega
   · rw [List.getElem?_map,Option.map_eq_some_iff] at bf
     obtain ⟨b,a8,rfl⟩:=bf
     obtain ⟨GZ,jZ⟩:=List.getElem?_eq_some_iff.1 a8
     have:=bytesRow_at ⟨⟨s⟩⟩ (grownCap w s.length 0 e) j (by simpa using GZ)
     rw [<-j'] at this
     show World.cell? _ ⟨w.heap.size,0 +j,none⟩=_
     simp only [World.cell?,World.alloc]
     rw [show (w.drew.heap.push _)[w.heap.size]? =some _ from Array.getElem?_push_size (xs:=w.heap)]
     simp only [Nat.zero_add,this]
     simp [jZ]
 · cases b5
end
end a5
namespace a5
open Go Go.RowKit J
section
variable {P:Program} {o:Oper} {a:Act} {w:World} {x y:Operand} {t eF e:TypeId}
theorem th {A:Option Addr} {n c:Nat} (bV:P.underlying t=some (.slice e)) (bu:o.op= .binOp .eql t x y eF) (al:a.eval x= .slice A n c) (hy:a.eval y= .slice none 0 0):cv P o a w (.bool A.isNone) w:=by
 have h:∀ d:Nat,(Op.equalIn (d+ 1) t (.slice A n c) (.slice none 0 0)).run P w= .ok A.isNone w:=fun d=>by
  cases A <;> simp [Op.equalIn,run_underlying bV]
 have aV:(binOp .eql t (.slice A n c) (.slice none 0 0)).run P w= .ok (.bool A.isNone) w:=by
  simp only [binOp]
  simp [Op.equal,Op.maxDepth,h 9999]
 simp only [cv,execOp,bu,al,hy]
 simp [go_sem,aV]
theorem HR {α:Type} {T:fJ α} {M:List Nat} {w:World} {n c:Nat} {l:List α} (h:(ap.of (aN T) [.slice none n c] l).ok M w):l= []/\n= 0 /\c= 0 :=by
 obtain ⟨A,dZ,bS,cf,eI,iy,lm⟩:=h
 simp only [List.cons.injEq,Value.slice.injEq,and_true] at bS
 obtain ⟨rfl,rfl,rfl⟩:=bS
 have hc:=iy rfl
 have aC:l.length= 0 :=by omega
 exact ⟨List.eq_nil_of_length_eq_zero aC,aC,hc⟩
theorem Fo {α:Type} {b:Nat} {r:List α} (h:((J.eO b [] []).bind fun l=>some l)=some r):r= []:=by
 simp [J.eO] at h
 exact h
end
section
variable {P:Program} {Q:Exit->Act->World->Prop} {a:Act} {w:World}
def EA (P:Program) (c:Code) (Q:Exit->Act->World->Prop):Nat->Act->World->Prop
 | 0,_,_=>False
 | n+ 1,a,w=>c.wp P (Exit.then (EA P c Q n) Q) a w
theorem bn {c:Operand} {x y:Code} {t:Bool} {ρ:Type} {p q:Option ρ} {r:ρ} (hc:a.eval c= .bool t) (h:cond t p q=some r) (bV:t=true->p=some r->x.wp P Q a w) (I:t=false->q=some r->y.wp P Q a w):(Code.cond c x y).wp P Q a w:=
 wp_cond_split hc (fun e=>bV e (dz e h)) (fun e=>I e (dy e h))
theorem aay {c:Code} (n:Nat) (h:EA P c Q n a w):(Code.loop c).wp P Q a w:=by
 refine cN (fun k a w=>EA P c Q k a w) n h (fun a w h=>h) fun k a w Cl K i_=>?_
 exact wp_mono (h:=Cl) fun e a w h=>by
  cases e with
  | normal=>exact i_ a w h
  | _=>exact h
theorem rX {c:Code} {n:Nat} (h:c.wp P (Exit.then (EA P c Q n) Q) a w):EA P c Q (n+ 1) a w:=h
end
end a5
namespace a5
open Go Go.RowKit J
section
variable {P:Program} {ops:Array Oper} {Q:Exit->Act->World->Prop} {a:Act} {w j6 aJ:World} {rest:List Oper} {o:Oper} {n:h'} {d:Nat} {l:List (Nat × Value)}
 {W:World} {M0 X:List Nat} {E:List au} {D:List ap}
theorem aw.C7 (h:aw W M0 X w E D) {g:Nat} {t:TypeId} {cs:List Value} {x:au} (i j:Nat) (hi:E[i]? =some (au.bs g t cs)) (bf:E[j]? =some x) (fo:i≠j):g ∉ x.gw:=fun bi=>
 (KM h.ea i _ hi).2 j x bf fo g (by simp [au.bs]) bi
theorem zH {g:Nat} (h:bg [] j6 w) (dU:bg [g] w aJ) (dt:j6.heap.size<=g):bg [] j6 aJ:=h.trans dU (fun x al=>.inr (by simp at al;omega))
theorem Cc {M:List Nat} {p:Addr} {cs:List Value} (h:bg M w aJ) (ai:p.block ∉ M) (ey:p.block <w.heap.size) (hc:j8 w p cs):j8 aJ p cs:=hc.law (h.block p.block ey ai)
theorem aDE {t:TypeId} {cs:List Value} (hw:Region.wanted o (yielded ops a.tmps)=true) (hy:cv P o a w (.pointer (some ⟨w.heap.size,0,none⟩)) (w.alloc (.cells cs.toArray t))) (I:Fr n l a) (hm:aw W M0 X w E D)
 (bY:o.dst=some d) (ai:Nat.blt d n=true) (k:∀ b2 g aJ,bg [] w aJ->w.heap.size<=g->Fr n ((d,.pointer (some ⟨g,0,none⟩))::l) b2->aw W M0 X aJ (au.bs g t cs::E) D->wpList P ops Q rest b2 aJ):wpList P ops Q (o::rest) a w:=
 bR hw hy I bY ai fun b2 fB=>k b2 _ _ (bg.alloc _ _ _) (Nat.le_refl _) fB (hm.new t cs)
theorem yF {t:TypeId} {cs:List Value} {m:Nat} (hw:Region.wanted o (yielded ops a.tmps)=true) (hy:cv P o a w (.slice (some ⟨w.heap.size,0,none⟩) m m) (w.alloc (.cells cs.toArray t))) (I:Fr n l a) (hm:aw W M0 X w E D)
 (bY:o.dst=some d) (ai:Nat.blt d n=true) (k:∀ b2 g aJ,bg [] w aJ->w.heap.size<=g->Fr n ((d,.slice (some ⟨g,0,none⟩) m m)::l) b2->aw W M0 X aJ (au.bs g t cs::E) D->wpList P ops Q rest b2 aJ):wpList P ops Q (o::rest) a w:=
 bR hw hy I bY ai fun b2 fB=>k b2 _ _ (bg.alloc _ _ _) (Nat.le_refl _) fB (hm.new t cs)
theorem AZ {g p sz:Nat} {t pR:TypeId} {x y:Operand} {cs vs:List Value} {v:Value} (i:Nat) (hm:aw W M0 X w E D) (hi:E[i]? =some (au.bs g pR cs)) (hw:Region.wanted o (yielded ops a.tmps)=true)
 (ah:v.cells=vs.toArray) (bc:∀ w,(Go.sizeOf t).run P w= .ok sz w) (aC:Nat.beq vs.length sz=true) (aI:vs.all (·.oneCell')=true) (hle:Nat.ble (p+vs.length) cs.length=true)
 (bu:o.op= .store t x y) (al:a.eval x= .pointer (some ⟨g,p,none⟩)) (hy:a.eval y=v) (bY:o.dst=none)
 (k:∀ aJ,bg [g] w aJ->aw W M0 X aJ (E.set i (au.bs g pR (lay cs p vs))) D->wpList P ops Q rest a aJ):wpList P ops Q (o::rest) a w:=by
 obtain ⟨aJ,aI,aV,bX⟩:=afA ah bc aC aI hle (hm.e i hi) bu al hy
 exact MI hw aI bY (k aJ aV (hm.vM i hi aV bX (by simp [au.bs]) (fun k bi=>.inl bi)))
end
end a5
namespace a5
open Go Go.RowKit J
def qC:List Oper->Bool
 | []=>true
 | o::r=>(match o.op with
   | .defer _=>false
   | _=>true) && qC r
theorem LZ:∀ {l:List Oper},qC l=true-> ∀ o ∈ l,∀ c,o.op≠ .defer c
 | [],_,o,bu,_=>by simp at bu
 | p::r,h,o,bu,c=>by
   simp only [qC,Bool.and_eq_true] at h
   rcases List.mem_cons.1 bu with rfl | e
   · intro cf
     rw [cf] at h
     exact absurd h.1 (by simp)
   · exact LZ h.2 o e c
def lf (ro:Option Nat):Fence:={ Fence.wide with round:=ro }
theorem Xh {ro:Option Nat} {q:Prop}:(lf ro).depth.isSome=true->q:=fun h=>by simp [lf,Fence.wide] at h
section
variable {P:Program} {ops:Array Oper} {Q:Exit->Act->World->Prop} {K:Act->World->Prop} {a:Act} {w:World} {o:Oper} {ro:Option Nat} {n:Nat}
theorem Wc (bY:∀ c,o.op≠ .defer c) (h:o.wp P a w K Q):o.wpIn (lf ro) n P a w K Q:=by
 unfold Oper.wpIn
 refine ⟨fun _ _=>trivial,?_⟩
 rw [Oper.semAt_eq _ _ _ bY]
 unfold Oper.wp at h
 generalize (execOp a.eval o).run P w=r at *
 cases r with
 | ok x aJ=>
   cases x <;> simp only [Oper.upon,Oper.uponIn] at h ⊢ <;> first
    | exact h
    | exact ⟨Xh,(callsIn_wide (n:=n - 1)).2 h⟩
    | exact ⟨Xh,fun c cs _=>let ⟨v,aJ,r,s⟩:=h c cs;⟨v,aJ,r,stepsIn_wide.2 s⟩⟩
 | halt x aJ=>cases x <;> simp only [Oper.upon,Oper.uponIn] at h ⊢ <;> exact h
theorem LS (hd:∀ a w,¬ Q .outgrown a w):∀ {os:List Oper} {a:Act} {w:World},qC os=true->wpList P ops Q os a w->wpListIn (lf ro) n P ops Q os a w
 | [],_,_,_,h=>h
 | o::r,a,w,bY,h=>by
   have z6:=bY
   simp only [qC,Bool.and_eq_true] at z6
   simp only [wpList] at h
   simp only [wpListIn]
   split
   · rename_i hw
     rw [if_pos hw] at h
     rcases h with h | ⟨_,b2,aJ,h⟩
     · exact Wc (LZ bY o (by simp)) (Oper.wp_mono (fun a w h=>LS hd z6.2 h) h)
     · exact absurd h (hd _ _)
   · rename_i hw
     rw [if_neg hw] at h
     exact ⟨fun _ _=>trivial,LS hd z6.2 h⟩
theorem aDm (k:Nat) {lo:List Oper} (bY:qC (lo.take k)=true) (h:wpList P ops (Exit.then (wpListIn (lf ro) n P ops Q (lo.drop k)) (fun _ _ _=>False)) (lo.take k) a w):wpListIn (lf ro) n P ops Q lo a w:=by
 have key:∀ (os rest:List Oper) (a:Act) (w:World),qC os=true->wpList P ops (Exit.then (wpListIn (lf ro) n P ops Q rest) (fun _ _ _=>False)) os a w->wpListIn (lf ro) n P ops Q (os++rest) a w:=by
  intro os
  induction os with
  | nil=>intro rest a w _ h;exact h
  | cons o r cA=>
    intro rest a w bY h
    have z6:=bY
    simp only [qC,Bool.and_eq_true] at z6
    simp only [wpList] at h
    simp only [List.cons_append,wpListIn]
    split
    · rename_i hw
      rw [if_pos hw] at h
      rcases h with h | ⟨_,b2,aJ,h⟩
      · have aI:=Wc (ro:=ro) (n:=n) (LZ bY o (by simp)) (Oper.wp_mono (fun a w h=>cA rest a w z6.2 h) h)
        refine ⟨aI.1,?_⟩
        have aV:=aI.2
        revert aV
        generalize (o.semAt (lf ro).round a.eval).run P w=L4
        intro aV
        cases L4 with
        | ok x aJ=>
          cases x <;> simp only [Oper.uponIn] at aV ⊢ <;> first
           | exact aV
           | exact ⟨aV.1,CallsIn.mono aV.2 (fun e aeB he=>by cases e <;> first | exact he | exact absurd he (by simp [Exit.then,LetsOut]))⟩
           | exact ⟨aV.1,RoundIn.mono aV.2 (fun e aeB he=>by cases e <;> first | exact he | exact absurd he (by simp [Exit.then,LetsOut]))⟩
        | halt x aJ=>cases x <;> simp only [Oper.uponIn] at aV ⊢ <;> first | exact aV | exact absurd aV (by simp [Exit.then])
      · exact absurd h (by simp [Exit.then])
    · rename_i hw
      rw [if_neg hw] at h
      exact ⟨fun _ _=>trivial,cA rest _ _ z6.2 h⟩
 have:=key (lo.take k) (lo.drop k) a w bY h
 rwa [List.take_append_drop] at this
theorem aDN (hd:∀ a w,¬ Q .outgrown a w) (bY:qC ops.toList=true) {i:Nat} (h:wpOp P ops Q i K a w):wpOpIn (lf ro) n P ops Q i K a w:=by
 unfold wpOp at h
 unfold wpOpIn
 split
 · rename_i bH
   rw [bH] at h
   exact h
 · rename_i o bu
   rw [bu] at h
   have hm:o ∈ ops.toList:=by
    have:=List.mem_of_getElem? (l:=ops.toList) (i:=i) (a:=o) (by rw [Array.getElem?_toList];exact bu)
    exact this
   simp only at h
   split
   · rename_i hw
     rw [if_pos hw] at h
     rcases h with h | ⟨_,b2,aJ,h⟩
     · exact Wc (LZ bY o hm) h
     · exact absurd h (hd _ _)
   · rename_i hw
     rw [if_neg hw] at h
     exact ⟨fun _ _=>trivial,h⟩
theorem Y7 (hd:∀ a w,¬ Q .outgrown a w) (bY:qC ops.toList=true):∀ {f:Nat} {hG:Array Bool} {a:Act} {w:World},wpAny P .any ops Q f hG a w->wpAnyIn (lf ro) n P .any ops Q f hG a w
 | 0,_,_,_,h=>h
 | f+ 1,hG,a,w,h=>⟨h.1,fun i hi=>aDN hd bY (wpOp_mono (fun a w h=>Y7 hd bY h) (h.2 i hi))⟩
end
def j9 (ro:Option Nat) (n:Nat) (P:Program) (c:Code) (Q:Exit->Act->World->Prop) (a:Act) (w:World):Prop:=(∀ a w,¬ Q .outgrown a w)->c.wpIn (lf ro) n P Q a w
section
variable {P:Program} {Q:Exit->Act->World->Prop} {a:Act} {w:World} {ro:Option Nat} {n:Nat}
theorem MT (h:Q .normal a w):j9 ro n P .skip Q a w:=fun _=>wpIn_skip h
theorem XN {id:Nat} (h:Q (.exit id) a w):j9 ro n P (.exit id) Q a w:=fun _=>wpIn_exit h
theorem n7 {x y:Code} (h:∀ K:Act->World->Prop,(∀ a w,j9 ro n P y Q a w->K a w)->j9 ro n P x (Exit.then K Q) a w):j9 ro n P (.seq x y) Q a w:=
 fun hd=>wpIn_seq (h _ (fun _ _ h=>h hd) hd)
theorem XM {c:Operand} {x y:Code} {t:Bool} (hc:a.eval c= .bool t) (bV:t=true->j9 ro n P x Q a w) (I:t=false->j9 ro n P y Q a w):j9 ro n P (.cond c x y) Q a w:=
 fun hd=>wpIn_cond_split hc (fun e=>bV e hd) (fun e=>I e hd)
theorem aFG {c:Operand} {x y:Code} {b:Bool} (hc:a.eval c= .bool b) (a8:b=false) (h:j9 ro n P y Q a w):j9 ro n P (.cond c x y) Q a w:=fun hd=>wpIn_cond_false (by rw [hc,a8]) (h hd)
theorem XK {id:Nat} {c:Code} (h:j9 ro n P c (Exit.inBlock id Q) a w):j9 ro n P (.block id c) Q a w:=fun hd=>wpIn_block (h hd)
theorem XL {id:Nat} {c:Code} (mN:Act->World->Prop) (al:∀ K:Act->World->Prop,(∀ a w,mN a w->K a w)->j9 ro n P c (Exit.inBlock id (Exit.then K Q)) a w) (hy:∀ a w,mN a w->Q .normal a w):j9 ro n P (.block id c) Q a w:=by
 intro hd
 refine wpIn_block (wpIn_mono (al _ hy hd) ?_)
 intro e a w h
 cases e with
 | exit i=>
   by_cases hi:i=id
   · simpa [Exit.inBlock,Exit.then,hi] using h
   · simpa [Exit.inBlock,Exit.then,hi] using h
 | _=>exact h
theorem aeM {c:Code} (o4:Nat->Act->World->Prop) (k:Nat) (h:o4 k a w) (bH:∀ a w,¬ o4 0 a w)
 (round:∀ k a w,o4 (k+ 1) a w-> ∀ K:Act->World->Prop,(∀ a w,o4 k a w->K a w)->j9 ro n P c (Exit.then K Q) a w):j9 ro n P (.loop c) Q a w:=by
 intro hd
 refine wpIn_loop (fun a w=>∃ n,o4 n a w) (fun a w=>leastOf (fun n=>o4 n a w)) ⟨k,h⟩ ?_
 intro a w Cl
 have aI:=(leastOf_spec Cl).1
 cases bi:leastOf (fun n=>o4 n a w) with
 | zero=>rw [bi] at aI;exact absurd aI (bH a w)
 | succ m=>
   rw [bi] at aI
   exact round m a w aI _ (fun b2 aJ dU=>⟨⟨m,dU⟩,Nat.lt_succ_of_le ((leastOf_spec ⟨m,dU⟩).2 m dU)⟩) hd
theorem pT {id:Nat} {l:List Oper} (bY:qC l=true) (h:wpList P l.toArray Q l a w):j9 ro n P (.region id l.toArray false) Q a w:=fun hd=>wpIn_region_lit (LS hd bY h)
theorem aeL {id m:Nat} {lo:List Oper} (p:Nat) (S:World->World->Prop) (hm:P.follows .mixedOrders=true) (aC:Nat.beq lo.length m=true) (bY:qC lo=true) (h:∀ aJ,bg [] w aJ->e2 P lo.toArray Q p (S aJ) m [] a aJ):j9 ro n P (.region id lo.toArray true) Q a w:=by
 have aC:=Nat.eq_of_beq_eq_true aC
 subst aC
 intro hd
 exact wpIn_mono (Q:=NoPanic Q) (wpIn_region_any hm (Y7 (Q:=NoPanic Q) (fun a w=>hd a w) bY (h _ (bg.drew [] w)).wpAny)) NoPanic.imp
theorem aFH {id:Nat} {l:List Oper} (h:(∀ a w,¬ Q .outgrown a w)->wpListIn (lf ro) n P l.toArray Q l a w):j9 ro n P (.region id l.toArray false) Q a w:=fun hd=>wpIn_region_lit (h hd)
end
def au.obj (g:Nat) (o:Obj):au where
 gw:=[g]
 ok w:=w.heap[g]? =some o
 law w aJ h bi:=(h g (by simp)).trans bi
section
variable {W w:World} {M0 X:List Nat} {E:List au} {D:List ap}
theorem aiS (w:World) (g:Nat) (o:Obj):bg [g] w (w.putObj g o):=
 ⟨rfl,rfl,rfl,by simp,fun k _ ai=>World.putObj_heap_other (by simpa using ai)⟩
theorem aw.putObj {g:Nat} {o:Obj} (hm:aw W M0 X w E D) (i:Nat) (hi:E[i]? =some (au.obj g o)) (mC:Obj):aw W M0 X (w.putObj g mC) (E.set i (au.obj g mC)) D:=
 hm.vM i hi (aiS w g mC) (by
   have h:w.heap[g]? =some o:=hm.e i hi
   exact World.putObj_heap_same (Array.getElem?_eq_some_iff.1 h).1) (by simp [au.obj]) (fun k bi=>.inl bi)
theorem aw.newObj (hm:aw W M0 X w E D) (o:Obj):aw W M0 X (w.alloc o) (au.obj w.heap.size o::E) D:=
 hm.push _ (bg.alloc _ _ _) (World.alloc_heap_new w o) (fun k bi=>by simp [au.obj] at bi;subst bi;exact ⟨Nat.le_refl _,by simp⟩) (by simp [au.obj])
end
def mark (r:Nat):Deferred:={ target:=.collected r,args:=#[] }
theorem aaX {P:Program} {f:FuncId} {fn:Func} {c:Code} {vs:List Value} {w:World} {R:Ending->World->Prop} {n:Nat}
 (I:P.funcs[f]? =some fn) (a8:fn.body=some c) (ai:fn.ntmps=n) (aC:Nat.ble vs.length n=true)
 (h:∀ a,Fr ⟨n,[]⟩ (xH 0 vs) a->c.wp P (bodyPostM Fence.wide 0 P fn R) a w):Calls P f vs.toArray w R:=by
 refine (callsIn_wide (n:=0)).1 (callsIn_of_wp_marks I a8 trivial (wpIn_wide.2 ?_))
 rw [ai]
 exact h _ (Fr.init vs n aC)
section
variable {P:Program} {a:Act} {w:World} {W:World} {M0 X:List Nat} {E:List au} {D:List ap} {fn:Func} {R:Ending->World->Prop} {l:List (Nat × Value)} {n g t u:Nat} {v rY:Value}
theorem adE (i:Nat) (I:Fr ⟨n,[mark g]⟩ l a) (hm:aw W M0 X w E D) (hi:E[i]? =some (au.obj g (.deferred (some [])))) (h:∀ aJ,aw W M0 X aJ (E.set i (au.obj g (.deferred none))) D-> ∃ v,(results fn a.tmps).run P aJ= .ok v aJ/\R (.returned v) aJ) :
 bodyPostM Fence.wide 0 P fn R .ret a w:=by
 show LeavesInM Fence.wide 0 P fn a.tmps R a.defers .returning w
 rw [I.defers]
 exact ⟨by simp,.inl ⟨g,_,rfl,run_takeDeferred (hm.e i hi),h _ (hm.putObj i hi _)⟩⟩
theorem aDr (i:Nat) (b5:fn.results= #[.tmp t]) (I:Fr ⟨n,[mark g]⟩ l a) (hm:aw W M0 X w E D) (hi:E[i]? =some (au.obj g (.deferred (some [])))) (aC:hf l t=some v)
 (h:∀ aJ,aw W M0 X aJ (E.set i (au.obj g (.deferred none))) D->R (.returned v) aJ):bodyPostM Fence.wide 0 P fn R .ret a w:=
 adE i I hm hi fun aJ hv=>⟨_,results_tmp b5 _ _ _,by rw [I.get _ _ aC];exact h aJ hv⟩
theorem aDs (i:Nat) (b5:fn.results= #[.tmp t,.tmp u]) (I:Fr ⟨n,[mark g]⟩ l a) (hm:aw W M0 X w E D) (hi:E[i]? =some (au.obj g (.deferred (some [])))) (aC:hf l t=some v) (qd:hf l u=some rY)
 (h:∀ aJ,aw W M0 X aJ (E.set i (au.obj g (.deferred none))) D->R (.returned (.tuple #[v,rY])) aJ):bodyPostM Fence.wide 0 P fn R .ret a w:=
 adE i I hm hi fun aJ hv=>⟨_,results_tmp2 b5 _ _ _,by rw [I.get _ _ aC,I.get _ _ qd];exact h aJ hv⟩
end
theorem aiC {P:Program} {f:FuncId} {fn:Func} {c:Code} {vs:List Value} {w:World} {R:Ending->World->Prop} {n:Nat}
 (I:P.funcs[f]? =some fn) (a8:fn.body=some c) (ai:fn.ntmps=n) (aC:Nat.ble vs.length n=true) (jG:∀ w,¬ R .outgrown w)
 (h:∀ a,Fr ⟨n,[]⟩ (xH 0 vs) a->j9 none 1 P c (bodyPost P fn R) a w):CallsIn (lf none) 1 P f vs.toArray w R:=by
 refine callsIn_of_wp I a8 trivial ?_
 rw [ai]
 exact h _ (Fr.init vs n aC) (fun a w h=>jG w h)
theorem zq {P:Program} {fn:Func} {R:Ending->World->Prop} {a:Act} {w:World} (h:bodyPost P fn R .ret a w):bodyPost P fn R .normal a w:=h
theorem aeC {n:Nat} (h:n<=maxLen):J.av ((n:Int) - 1)=(n:Int) - 1 :=by
 unfold J.av
 simp only [maxLen] at h
 omega
theorem aCO {kZ pre rem:List Int} {x:Int} (h:kZ=(x::rem).reverse++pre):J.idx kZ (rem.length:Int)=some x:=by
 subst h
 unfold J.idx
 rw [if_pos (by omega)]
 simp
def Y1 (P:Program) (f:FuncId):Prop:=∀ (mN:List Int->World->Prop) (kZ:List Int) (A:Option Addr) (c lq L:Nat) (j6:World),
 (∀ rem w,mN rem w-> ∃ W M0 X E,aw W M0 X w E [ap.c3 lq [.slice A kZ.length c],ap.of (aN (aq .i64)) [.slice A kZ.length c] kZ]) ->
 (∀ x rem w,mN (x::rem) w->YieldAt (lf none) 0 P L #[.int .i64 (rem.length:Int),.int .i64 x] w (fun e aJ=>e= .returned (.bool true)/\mN rem aJ)) ->
 mN kZ.reverse j6->CallsIn (lf none) 1 P f #[.func (.yield L) #[] #[],.pointer (some ⟨lq,0,none⟩)] j6 (fun e aJ=>(∃ v,e= .returned v)/\mN [] aJ)
section
variable {P:Program} {ops:Array Oper} {Q:Exit->Act->World->Prop} {a:Act} {w:World} {rest:List Oper} {o:Oper} {n:h'} {d L:Nat} {l:List (Nat × Value)}
theorem aEU {rc:Operand} {xs:List Operand} {l8:Array TypeId} {vs:List Value} (bu:o.op= .call { callee:=.value rc,args:=xs.toArray,argTypes:=l8 }) (z_:a.eval rc= .func (.yield L) #[] #[]) (iE:xM a xs vs) :
 (execOp a.eval o).run P w=(Instr.yield L vs.toArray).run P w:=by
 have aI:=KL iE
 simp only [execOp,bu,resolve,List.map_toArray,aI,z_]
 simp [Deferred.ofValue,invoke]
theorem aG6 {rc:Operand} {xs:List Operand} {l8:Array TypeId} {vs:List Value} {R:Ending->World->Prop} (hw:Region.wanted o (yielded ops a.tmps)=true) (bu:o.op= .call { callee:=.value rc,args:=xs.toArray,argTypes:=l8 })
 (z_:a.eval rc= .func (.yield L) #[] #[]) (iE:xM a xs vs) (hy:YieldAt (lf none) 0 P L vs.toArray w R) (I:Fr n l a) (bY:o.dst=some d) (ai:Nat.blt d n=true)
 (k:∀ e aJ,R e aJ-> ∃ v,e= .returned v/\ ∀ b2,Fr n ((d,v)::l) b2->wpListIn (lf none) 1 P ops Q rest b2 aJ):wpListIn (lf none) 1 P ops Q (o::rest) a w:=by
 refine wpListIn_step fun K i_=>?_
 rw [if_pos hw]
 refine ⟨fun _ _=>trivial,?_⟩
 obtain ⟨fn,tmps,assign,body,aI,aV⟩:=hy
 rw [Oper.semAt_eq _ _ _ (by rw [bu];simp),aEU bu z_ iE,aI]
 refine ⟨Xh,RoundIn.mono aV ?_⟩
 intro e aJ b5
 obtain ⟨v,rfl,bi⟩:=k e aJ b5
 rw [bY]
 exact i_ _ _ (bi _ (I.put ai))
end
section
variable {P:Program} {Q:Exit->Act->World->Prop} {a:Act} {w:World} {W:World} {M0 X:List Nat} {E:List au} {D:List ap}
theorem aah {β:Type} {CN aes js il n lq c:Nat} {A:Option Addr} {l:List (Nat × Value)} {l1:Int->Int->List (Nat × Value)} {assign body:Code} (BF:β->List au) (wx:β->List ap) (rel:List Int->β->Prop) (kZ:List Int) (BR:β) (mD n1:Nat)
 (awN:Y1 P CN) (aaW:∀ args w,(callFunc CN args).run P w= .ok (.enter CN args) w)
 (I:Fr ⟨n,[]⟩ l a) (dt:hf l aes=some (.func (.func CN) #[] #[.pointer (some ⟨lq,0,none⟩)])) (axN:Nat.blt js n=true) (axO:Nat.blt il n=true)
 (hm:aw W M0 X w (BF BR) (wx BR)) (bH:rel kZ.reverse BR)
 (axR:∀ b,(wx b)[mD]? =some (ap.c3 lq [.slice A kZ.length c])) (axS:∀ b,(wx b)[n1]? =some (ap.of (aN (aq .i64)) [.slice A kZ.length c] kZ))
 (bN:∀ L i x w b2 (K:Act->World->Prop),Fr ⟨n,[]⟩ ((il,.int .i64 x)::(js,.int .i64 i)::l) b2->(∀ BP,Fr ⟨n,[]⟩ (l1 i x) BP->K BP w)->j9 (some L) 0 P assign (Exit.then K (fun _ _ _=>False)) b2 w)
 (a8:∀ L g qD mb qE b i x rem w b2 (K:Exit->Act->World->Prop),rel (x::rem) b->Fr ⟨n,[]⟩ (l1 i x) b2->aw W M0 X w (au.obj g qD::au.obj mb qE::BF b) (wx b) ->
  (∀ tM BP aJ,rel rem tM->aw W M0 X aJ (au.obj g qD::au.obj mb qE::BF tM) (wx tM)->K .normal BP aJ)->j9 (some L) 0 P body K b2 w)
 (atX:∀ g b b2 aJ,rel [] b->Fr ⟨n,[mark g]⟩ l b2->aw W M0 X aJ (au.obj g (.deferred (some []))::BF b) (wx b)->Q .normal b2 aJ) :
 (Code.rangeFunc (.tmp aes) #[js,il] assign body).wp P Q a w:=by
 refine (wpIn_wide (n:=2)).1 (wpIn_rangeFunc fun fn _=>?_)
 obtain ⟨rec,x9⟩:∃ rec:LoopState->Loop,rec=fun st=>{ state:=st,pending:=none,fn,tmps:=a.tmps,params:=#[js,il],assign,body,defers:=w.heap.size }:=⟨_,rfl⟩
 obtain ⟨zo,abv⟩:∃ zo,(w.alloc (.deferred (some []))).alloc (.loop (rec .ready))=zo:=⟨_,rfl⟩
 have axC:aw W M0 X zo (au.obj (w.heap.size+ 1) (.loop (rec .ready))::au.obj w.heap.size (.deferred (some []))::BF BR) (wx BR):=by
  have:=(hm.newObj (.deferred (some []))).newObj (.loop (rec .ready))
  rw [abv] at this
  simpa using this
 refine ⟨w.heap.size+ 1,[mark w.heap.size],zo,{ target:=.fn (.func CN) #[.pointer (some ⟨lq,0,none⟩)],args:=#[.func (.yield (w.heap.size+ 1)) #[] #[]] },zo,CN,
  #[.func (.yield (w.heap.size+ 1)) #[] #[],.pointer (some ⟨lq,0,none⟩)],zo,?_,?_,fun _ _=>trivial,?_,fun _=>by decide,?_⟩
 · rw [<-abv,x9];exact run_enterLoop_outer _ _ _ _ _
 · have RL:=I.g dt
   simp only [resolve,RL]
   simp [go_sem]
 · simp [invoke,go_sem,aaW]
 · refine CallsIn.mono (awN (fun rem aJ=>∃ b,rel rem b/\aw W M0 X aJ (au.obj (w.heap.size+ 1) (.loop (rec .ready))::au.obj w.heap.size (.deferred (some []))::BF b) (wx b)) kZ A c lq (w.heap.size+ 1) zo ?_ ?_ ⟨BR,bH,axC⟩) ?_
   · rintro rem aJ ⟨b,_,hv⟩
     exact ⟨_,_,_,_,hv.less fun y hy=>by
      simp only [List.mem_cons,List.not_mem_nil,or_false] at hy
      rcases hy with rfl | rfl
      · exact List.mem_of_getElem? (axR b)
      · exact List.mem_of_getElem? (axS b)⟩
   · rintro x rem aJ ⟨b,b5,hv⟩
     have aC:aJ.heap[w.heap.size+ 1]? =some (.loop (rec .ready)):=hv.e 0 rfl
     have hy:=run_yield (P:=P) (args:=#[.int .i64 (rem.length:Int),.int .i64 x]) aC (by rw [x9];rfl)
     rw [x9] at hy
     refine ⟨fn,_,assign,body,hy,roundIn_of_wpIn trivial ?_⟩
     have at4:Fr ⟨n,[]⟩ ((il,.int .i64 x)::(js,.int .i64 (rem.length:Int))::l) ⟨((#[js,il]:Array Tmp).zip #[Value.int .i64 (rem.length:Int),.int .i64 x]).foldl (fun tmps (x:Tmp × Value)=>tmps.setIfInBounds x.1 x.2) a.tmps,[]⟩:=by
      have aI:=(I.put (v:=.int .i64 (rem.length:Int)) axN).put (v:=.int .i64 x) axO
      have e:((#[js,il]:Array Tmp).zip #[Value.int .i64 (rem.length:Int),.int .i64 x]).foldl (fun tmps (x:Tmp × Value)=>tmps.setIfInBounds x.1 x.2) a.tmps=((a.put (some js) (.int .i64 (rem.length:Int))).put (some il) (.int .i64 x)).tmps:=by simp [Act.put]
      refine ⟨?_,rfl,?_⟩
      · simp only [e];exact aI.size
      · simp only [e];exact aI.get
     refine bN (w.heap.size+ 1) _ _ aJ _ _ at4 ?_ (fun a w h=>h)
     intro BP at3
     have pA:=hv.putObj 0 rfl (.loop { rec .ready with state:=.busy })
     refine ⟨_,run_beginRound aC (by rw [x9]),?_⟩
     refine a8 (w.heap.size+ 1) _ _ _ _ b _ x rem _ BP _ b5 at3 pA ?_ (fun a w h=>h)
     intro tM a3 pS G' G2
     have Tz:pS.heap[w.heap.size+ 1]? =some (.loop { rec .ready with state:=.busy }):=G2.e 0 rfl
     refine ⟨_,_,run_endRound none Tz,rfl,tM,G',?_⟩
     have G3:=G2.putObj 0 rfl (.loop (rec .ready))
     rw [x9] at G3 ⊢
     exact G3
   · rintro e pS ⟨⟨v,rfl⟩,b,b5,G2⟩
     have Tz:pS.heap[w.heap.size+ 1]? =some (.loop (rec .ready)):=G2.e 0 rfl
     have he:=run_endLoop (P:=P) Tz (by rw [x9];simp)
     rw [x9] at he
     refine ⟨none,_,he,?_⟩
     have G3:=G2.putObj 0 rfl (.loop { rec .ready with state:=.exhausted })
     rw [x9] at G3
     refine atX w.heap.size b _ _ b5 ⟨I.size,?_,I.get⟩ (G3.drop (List.sublist_cons_self _ _))
     show [mark w.heap.size]++a.defers= [mark w.heap.size]
     rw [I.defers];rfl
end
end a5
namespace a5
open Go Go.RowKit J
def ap.A4:ap:=⟨fun _ _=>True,fun _ _ _ _ _ _ _=>trivial⟩
def ap.eJ {α:Type} (o:Option α) (f:α->ap):ap:=match o with
 | none=>ap.A4
 | some x=>f x
def gg {α:Type} (o:Option α) (g:Nat):Option Addr:=match o with
 | none=>none
 | some _=>some ⟨g,0,none⟩
section
variable {P:Program} {ops:Array Oper} {Q:Exit->Act->World->Prop} {a:Act} {w:World} {rest:List Oper} {o:Oper} {n:h'} {d:Nat} {l:List (Nat × Value)}
 {W:World} {M0 X:List Nat} {E:List au} {D:List ap}
theorem aw.none (h:aw W M0 X w E D) {α:Type} (f:α->ap):aw W M0 X w E (ap.eJ (Option.none:Option α) f::D):=h.more (y:=ap.eJ (Option.none:Option α) f) trivial
theorem aE_ {α:Type} {T:fJ α} {t e:TypeId} {x y:Operand} {z:Value} {bytes:Nat} {k:Int} {z0:α} {r:List α}
 (hm:aw W M0 X w E D) (lu:P.underlying t=some (.slice e)) (mj:(P.info? e).map (fun i=>(i.zero,i.size,i.bytes))=some (some z,1,bytes)) (CJ:z.cells= #[z]) (zV:T.size= 1)
 (CI:∀ F w,T.rd F w [z] z0) (lO:Nat.ble 1 bytes=true) (b5:LV z0 bytes k=some r) (hw:Region.wanted o (yielded ops a.tmps)=true) (bu:o.op= .makeSlice t x y) (al:a.eval x= .int .i64 k) (hy:a.eval y= .int .i64 k)
 (I:Fr n l a) (bY:o.dst=some d) (ai:Nat.blt d n=true)
 (next:∀ b2 A c xs aJ,bg [] w aJ->Fr n ((d,.slice A r.length c)::l) b2->aw W M0 X aJ (au.row e T.size (.slice A r.length c) r xs::E) (ap.rows T xs r::D)->wpList P ops Q rest b2 aJ):wpList P ops Q (o::rest) a w:=by
 obtain ⟨bH,aI,rfl⟩:=aDA b5
 obtain ⟨m,rfl⟩:=Int.eq_ofNat_of_zero_le bH
 simp only [Int.toNat_natCast] at *
 have lO:=Nat.le_of_ble_eq_true lO
 have hle:m<=bytes*m:=Nat.le_mul_of_pos_left m lO
 have sL:=run_make_row' (P:=P) t e z bytes lu mj CJ .i64 .i64 m (by omega) (by omega) w
 have Hn:cv P o a w (.slice (some ⟨w.heap.size,0,none⟩) m m) (w.alloc (.cells (madeCells #[z] m) e)):=by
  simp only [cv,execOp,bu,al,hy,Sem.run_bind,sL,Result.andThen_ok,Sem.run_pure]
 have m3:(au.row e T.size (.slice (some ⟨w.heap.size,0,none⟩) m m) (List.replicate m z0) (List.replicate m z)).ok (w.alloc (.cells (madeCells #[z] m) e)):=by
  refine ⟨by simp [zV],.inr ⟨w.heap.size,m,madeCells #[z] m,by simp,Nat.zero_le _,heap_alloc_new w _,by simp,by simp only [maxLen];omega,by simp [size_madeCells,zV],?_⟩⟩
  rw [toList_madeCells_one]
  simp [zV]
 have azG:∀ (F:Nat->Prop) (w:World) (q:Nat),gO T F w (List.replicate q z) (List.replicate q z0):=by
  intro F w q
  induction q with
  | zero=>rfl
  | succ q cA=>exact ⟨[z],List.replicate q z,rfl,CI F w,cA⟩
 have pA:=hm.push (au.row e T.size (.slice (some ⟨w.heap.size,0,none⟩) m m) (List.replicate m z0) (List.replicate m z)) (bg.alloc [] w _) m3 (fun q eE=>by
  have:q=w.heap.size:=by simpa [au.row,Value.ownBlock,eq_comm] using eE
  subst this;simp) (by simp [au.row,Value.ownBlock])
 refine bR hw Hn I bY ai fun b2 fB=>next b2 (some ⟨w.heap.size,0,none⟩) m (List.replicate m z) _ (bg.alloc [] w _) ?_ ?_
 · simpa using fB
 · have:=pA.H9 (T:=T) (xs:=List.replicate m z) (li:=List.replicate m z0) (azG _ _ m)
   simpa using this
theorem aea {α:Type} {T:fJ α} {z:Value} {z0:α} (CI:∀ F w,T.rd F w [z] z0) (F:Nat->Prop) (w:World):∀ q:Nat,gO T F w (List.replicate q z) (List.replicate q z0)
 | 0 =>rfl
 | q+ 1 =>⟨[z],List.replicate q z,rfl,CI F w,aea CI F w q⟩
theorem aE0 {α:Type} {T:fJ α} {t Xz e:TypeId} {x y:Operand} {z:Value} {bytes:Nat} {k:Int} {z0:α} {r:List α}
 (hm:aw W M0 X w E D) (lu:P.underlying t=some (.slice e)) (amM:P.underlying Xz=some (.int .i64)) (mj:(P.info? e).map (fun i=>(i.zero,i.size,i.bytes))=some (some z,1,bytes)) (CJ:z.cells= #[z]) (zV:T.size= 1)
 (CI:∀ F w,T.rd F w [z] z0) (lO:Nat.ble 1 bytes=true) (b5:EB z0 bytes k=some r) (hw:Region.wanted o (yielded ops a.tmps)=true) (bu:o.op= .call { callee:=.builtin .append,args:=#[x,y],argTypes:=#[t,Xz] })
 (al:a.eval x= .slice none 0 0) (hy:a.eval y= .int .i64 k) (I:Fr n l a) (bY:o.dst=some d) (ai:Nat.blt d n=true)
 (next:∀ b2 A c xs aJ,bg [] w aJ->Fr n ((d,.slice A r.length c)::l) b2->aw W M0 X aJ (au.row e T.size (.slice A r.length c) r xs::E) (ap.rows T xs r::D)->wpList P ops Q rest b2 aJ):wpList P ops Q (o::rest) a w:=by
 obtain ⟨bH,aI,rfl⟩:=agb b5
 obtain ⟨m,rfl⟩:=Int.eq_ofNat_of_zero_le (Int.le_of_lt bH)
 simp only [Int.toNat_natCast] at *
 have lO:=Nat.le_of_ble_eq_true lO
 have hle:m<=bytes*m:=Nat.le_mul_of_pos_left m lO
 obtain ⟨i0,hi,acM⟩:=Option.map_eq_some_iff.1 mj
 simp only [Prod.mk.injEq] at acM
 obtain ⟨c8,bc,a8⟩:=acM
 have sL:=Lib.run_append_nil_zeros (P:=P) w t Xz o.type e i0 z .i64 .i64 lu amM hi c8 m (by omega) (by omega) (by omega) (by rw [a8,Nat.mul_comm];omega)
 let cap:=grownCap w m 0 e
 have abz:m<=cap:=grownCap_ge w m 0 e
 have Gx:cap<=maxLen:=grownCap_le_maxLen w m 0 e (by simp only [maxLen];omega)
 have aCK:∀ q,(Builtin.zeroCells z.cells q).toList=List.replicate q z:=by
  intro q
  rw [CJ]
  apply List.ext_getElem
  · simp [Builtin.zeroCells]
  · intro j aI aV
    simp [Builtin.zeroCells,Nat.mod_one]
 let cur:=Builtin.zeroCells z.cells m++Builtin.zeroCells z.cells (cap - m)
 have hcs:cur.size=cap:=by simp only [cur,Array.size_append,size_zeroCells,CJ];simp;omega
 have Hn:cv P o a w (.slice (some ⟨w.heap.size,0,none⟩) m cap) (w.drew.alloc (.cells cur e)):=by
  simp only [cv,execOp,bu,resolve,invoke,builtin,Sem.run_bind,Sem.run_pure,Result.andThen_ok,List.map_toArray,List.map_cons,List.map_nil,al,hy,sL,cap,cur]
 have m2:bg [] w (w.drew.alloc (.cells cur e)):=(bg.drew [] w).trans (bg.alloc [] w.drew (.cells cur e)) (by simp)
 have K3:w.drew.heap.size=w.heap.size:=rfl
 have m3:(au.row e T.size (.slice (some ⟨w.heap.size,0,none⟩) m cap) (List.replicate m z0) (List.replicate m z)).ok (w.drew.alloc (.cells cur e)):=by
  refine ⟨by simp [zV],.inr ⟨w.heap.size,cap,cur,by simp,Nat.zero_le _,?_,by simpa using abz,Gx,by simp [hcs,zV],?_⟩⟩
  · rw [<-K3];exact heap_alloc_new w.drew _
  · simp only [cur,Array.toList_append,aCK,zV,List.length_replicate,Nat.mul_one]
    rw [List.take_append_of_le_length (by simp),List.take_of_length_le (by simp)]
 have pA:=hm.push (au.row e T.size (.slice (some ⟨w.heap.size,0,none⟩) m cap) (List.replicate m z0) (List.replicate m z)) m2 m3 (fun q eE=>by
  have:q=w.heap.size:=by simpa [au.row,Value.ownBlock,eq_comm] using eE
  subst this;simp) (by simp [au.row,Value.ownBlock])
 refine bR hw Hn I bY ai fun b2 fB=>next b2 (some ⟨w.heap.size,0,none⟩) cap (List.replicate m z) _ m2 ?_ ?_
 · simpa using fB
 · have:=pA.H9 (T:=T) (xs:=List.replicate m z) (li:=List.replicate m z0) (aea CI _ _ m)
   simpa using this
theorem aE2 {α:Type} {T:fJ α} {t e c:Nat} {A:Option Addr} {li:List α} {xs:List Value} {x:Operand} {lo hi:Option Operand} (i:Nat) (hm:aw W M0 X w E D) (x1:E[i]? =some (au.row e T.size (.slice A li.length c) li xs))
 (bV:P.underlying t=some (.slice e)) (bc:∀ w,(Go.sizeOf e).run P w= .ok T.size w) (hw:Region.wanted o (yielded ops a.tmps)=true) (bu:o.op= .slice t x lo hi none) (al:a.eval x= .slice A li.length c)
 (rr:(lo=none/\(0 :Int)= 0)\/ ∃ z,lo=some z/\a.eval z= .int .i64 0) (rn:∃ z,hi=some z/\a.eval z= .int .i64 0) (I:Fr n l a) (bY:o.dst=some d) (ai:Nat.blt d n=true)
 (next:∀ b2,Fr n ((d,.slice A ([]:List α).length c)::l) b2->aw W M0 X w (E.set i (au.row e T.size (.slice A ([]:List α).length c) ([]:List α) [])) (ap.rows T [] ([]:List α)::D)->wpList P ops Q rest b2 w):wpList P ops Q (o::rest) a w:=by
 have TG:w.ownsRow 0 e T.size (.slice A li.length c) li.length xs:=hm.e i x1
 obtain ⟨kE,dZ,ah,hle,_,Lj,hD⟩:=Xo (hm.e i x1)
 simp only [Value.slice.injEq,true_and] at ah
 obtain ⟨rfl,rfl⟩:=ah
 have hy:=OB (P:=P) (w:=w) (a:=a) (o:=o) bV bc bu al rr (.inr rn) (i:=0) (j:=0) ⟨Int.le_refl _,Int.le_refl _,by omega⟩ hle
 have hAdd:(if c=(0 :Int).toNat then A else A.map (·.add ((0 :Int).toNat*T.size)))=A:=by
  split
  · rfl
  · cases abm:A with
    | none=>rfl
    | some mO=>
      have:=hD (by rw [abm];simp)
      rw [abm] at this
      simp only [Option.some.injEq] at this
      rw [this,Option.map_some,q4]
      simp
 rw [hAdd] at hy
 have hy:cv P o a w (.slice A ([]:List α).length c) w:=by simpa using hy
 have m3:(au.row e T.size (.slice A ([]:List α).length c) ([]:List α) []).ok w:=by
  refine ⟨by simp,?_⟩
  rcases TG.2 with ⟨bS,cf⟩ | ⟨g,cap,cur,bS,cf,eI,iy,lm,zG,_⟩
  · left
    simp only [Value.slice.injEq] at bS
    obtain ⟨rfl,_,rfl⟩:=bS
    exact ⟨rfl,rfl⟩
  · right
    simp only [Value.slice.injEq] at bS
    obtain ⟨rfl,_,rfl⟩:=bS
    exact ⟨g,c,cur,rfl,cf,eI,Nat.zero_le _,lm,zG,by simp⟩
 refine bR hw hy I bY ai fun b2 fB=>next b2 fB ?_
 refine (hm.more (y:=ap.rows T [] ([]:List α)) rfl).vM i x1 (bg.refl _ _) m3 (Wf _) (fun q eE=>.inl (by
  cases A with
  | none=>simp [au.row,Value.ownBlock] at eE
  | some mO=>simpa [au.row,Value.ownBlock] using eE))
theorem aGy {t e:TypeId} {sz:Nat} {x:Operand} {lo hi:Option Operand} (bV:P.underlying t=some (.slice e)) (bc:∀ w,(Go.sizeOf e).run P w= .ok sz w) (bu:o.op= .slice t x lo hi none) (al:a.eval x= .slice none 0 0)
 (rr:(lo=none/\(0 :Int)= 0)\/ ∃ z,lo=some z/\a.eval z= .int .i64 0) (rn:(hi=none/\(0 :Int)=(0 :Nat))\/ ∃ z,hi=some z/\a.eval z= .int .i64 0):cv P o a w (.slice none 0 0) w:=by
 have h:=OB (P:=P) (w:=w) bV bc bu al rr rn (i:=0) (j:=0) ⟨Int.le_refl _,Int.le_refl _,by omega⟩ (Nat.le_refl 0)
 simpa using h
theorem afx {t e:TypeId} {A:Option Addr} {m c:Nat} {x:Operand} (bV:P.underlying t=some (.slice e)) (bu:o.op= .call { callee:=.builtin .cap,args:=#[x],argTypes:=#[t] }) (al:a.eval x= .slice A m c):cv P o a w (.int .i64 c) w:=by
 simp [cv,execOp,bu,resolve,invoke,builtin,Builtin.cap_,al,run_underlying bV,goInt]
theorem aGw {t eF:TypeId} {x:Operand} {m:Int} (bV:P.underlying t=some (.int .i64)) (pE:P.underlying eF=some (.int .u64)) (bu:o.op= .convert t eF x) (al:a.eval x= .int .i64 m):cv P o a w (.int .u64 (ns m)) w:=by
 have h:=OA (P:=P) (w:=w) bV pE bu al
 rwa [show IntKind.u64.wrap m=ns m by rw [IntKind.wrap_u64];rfl] at h
theorem aGu {t eF:TypeId} {x:Operand} {m:Int} (bV:P.underlying t=some (.int .u64)) (pE:P.underlying eF=some (.int .i64)) (bu:o.op= .convert t eF x) (al:a.eval x= .int .u64 m):cv P o a w (.int .i64 (av m)) w:=by
 have h:=OA (P:=P) (w:=w) bV pE bu al
 rwa [yX] at h
theorem aG3 {t eF:TypeId} {x y:Operand} {k:IntKind} {m:Int} {n:Nat} (ai:Nat.ble n 64 =true) (bu:o.op= .binOp .shr t x y eF) (al:a.eval x= .int .u64 m) (hy:a.eval y= .int k (n:Int)):cv P o a w (.int .u64 (nr m n)) w:=by
 have hle:=Nat.le_of_ble_eq_true ai
 unfold nr
 simp only [cv,execOp,bu,al,hy]
 simp [go_sem,hle]
end
end a5
namespace a5
open Go Go.RowKit J Go.Shelf Go.Proofs
theorem Cd (b:Nat):∀ (vs:List Value) (o:Nat) (w:World),bg [b] w (w.setCells b o vs)
 | [],_,w=>bg.refl _ w
 | v::r,o,w=>(bg.set w ⟨b,o,none⟩ v).trans (Cd b r (o+ 1) _) (fun x al=>.inl al)
theorem Dh (b:Nat) (e:TypeId) (KO:Nat × Nat):∀ (vs:List Value) (o:Nat) (w:World) (cur:List Value),w.heap[b]? =some (.cells cur.toArray e KO)->o+vs.length<=cur.length ->
 (w.setCells b o vs).heap[b]? =some (.cells (cur.take o++vs++cur.drop (o+vs.length)).toArray e KO)
 | [],o,w,cur,h,_=>by simpa [World.setCells] using h
 | v::r,o,w,cur,h,aC=>by
   simp only [List.length_cons] at aC
   have a8:b <w.heap.size:=by
    rcases Nat.lt_or_ge b w.heap.size with dU | dU
    · exact dU
    · rw [Array.getElem?_eq_none dU] at h;cases h
   have aI:(w.setCell ⟨b,o,none⟩ v).heap[b]? =some (.cells (cur.set o v).toArray e KO):=by
    simp only [World.setCell,Array.getElem?_modify,if_pos,h,Option.map_some]
    simp
   have:=Dh b e KO r (o+ 1) _ (cur.set o v) aI (by simp;omega)
   show ((w.setCell ⟨b,o,none⟩ v).setCells b (o+ 1) r).heap[b]? =_
   rw [this]
   have Hj:cur.set o v=cur.take o++v::cur.drop (o+ 1):=by rw [List.set_eq_take_append_cons_drop,if_pos (by omega)]
   have bV:(cur.take o).length=o:=by rw [List.length_take];omega
   have bS:(cur.set o v).take (o+ 1)=cur.take o++[v]:=by
    rw [Hj,List.take_append,bV,List.take_of_length_le (by rw [bV];omega)]
    simp
   have cf:(cur.set o v).drop (o+ 1 +r.length)=cur.drop (o+(v::r).length):=by
    rw [List.drop_set_of_lt (by omega)]
    congr 1
    simp;omega
   rw [bS,cf]
   simp
theorem aE7 {cur xs:List Value} {x:Value} {n m:Nat} (bV:cur.take n=xs) (ai:xs.length=n) (hm:m<=n) (hc:n+ 1 <=cur.length) :
 ((cur.take (m+ 1)++xs.drop m++cur.drop (m+ 1 +(xs.drop m).length)).take m++[x]++(cur.take (m+ 1)++xs.drop m++cur.drop (m+ 1 +(xs.drop m).length)).drop (m+ 1)).take (n+ 1)=xs.take m++[x]++xs.drop m:=by
 have aI:(cur.take (m+ 1)).length=m+ 1 :=by rw [List.length_take];omega
 have aV:(cur.take (m+ 1)++xs.drop m++cur.drop (m+ 1 +(xs.drop m).length)).take m=xs.take m:=by
  rw [List.append_assoc,List.take_append_of_le_length (by omega),List.take_take,Nat.min_eq_left (by omega),<-bV,List.take_take,Nat.min_eq_left hm]
 have bX:(cur.take (m+ 1)++xs.drop m++cur.drop (m+ 1 +(xs.drop m).length)).drop (m+ 1)=xs.drop m++cur.drop (m+ 1 +(xs.drop m).length):=by
  rw [List.append_assoc,List.drop_append,aI,List.drop_eq_nil_of_le (by omega)]
  simp
 rw [aV,bX,<-List.append_assoc,List.take_append_of_le_length (by simp;omega),List.take_of_length_le (by simp;omega)]
theorem ajf {z0 xs:List Value} {x:Value} {n m:Nat} (ai:xs.length=n) (hm:m<=n) (c8:z0.take m=xs.take m) (aC:n+ 1 <=z0.length) :
 ((z0.take m++[x]++z0.drop (m+ 1)).take (m+ 1)++xs.drop m++(z0.take m++[x]++z0.drop (m+ 1)).drop (m+ 1 +(xs.drop m).length)).take (n+ 1)=xs.take m++[x]++xs.drop m:=by
 have aI:(z0.take m++[x]).length=m+ 1 :=by simp;omega
 rw [List.take_append_of_le_length (l₁:=z0.take m++[x]) (by omega),List.take_of_length_le (l:=z0.take m++[x]) (by omega),c8,List.take_append_of_le_length (by simp;omega),List.take_of_length_le (by simp;omega)]
section
variable {P:Program} {ρ:Ren} {w:World} {W:World} {M0 X:List Nat} {E:List au} {D:List ap}
theorem ad_ {F:Nat->Prop}:∀ {li:List Int} {xs:List Value},gO (aq .i64) F w xs li->xs=li.map (Value.int .i64)
 | [],_,h=>h
 | b::r,_,⟨cs,ys,e,aI,aV⟩=>by
   have aI:cs= [.int .i64 b]:=aI
   rw [e,aI,ad_ aV]
   rfl
theorem ad' {F:Nat->Prop}:∀ li:List Int,gO (aq .i64) F w (li.map (Value.int .i64)) li
 | []=>rfl
 | b::r=>⟨[.int .i64 b],r.map (Value.int .i64),rfl,rfl,ad' r⟩
theorem ahz (L:Lays2.n21 P ρ) {A:Option Addr} {c g:Nat} {li r:List Int} {xs:List Value} {n x:Int} (i j q:Nat) (K4:Nat.beq i j=false) (hm:aw W M0 X w E D) (hi:E[i]? =some (au.row (ρ.t 3) 1 (.slice A li.length c) li xs))
 (bf:E[j]? =some (au.bs g (ρ.t 3) [.int .i64 x])) (eE:D[q]? =some (ap.rows (aq .i64) xs li)) (b5:Lu li n x=some r) :
 Calls P (ρ.f 21) [.slice A li.length c,.int .i64 n,.slice (some ⟨g,0,none⟩) 1 1].toArray w (fun e aJ=>∃ kE dZ gr,e= .returned (.slice kE r.length dZ)/\aw W M0 X aJ (E.set i (au.row (ρ.t 3) 1 (.slice kE r.length dZ) r gr)) (ap.rows (aq .i64) gr r::D)):=by
 obtain ⟨bH,aI,sD,rfl⟩:=aCZ b5
 obtain ⟨m,rfl⟩:=Int.eq_ofNat_of_zero_le bH
 have hv:m<=li.length:=by omega
 simp only [Int.toNat_natCast]
 have iE:xs=li.map (Value.int .i64):=ad_ (hm.d q eE)
 have m3:w.ownsRow 0 (ρ.t 3) 1 (.slice A li.length c) li.length xs:=hm.e i hi
 have apO:w.heap[g]? =some (.cells [Value.int .i64 x].toArray (ρ.t 3) (0,0)):=hm.e j bf
 have yb:∀ q v,[Value.int .i64 x][q]? =some v->w.cell? ⟨g,0 +q,none⟩=some v:=fun q v eE=>by
  have:=BT (hm.e j bf) eE
  simpa using this
 have Fy:∀ v ∈ [Value.int .i64 x],v.oneCell'=true:=fun v ah=>by simp at ah;subst ah;rfl
 have abl:∀ v ∈ xs,v.oneCell'=true:=fun v ah=>by rw [iE] at ah;simp at ah;obtain ⟨_,_,rfl⟩:=ah;rfl
 have oy:xs.length=li.length:=by rw [iE];simp
 have hlen:(li.take m++x::li.drop m).length=li.length+ 1 :=by simp;omega
 have Ak:(li.take m++x::li.drop m).map (Value.int .i64)=xs.take m++[Value.int .i64 x]++xs.drop m:=by rw [iE];simp [List.map_take,List.map_drop]
 have go:∀ (kE:Option Addr) (dZ:Nat) (aJ:World),bg (Value.slice A li.length c).ownBlock.toList w aJ->aJ.ownsRow 0 (ρ.t 3) 1 (.slice kE (li.length+ 1) dZ) (li.length+ 1) (xs.take m++[Value.int .i64 x]++xs.drop m) ->
  (∀ k,(Value.slice kE (li.length+ 1) dZ).ownBlock=some k->(Value.slice A li.length c).ownBlock=some k\/(w.heap.size<=k/\k <aJ.heap.size)) ->
  ∃ X8 Zh gr,Ending.returned (.slice kE (li.length+ 1) dZ)= .returned (.slice X8 (li.take m++x::li.drop m).length Zh)/\aw W M0 X aJ (E.set i (au.row (ρ.t 3) 1 (.slice X8 (li.take m++x::li.drop m).length Zh) (li.take m++x::li.drop m) gr)) (ap.rows (aq .i64) gr (li.take m++x::li.drop m)::D):=by
  intro kE dZ aJ ah rs I
  have TG:(au.row (ρ.t 3) 1 (.slice kE (li.take m++x::li.drop m).length dZ) (li.take m++x::li.drop m) ((li.take m++x::li.drop m).map (Value.int .i64))).ok aJ:=by
   show aJ.ownsRow 0 (ρ.t 3) 1 _ (li.take m++x::li.drop m).length _
   rw [hlen,Ak]
   exact rs
  refine ⟨kE,dZ,(li.take m++x::li.drop m).map (Value.int .i64),by rw [hlen],?_⟩
  refine (hm.H9 (T:=aq .i64) (ad' (li.take m++x::li.drop m))).vM i hi ah TG (Wf _) (fun k bi=>?_)
  have lx:(Value.slice kE (li.length+ 1) dZ).ownBlock=some k:=by
   have:(Value.slice kE (li.take m++x::li.drop m).length dZ).ownBlock=some k:=by simpa [au.row] using bi
   rwa [hlen] at this
  rcases I k lx with e | e
  · exact .inl (by simpa [au.row] using e)
  · exact .inr e
 have RM:grownCap w (li.length+ 1) c (ρ.t 3)<=maxLen:=grownCap_le_maxLen _ _ _ _ (by simp only [maxLen];omega)
 have Ab:li.length+ 1 <=grownCap w (li.length+ 1) c (ρ.t 3):=grownCap_ge _ _ _ _
 rcases m3.2 with ⟨ah,axF⟩ | ⟨b,cap,cur,ah,_,a8,Lj,nK,hcs,T1⟩
 ·
   simp only [Value.slice.injEq] at ah
   obtain ⟨rfl,_,rfl⟩:=ah
   have CG:li= []:=List.eq_nil_of_length_eq_zero axF
   subst CG
   have bj:m= 0 :=by simpa using hv
   subst bj
   have aCE:xs= []:=by simpa using iE
   subst aCE
   have hc:=Any2.slices_Insert_int_end_grow L none 0 0 g 0 1 1 [] [Value.int .i64 x] w (by decide) (by decide) (by decide) (by decide) rfl rfl (fun _=>rfl) (fun a bN=>by cases bN) yb Fy
   refine Calls.mono hc ?_
   rintro e aJ ⟨rfl,rfl⟩
   refine go (some ⟨w.heap.size,0,none⟩) (grownCap w 1 0 (ρ.t 3)) _ ((bg.drew [] w).trans (bg.alloc [] w.drew _) (by simp) |>.mono (by simp)) ?_ (fun k bi=>.inr ?_)
   · refine ⟨by simp,.inr ⟨w.heap.size,_,_,rfl,Nat.zero_le _,heap_alloc_new w.drew _,Ab,RM,?_,?_⟩⟩
     · simp only [Array.size_append,List.size_toArray,size_zeroCells];simp at Ab ⊢;simp [Value.cells];omega
     · simp
   · have:w.heap.size=k:=by simpa [Value.ownBlock] using bi
     subst this;simp
 · simp only [Value.slice.injEq,true_and] at ah
   obtain ⟨rfl,rfl⟩:=ah
   have Rp:cur.size=c:=by simpa using hcs
   have ow:cur.toList.length=c:=by simpa using Rp
   have bV:cur.toList.take li.length=xs:=by simpa using T1
   have jZ:w.heap[b]? =some (.cells cur.toList.toArray (ρ.t 3) (0,0)):=by simpa using a8
   have px:∀ j v,xs[j]? =some v->w.cell? ⟨b,0 +j,none⟩=some v:=fun j v bf=>by
    have:=(m3.cells (g:=b) rfl) j v bf
    rw [Nat.zero_add]
    have e:(⟨b,j,none⟩:Addr)=if j= 0 then ⟨b,0,none⟩ else ⟨b,j,none⟩:=by split <;> simp_all
    rw [e]
    simpa [Addr.add] using this
   have fo:g≠b:=by
    intro e
    have bY:=KM hm.ea
    have G4:i≠j:=by intro h;subst h;simp at K4
    exact (bY i _ hi).2 j _ bf G4 b (by simp [au.row,Value.ownBlock]) (by simp [au.bs,e])
   have sM:∀ j,j <c->(w.cell? ⟨b,0 +j,none⟩).isSome=true:=fun j bf=>by
    simp [World.cell?,a8,Rp,bf]
   have RD:∀ j,w.frozen? ⟨b,0 +j,none⟩=false:=fun j=>by simp [World.frozen?,a8]
   by_cases Ll:li.length+ 1 <=c
   · by_cases uI:m=li.length
     · subst uI
       have hc:=Any2.slices_Insert_int_end_room L b 0 li.length c g 0 1 1 [Value.int .i64 x] w (by decide) Ll (by simp only [maxLen] at nK;omega) rfl (fun j bf=>by rw [Nat.add_assoc];exact sM _ (by omega)) (fun j bf=>by rw [Nat.add_assoc];exact RD _) yb Fy
       refine Calls.mono hc ?_
       rintro e aJ ⟨rfl,rfl⟩
       refine go (some ⟨b,0,none⟩) c _ ((Cd b _ _ w).mono (by simp [Value.ownBlock])) ?_ (fun k bi=>.inl (by simpa [Value.ownBlock] using bi))
       have ku:=Dh b (ρ.t 3) (0,0) [Value.int .i64 x] (0 +li.length) w cur.toList jZ (by simp;omega)
       refine ⟨by simp;omega,.inr ⟨b,c,_,rfl,Nat.zero_le _,ku,Ll,nK,?_,?_⟩⟩
       · simp;omega
       · simp only [Nat.zero_add,Nat.mul_one,bV]
         rw [List.take_append_of_le_length (by simp;omega),List.take_of_length_le (by simp;omega),List.take_of_length_le (by omega),List.drop_eq_nil_of_le (by omega)]
         simp
     · have hc:=Any2.slices_Insert_int_shift L b 0 li.length c m g 0 1 1 xs [Value.int .i64 x] w (by omega) (by decide) Ll (by simp only [maxLen] at nK;omega) fo oy rfl px (fun j bf=>sM j (by omega)) (fun j _=>RD j) yb abl Fy
        (ρ.t 3) (ρ.t 3) 1 c (by simp [World.shape?,apO]) (by simp [World.shape?,a8,Rp]) (by omega) (Zg (hm.e j bf) 0) (Zg (hm.e j bf) 1)
       refine Calls.mono hc ?_
       rintro e aJ ⟨rfl,rfl⟩
       have oq:=Cd b (xs.drop m) (0 +(m+ 1)) w.drew
       have KI:=Cd b [Value.int .i64 x] (0 +m) (w.drew.setCells b (0 +(m+ 1)) (xs.drop m))
       refine go (some ⟨b,0,none⟩) c _ ((((bg.drew [b] w).trans oq (fun x al=>.inl al)).trans KI (fun x al=>.inl al)).mono (by simp [Value.ownBlock])) ?_ (fun k bi=>.inl (by simpa [Value.ownBlock] using bi))
       have at8:=Dh b (ρ.t 3) (0,0) (xs.drop m) (0 +(m+ 1)) w.drew cur.toList jZ (by simp;omega)
       have ku:=Dh b (ρ.t 3) (0,0) [Value.int .i64 x] (0 +m) _ _ at8 (by simp;omega)
       refine ⟨by simp;omega,.inr ⟨b,c,_,rfl,Nat.zero_le _,ku,Ll,nK,?_,?_⟩⟩
       · simp;omega
       · have:=aE7 (x:=Value.int .i64 x) bV oy hv (by omega)
         simpa using this
   · have abz:li.length=c:=by omega
     by_cases uI:m=li.length
     · subst uI
       have hc:=Any2.slices_Insert_int_end_grow L (some ⟨b,0,none⟩) li.length c g 0 1 1 xs [Value.int .i64 x] w (by decide) (by omega) (by omega) (by omega) oy rfl (fun h=>by cases h) (fun a bN j v bf=>by
        cases bN
        have:=(m3.cells (g:=b) rfl) j v bf
        simpa [Addr.add] using this) yb Fy
       refine Calls.mono hc ?_
       rintro e aJ ⟨rfl,rfl⟩
       refine go (some ⟨w.heap.size,0,none⟩) (grownCap w (li.length+ 1) c (ρ.t 3)) _ (((bg.drew [] w).trans (bg.alloc [] w.drew _) (by simp)).mono (by simp)) ?_ (fun k bi=>.inr ?_)
       · refine ⟨by simp;omega,.inr ⟨w.heap.size,_,_,rfl,Nat.zero_le _,heap_alloc_new w.drew _,Ab,RM,?_,?_⟩⟩
         · simp only [Array.size_append,List.size_toArray,size_zeroCells,List.length_append,oy];simp [Value.cells];omega
         · simp only [Nat.mul_one,List.drop_zero,Array.toList_append]
           rw [List.take_append_of_le_length (by simp [oy]),List.take_of_length_le (by simp [oy]),List.take_of_length_le (l:=xs) (by omega),List.drop_eq_nil_of_le (by omega)]
           simp
       · have:w.heap.size=k:=by simpa [Value.ownBlock] using bi
         subst this;simp
     · have hc:=Any2.slices_Insert_int_grow L b 0 li.length c m g 0 1 1 xs [Value.int .i64 x] w (by omega) (by decide) (by omega) (by omega) (by omega) oy rfl px yb abl Fy
       refine Calls.mono hc ?_
       rintro e aJ ⟨rfl,rfl⟩
       have amU:=heap_alloc_new w (.cells ((xs.take m).toArray++Builtin.zeroCells (Value.int .i64 0).cells (li.length+ 1 - m)++Builtin.zeroCells (Value.int .i64 0).cells (grownCap w (li.length+ 1) c (ρ.t 3) - (li.length+ 1))) (ρ.t 3))
       have CJ:∀ q,(Builtin.zeroCells (Value.int .i64 0).cells q).toList.length=q:=fun q=>by rw [Array.length_toList,size_zeroCells];simp [Value.cells]
       have awR:((xs.take m)++(Builtin.zeroCells (Value.int .i64 0).cells (li.length+ 1 - m)).toList++(Builtin.zeroCells (Value.int .i64 0).cells (grownCap w (li.length+ 1) c (ρ.t 3) - (li.length+ 1))).toList).length=grownCap w (li.length+ 1) c (ρ.t 3):=by
        simp only [List.length_append,CJ,List.length_take,oy];omega
       have Q0:(w.alloc (.cells ((xs.take m).toArray++Builtin.zeroCells (Value.int .i64 0).cells (li.length+ 1 - m)++Builtin.zeroCells (Value.int .i64 0).cells (grownCap w (li.length+ 1) c (ρ.t 3) - (li.length+ 1))) (ρ.t 3))).drew.heap[w.heap.size]? =some (.cells ((xs.take m)++(Builtin.zeroCells (Value.int .i64 0).cells (li.length+ 1 - m)).toList++(Builtin.zeroCells (Value.int .i64 0).cells (grownCap w (li.length+ 1) c (ρ.t 3) - (li.length+ 1))).toList).toArray (ρ.t 3) (0,0)):=by
        refine amU.trans ?_
        congr 2
        apply Array.toList_inj.mp
        simp
       generalize Lq:(xs.take m)++(Builtin.zeroCells (Value.int .i64 0).cells (li.length+ 1 - m)).toList++(Builtin.zeroCells (Value.int .i64 0).cells (grownCap w (li.length+ 1) c (ρ.t 3) - (li.length+ 1))).toList=z0 at awR Q0
       have aCL:z0.take m=xs.take m:=by
        rw [<-Lq,List.append_assoc,List.take_append_of_le_length (by simp;omega),List.take_of_length_le (by simp;omega)]
       have m2:bg [] w (w.alloc (.cells ((xs.take m).toArray++Builtin.zeroCells (Value.int .i64 0).cells (li.length+ 1 - m)++Builtin.zeroCells (Value.int .i64 0).cells (grownCap w (li.length+ 1) c (ρ.t 3) - (li.length+ 1))) (ρ.t 3))).drew:=(bg.alloc [] w _).trans (bg.drew [] _) (by simp)
       generalize az8:(w.alloc (.cells ((xs.take m).toArray++Builtin.zeroCells (Value.int .i64 0).cells (li.length+ 1 - m)++Builtin.zeroCells (Value.int .i64 0).cells (grownCap w (li.length+ 1) c (ρ.t 3) - (li.length+ 1))) (ρ.t 3))).drew=bb at Q0 m2
       have x':w.heap.size <bb.heap.size:=by rw [<-az8];simp
       have oq:=Cd w.heap.size [Value.int .i64 x] m bb
       have KI:=bg.drew [] (bb.setCells w.heap.size m [Value.int .i64 x])
       have aa4:=Cd w.heap.size (xs.drop m) (m+ 1) (bb.setCells w.heap.size m [Value.int .i64 x]).drew
       have aiQ:=((m2.trans oq (fun x al=>.inr (by simp at al;omega))).trans KI (by simp)).trans aa4 (fun x al=>.inr (by simp at al;omega))
       have aV:=Dh w.heap.size (ρ.t 3) (0,0) [Value.int .i64 x] m bb z0 Q0 (by simp;omega)
       have bX:=Dh w.heap.size (ρ.t 3) (0,0) (xs.drop m) (m+ 1) (bb.setCells w.heap.size m [Value.int .i64 x]).drew _ aV (by simp;omega)
       refine go (some ⟨w.heap.size,0,none⟩) (grownCap w (li.length+ 1) c (ρ.t 3)) _ (aiQ.mono (by simp)) ?_ (fun k bi=>.inr ?_)
       · refine ⟨by simp;omega,.inr ⟨w.heap.size,_,_,rfl,Nat.zero_le _,bX,Ab,RM,?_,?_⟩⟩
         · simp;omega
         · have:=ajf (x:=Value.int .i64 x) oy hv aCL (by omega)
           simpa using this
       · have:w.heap.size=k:=by simpa [Value.ownBlock] using bi
         subst this
         exact ⟨Nat.le_refl _,Nat.lt_of_lt_of_le x' (Nat.le_trans oq.size (Nat.le_trans KI.size aa4.size))⟩
end
end a5
namespace Go.Proofs.YtpkhpagplommoaaGreat
open Go Go.Shelf
def aC1:Ren:=⟨fun f=>match f with | 21 =>116 | 27 =>141 | 28 =>142 | 35 =>150 | 39 =>151 | f=>f,fun t=>t,fun g=>g⟩
theorem aC0:Lays2.n21 Tryz.prog aC1:={
 mixed:=by kernel_rfl,f21:=by kernel_rfl,f27:=by kernel_rfl,f28:=by kernel_rfl,f35:=by kernel_rfl,f39:=by kernel_rfl
 t0:=by kernel_rfl,a0:=fun w=>by kernel_rfl,z0:=fun w=>by kernel_rfl,v0:=fun w=>by kernel_rfl
 t3:=by kernel_rfl,a3:=fun w=>by kernel_rfl,z3:=fun w=>by kernel_rfl,v3:=fun w=>by kernel_rfl
 t4:=by kernel_rfl,a4:=fun w=>by kernel_rfl,z4:=fun w=>by kernel_rfl,v4:=fun w=>by kernel_rfl
 t22:=by kernel_rfl,a22:=fun w=>by kernel_rfl,z22:=fun w=>by kernel_rfl,v22:=fun w=>by kernel_rfl
 i3:=by kernel_rfl }
end Go.Proofs.YtpkhpagplommoaaGreat
namespace Go.Value
abbrev q {α:Type} (A:Option Addr) (c:Nat) (l:List α):Value:=.slice A l.length c
end Go.Value
namespace a5
open Go Go.RowKit J
abbrev aU:=Option Addr
abbrev dG:=List Value
abbrev gv:=List Int
theorem wn {ops:Array Oper} {a:Act} {o:Oper} (dt:o.guard=none:=by rfl):Region.wanted o (yielded ops a.tmps)=true:=Dl dt
section
variable {W w:World} {M0 X:List Nat} {E mM:List au} {D h9:List ap} {n:h'} {l l' new cz kq:List (Nat × Value)} {a:Act}
theorem Fr.cut (I:Fr n l a) (h:Ca l (l'.map (·.1))=some l':=by kernel_rfl):Fr n l' a:=I.sub (Qg h)
def Df (D:List ap):List Nat->Option (List ap)
 | []=>some []
 | i::r=>match nth D i,Df D r with
   | some y,some ys=>some (y::ys)
   | _,_=>none
theorem aei:∀ {is:List Nat} {h9:List ap},Df D is=some h9->L2 D h9
 | [],h9,h=>by simp only [Df,Option.some.injEq] at h;subst h;trivial
 | i::r,h9,h=>by
   simp only [Df] at h
   split at h
   · rename_i y ys aI aV
     simp only [Option.some.injEq] at h
     subst h
     exact ⟨⟨i,by rw [<-s4];exact aI⟩,aei aV⟩
   · cases h
theorem aw.eS (h:aw W M0 X w E D) (is:List Nat) (e:Df D is=some h9:=by kernel_rfl):aw W M0 X w E h9:=h.pick (aei e)
theorem aw.a1 (h:aw W M0 X w E D) (VO is:List Nat) (bS:HQ VO=true:=by kernel_rfl) (cf:Dg E VO=some mM:=by kernel_rfl) (e:Df D is=some h9:=by kernel_rfl):aw W M0 X w mM h9:=(h.l2 VO bS cf).eS is e
theorem aH {α:Type} {a b:α} (h:some a=some b):a=b:=Option.some.inj h
theorem os {α:Type} {a b:α} (h:some a=some b):b=a:=(Option.some.inj h).symm
end
end a5
namespace J
structure Kind where
 Kind:Int
 aR:List UInt8
 deriving DecidableEq
structure Handler where
 From:Int
 To:Int
 hB:Int
 aR:List UInt8
 deriving DecidableEq
structure Method where
 Name:List UInt8
 Static:Bool
 bA:List Kind
 Returns:Kind
 cT:Int
 cS:Int
 Code:List UInt8
 bp:List Handler
structure Field where
 Name:List UInt8
 Kind:Kind
 deriving DecidableEq
structure aR where
 Name:List UInt8
 b0:List UInt8
 Fields:List Field
 az:List Method
structure Target where
 aR:Int
 Method:Int
 deriving DecidableEq
structure bC where
 aO:List aR
 aK:List Int
 Fields:List (List Field)
 Names:List (List (List UInt8))
 aL:List (List Target)
structure du where
 l:List aR
 cF:List ((List UInt8) × Int)
 b7:List Int
structure bO where
 Words:List Int
 aA:Int
 aP:Int
 aZ:Int
 aY:Int
 ay:List Int
 Next:Int
structure dI where
 K:bC
structure cy where
 H:bO
 S:dI
 aA:List Int
 aP:List Int
 dm:List (Int × Bool)
end J
